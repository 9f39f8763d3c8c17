/- What the statement's proof builds on: PLawFormulaTextsAsReferencex6. -/
import Derived.Test.YtkgmempifggajaaGreatDoorGF16
import Derived.Test.YtkgmempifggajaaGreatDoorGF17
open Go.Proofs.YtkgmempifggajaaGreatDoor.P (F24 S24 S49 S75 at_T24 at_T49 at_T75 k24 k24_heap k24_mk k24_mkM k24_open k24_openF k24_openM k49 k49_mk k49_open k75 k75_mkM k75_open mono24 rd_T24 rd_T49 rd_T75 sub24 sz24 z24 z49 z75)
namespace Go.Proofs.YtkgmempifggajaaGreatDoor.PLawFormulaTextsAsReference
open Go.RowKit Go.Proofs.YtkgmempifggajaaGreatDoorW.PrintWords Go.Proofs.YtkgmempifggajaaGreatDoorW.PrintLast Go.Proofs.YtkgmempifggajaaGreatDoorW.PrintMore
attribute [local go_sem] max2_int min2_int max_two min_two max_three min_three max_four min_four   -- for this text's walks alone
set_option linter.unusedVariables false
set_option linter.unusedSimpArgs false
mutual
def customhouseref25_written.l0 : Nat → ByteArray → Int → Int → ByteArray → Int → Int → List (S24) → Option (ByteArray)
 | 0, _, _, _, _, _, _, _ => none
 | k + 1, x3, x4, x138000, x138001, x138002, x138003, x138004 => if x4 < (x138004.length : Int) then (if 0 ≤ x4 then ((customhouseref25_written.f k ((rd_T24 x138004 x4).f0) ((rd_T24 x138004 x4).f1) ((rd_T24 x138004 x4).f2) ((rd_T24 x138004 x4).f3) ((rd_T24 x138004 x4).f4)).bind fun t144 => (if ((rd_T24 x138004 x4).f0) = 6 then (customhouseref25_written.j1 k x3 x4 t144 true x138000 x138001 x138002 x138003 x138004) else (if ((rd_T24 x138004 x4).f0) = 5 then (customhouseref25_written.j1 k x3 x4 t144 (x138000 != 6) x138000 x138001 x138002 x138003 x138004) else (customhouseref25_written.j1 k x3 x4 t144 false x138000 x138001 x138002 x138003 x138004)))) else (none)) else (some x3)
def customhouseref25_written.j1 : Nat → ByteArray → Int → ByteArray → Bool → Int → ByteArray → Int → Int → List (S24) → Option (ByteArray)
 | 0, _, _, _, _, _, _, _, _, _ => none
 | k + 1, x3, x4, x5, x61, x138000, x138001, x138002, x138003, x138004 => if x61 = true then (if 1 + x5.size ≤ 9223372036854775807 then (if ((⟨#[40]⟩ : ByteArray) ++ x5).size + 1 ≤ 9223372036854775807 then (customhouseref25_written.j2 k x3 x4 (((⟨#[40]⟩ : ByteArray) ++ x5) ++ (⟨#[41]⟩ : ByteArray)) x138000 x138001 x138002 x138003 x138004) else (none)) else (none)) else (customhouseref25_written.j2 k x3 x4 x5 x138000 x138001 x138002 x138003 x138004)
def customhouseref25_written.j2 : Nat → ByteArray → Int → ByteArray → Int → ByteArray → Int → Int → List (S24) → Option (ByteArray)
 | 0, _, _, _, _, _, _, _, _ => none
 | k + 1, x3, x4, x5, x138000, x138001, x138002, x138003, x138004 => if x138000 = 4 then (if 4 + x5.size ≤ 9223372036854775807 then (if x3.size + ((⟨#[110, 111, 116, 32]⟩ : ByteArray) ++ x5).size ≤ 9223372036854775807 then (customhouseref25_written.l0 k (x3 ++ ((⟨#[110, 111, 116, 32]⟩ : ByteArray) ++ x5)) (wrap64 (x4 + 1)) x138000 x138001 x138002 x138003 x138004) else (none)) else (none)) else (if x4 > 0 then (customhouseref25_written.j3 k x3 x4 x5 (x138000 == 5) x138000 x138001 x138002 x138003 x138004) else (customhouseref25_written.j3 k x3 x4 x5 false x138000 x138001 x138002 x138003 x138004))
def customhouseref25_written.j3 : Nat → ByteArray → Int → ByteArray → Bool → Int → ByteArray → Int → Int → List (S24) → Option (ByteArray)
 | 0, _, _, _, _, _, _, _, _, _ => none
 | k + 1, x3, x4, x5, x71, x138000, x138001, x138002, x138003, x138004 => if x71 = true then (if 5 + x5.size ≤ 9223372036854775807 then (if x3.size + ((⟨#[32, 97, 110, 100, 32]⟩ : ByteArray) ++ x5).size ≤ 9223372036854775807 then (customhouseref25_written.l0 k (x3 ++ ((⟨#[32, 97, 110, 100, 32]⟩ : ByteArray) ++ x5)) (wrap64 (x4 + 1)) x138000 x138001 x138002 x138003 x138004) else (none)) else (none)) else (if x4 > 0 then (if 4 + x5.size ≤ 9223372036854775807 then (if x3.size + ((⟨#[32, 111, 114, 32]⟩ : ByteArray) ++ x5).size ≤ 9223372036854775807 then (customhouseref25_written.l0 k (x3 ++ ((⟨#[32, 111, 114, 32]⟩ : ByteArray) ++ x5)) (wrap64 (x4 + 1)) x138000 x138001 x138002 x138003 x138004) else (none)) else (none)) else (if x3.size + x5.size ≤ 9223372036854775807 then (customhouseref25_written.l0 k (x3 ++ x5) (wrap64 (x4 + 1)) x138000 x138001 x138002 x138003 x138004) else (none)))
def customhouseref25_written.f : Nat → Int → ByteArray → Int → Int → List (S24) → Option (ByteArray)
 | 0, _, _, _, _, _ => none
 | k + 1, a0_0, a0_1, a0_2, a0_3, l0_4 => if a0_0 = 1 then (some (⟨#[116, 114, 117, 101]⟩ : ByteArray)) else (if a0_0 = 2 then (some (⟨#[102, 97, 108, 115, 101]⟩ : ByteArray)) else (if a0_0 = 3 then (if a0_1.size + 1 ≤ 9223372036854775807 then ((customhouseref25_comparisons.f).bind fun t138 => (if 0 ≤ a0_2 then (if a0_2 < (t138.length : Int) then (if (a0_1 ++ (⟨#[32]⟩ : ByteArray)).size + (rdOf ByteArray.empty t138 a0_2).size ≤ 9223372036854775807 then (if ((a0_1 ++ (⟨#[32]⟩ : ByteArray)) ++ (rdOf ByteArray.empty t138 a0_2)).size + 1 ≤ 9223372036854775807 then ((customhouseref01_Decimal.f k a0_3).bind fun t142 => (if (((a0_1 ++ (⟨#[32]⟩ : ByteArray)) ++ (rdOf ByteArray.empty t138 a0_2)) ++ (⟨#[32]⟩ : ByteArray)).size + t142.size ≤ 9223372036854775807 then (some ((((a0_1 ++ (⟨#[32]⟩ : ByteArray)) ++ (rdOf ByteArray.empty t138 a0_2)) ++ (⟨#[32]⟩ : ByteArray)) ++ t142)) else (none))) else (none)) else (none)) else (none)) else (none))) else (none)) else (customhouseref25_written.l0 k (⟨#[]⟩ : ByteArray) 0 a0_0 a0_1 a0_2 a0_3 l0_4)))
end
set_option maxHeartbeats 8000000 in
set_option maxRecDepth 100000 in
theorem customhouseref25_written.calls (k : Nat) : ∀ (a0_0 : Int) (a0_1 : ByteArray) (a0_2 : Int) (a0_3 : Int) (A0_4 : Option Addr) (c0_4 : Nat) (l0_4 : List (S24)) (r : ByteArray) (w : World) (hr0_4 : Kd.C k24 w A0_4 l0_4.length l0_4) (hc0_4 : l0_4.length ≤ c0_4) (h : customhouseref25_written.f k a0_0 a0_1 a0_2 a0_3 l0_4 = some r),
  Calls Tryz.prog 54 #[.agg #[.int .i64 a0_0, .string a0_1, .int .i64 a0_2, .int .i64 a0_3, .slice A0_4 l0_4.length c0_4]] w fun e w' => e = .returned (.string r) ∧ Below w.heap.size w w' := by
 induction k using Nat.strongRecOn with
 | _ k ih =>
 intro a0_0 a0_1 a0_2 a0_3 A0_4 c0_4 l0_4 r w hr0_4 hc0_4 h
 cases k with
 | zero => exact absurd h (by simp [customhouseref25_written.f])
 | succ k =>
 simp only [customhouseref25_written.f] at h
 have hu24 := Tryz.underlying24
 have HR0_4 := Aside0.mk hr0_4
 have HC0_4 := Aside0.mk hc0_4
 clear hr0_4 hc0_4
 have HB := Aside0.mk (Below.refl w.heap.size w)
 have H : (if a0_0 = 1 then (some (⟨#[116, 114, 117, 101]⟩ : ByteArray)) else (if a0_0 = 2 then (some (⟨#[102, 97, 108, 115, 101]⟩ : ByteArray)) else (if a0_0 = 3 then (if a0_1.size + 1 ≤ 9223372036854775807 then ((customhouseref25_comparisons.f).bind fun t138 => (if 0 ≤ a0_2 then (if a0_2 < (t138.length : Int) then (if (a0_1 ++ (⟨#[32]⟩ : ByteArray)).size + (rdOf ByteArray.empty t138 a0_2).size ≤ 9223372036854775807 then (if ((a0_1 ++ (⟨#[32]⟩ : ByteArray)) ++ (rdOf ByteArray.empty t138 a0_2)).size + 1 ≤ 9223372036854775807 then ((customhouseref01_Decimal.f k a0_3).bind fun t142 => (if (((a0_1 ++ (⟨#[32]⟩ : ByteArray)) ++ (rdOf ByteArray.empty t138 a0_2)) ++ (⟨#[32]⟩ : ByteArray)).size + t142.size ≤ 9223372036854775807 then (some ((((a0_1 ++ (⟨#[32]⟩ : ByteArray)) ++ (rdOf ByteArray.empty t138 a0_2)) ++ (⟨#[32]⟩ : ByteArray)) ++ t142)) else (none))) else (none)) else (none)) else (none)) else (none))) else (none)) else (customhouseref25_written.l0 k (⟨#[]⟩ : ByteArray) 0 a0_0 a0_1 a0_2 a0_3 l0_4)))) = some r := h
 clear h
 by_cases c2 : a0_0 = 1
 ·rw [if_pos c2] at H
  have c2b0 : (a0_0 == 1) = true := beq_iff_eq.mpr c2
  have c2b1 : (a0_0 != 1) = false := bne_eq_false_iff_eq.mpr c2
  clear c2
  obtain rfl := Option.some.inj H
  go_enter Tryz.func54, Tryz.ntmps54
  go_wp2_with (first | ((with_reducible refine gate_dst (N := 1) rfl ?_); refine box_event ?hg (N := 1) ?hd (cs := #[.int .i64 a0_0, .string a0_1, .int .i64 a0_2, .int .i64 a0_3, .slice A0_4 l0_4.length c0_4]) (t := 24) ?hr ?_; (case hd => rfl); (case hg => rfl); (case hr => first | (go_simp; done) | (go_simp; rfl)); intro gb137 hg w3 hbox hb; have n0_ := Aside0.mk (below_step (by repeat (first | (with_reducible first | exact HB.out | apply below_alloc | apply pw_below_drewN | apply below_drew1) | exact HB.out)) hb); have n1_ := Aside0.mk (hbox); have n2_ := Aside0.mk ((by rw [hg]; exact (below_size (by repeat (first | (with_reducible first | exact HB.out | apply below_alloc | apply pw_below_drewN | apply below_drew1) | exact HB.out))) : w.heap.size ≤ gb137)); have n3_ := Aside0.mk ((by rw [hg]; exact (below_size (by repeat (first | (with_reducible first | exact HB.out | apply below_alloc | apply pw_below_drewN | apply below_drew1) | exact HB.out))) : w.heap.size ≤ gb137)); clear HB; have HB := n0_; have BK137 := n1_; have GW137 := n2_; have GE137 := n3_; clear n0_ n1_ n2_ n3_; clear hb hbox hg; have hcz4_0 : w3.cell? ⟨gb137, 0, none⟩ = some (.int .i64 a0_0) := (blk_cell BK137.out 0).trans rfl; have hcz4_1 : w3.cell? ⟨gb137, 1, none⟩ = some (.string a0_1) := (blk_cell BK137.out 1).trans rfl; have hcz4_2 : w3.cell? ⟨gb137, 2, none⟩ = some (.int .i64 a0_2) := (blk_cell BK137.out 2).trans rfl; have hcz4_3 : w3.cell? ⟨gb137, 3, none⟩ = some (.int .i64 a0_3) := (blk_cell BK137.out 3).trans rfl; have hcz4_4 : w3.cell? ⟨gb137, 4, none⟩ = some (.slice A0_4 l0_4.length c0_4) := (blk_cell BK137.out 4).trans rfl; have hfz4_0 := blk_frozen BK137.out 0; have hfz4_1 := blk_frozen BK137.out 1; have hfz4_2 := blk_frozen BK137.out 2; have hfz4_3 := blk_frozen BK137.out 3; have hfz4_4 := blk_frozen BK137.out 4))
  go_ret
  exact ⟨by first | rfl | (simp [errW_none, errW_some] <;> rfl) | (simp [*, errW_none, errW_some] <;> rfl), by repeat (first | (with_reducible first | exact HB.out | apply below_alloc | apply pw_below_drewN | apply below_drew1 | refine below_set ?_ GE137.out) | exact HB.out)⟩
 ·rw [if_neg c2] at H
  have c2b0 : (a0_0 == 1) = false := beq_eq_false_iff_ne.mpr c2
  have c2b1 : (a0_0 != 1) = true := bne_iff_ne.mpr c2
  by_cases c5 : a0_0 = 2
  ·rw [if_pos c5] at H
   have c5b0 : (a0_0 == 2) = true := beq_iff_eq.mpr c5
   have c5b1 : (a0_0 != 2) = false := bne_eq_false_iff_eq.mpr c5
   clear c5
   obtain rfl := Option.some.inj H
   go_enter Tryz.func54, Tryz.ntmps54
   go_wp2_with (first | ((with_reducible refine gate_dst (N := 1) rfl ?_); refine box_event ?hg (N := 1) ?hd (cs := #[.int .i64 a0_0, .string a0_1, .int .i64 a0_2, .int .i64 a0_3, .slice A0_4 l0_4.length c0_4]) (t := 24) ?hr ?_; (case hd => rfl); (case hg => rfl); (case hr => first | (go_simp; done) | (go_simp; rfl)); intro gb137 hg w6 hbox hb; have n0_ := Aside0.mk (below_step (by repeat (first | (with_reducible first | exact HB.out | apply below_alloc | apply pw_below_drewN | apply below_drew1) | exact HB.out)) hb); have n1_ := Aside0.mk (hbox); have n2_ := Aside0.mk ((by rw [hg]; exact (below_size (by repeat (first | (with_reducible first | exact HB.out | apply below_alloc | apply pw_below_drewN | apply below_drew1) | exact HB.out))) : w.heap.size ≤ gb137)); have n3_ := Aside0.mk ((by rw [hg]; exact (below_size (by repeat (first | (with_reducible first | exact HB.out | apply below_alloc | apply pw_below_drewN | apply below_drew1) | exact HB.out))) : w.heap.size ≤ gb137)); clear HB; have HB := n0_; have BK137 := n1_; have GW137 := n2_; have GE137 := n3_; clear n0_ n1_ n2_ n3_; clear hb hbox hg; have hcz7_0 : w6.cell? ⟨gb137, 0, none⟩ = some (.int .i64 a0_0) := (blk_cell BK137.out 0).trans rfl; have hcz7_1 : w6.cell? ⟨gb137, 1, none⟩ = some (.string a0_1) := (blk_cell BK137.out 1).trans rfl; have hcz7_2 : w6.cell? ⟨gb137, 2, none⟩ = some (.int .i64 a0_2) := (blk_cell BK137.out 2).trans rfl; have hcz7_3 : w6.cell? ⟨gb137, 3, none⟩ = some (.int .i64 a0_3) := (blk_cell BK137.out 3).trans rfl; have hcz7_4 : w6.cell? ⟨gb137, 4, none⟩ = some (.slice A0_4 l0_4.length c0_4) := (blk_cell BK137.out 4).trans rfl; have hfz7_0 := blk_frozen BK137.out 0; have hfz7_1 := blk_frozen BK137.out 1; have hfz7_2 := blk_frozen BK137.out 2; have hfz7_3 := blk_frozen BK137.out 3; have hfz7_4 := blk_frozen BK137.out 4))
   go_ret
   exact ⟨by first | rfl | (simp [errW_none, errW_some] <;> rfl) | (simp [*, errW_none, errW_some] <;> rfl), by repeat (first | (with_reducible first | exact HB.out | apply below_alloc | apply pw_below_drewN | apply below_drew1 | refine below_set ?_ GE137.out) | exact HB.out)⟩
  ·rw [if_neg c5] at H
   have c5b0 : (a0_0 == 2) = false := beq_eq_false_iff_ne.mpr c5
   have c5b1 : (a0_0 != 2) = true := bne_iff_ne.mpr c5
   by_cases c8 : a0_0 = 3
   ·rw [if_pos c8] at H
    have c8b0 : (a0_0 == 3) = true := beq_iff_eq.mpr c8
    have c8b1 : (a0_0 != 3) = false := bne_eq_false_iff_eq.mpr c8
    clear c8
    by_cases c9 : a0_1.size + 1 ≤ 9223372036854775807
    ·rw [if_pos c9] at H
     have c9b0 := eq_true c9
     have c9b1 : decide (a0_1.size + 1 ≤ 9223372036854775807) = true := decide_eq_true c9
     try have c9b2 : (9223372036854775807 < a0_1.size + 1) = False := eq_false (Nat.not_lt.2 c9)
     replace H := Option.bind_eq_some_iff.mp H
     obtain ⟨t138, A100, H⟩ := H
     replace H : (if 0 ≤ a0_2 then (if a0_2 < (t138.length : Int) then (if (a0_1 ++ (⟨#[32]⟩ : ByteArray)).size + (rdOf ByteArray.empty t138 a0_2).size ≤ 9223372036854775807 then (if ((a0_1 ++ (⟨#[32]⟩ : ByteArray)) ++ (rdOf ByteArray.empty t138 a0_2)).size + 1 ≤ 9223372036854775807 then ((customhouseref01_Decimal.f k a0_3).bind fun t142 => (if (((a0_1 ++ (⟨#[32]⟩ : ByteArray)) ++ (rdOf ByteArray.empty t138 a0_2)) ++ (⟨#[32]⟩ : ByteArray)).size + t142.size ≤ 9223372036854775807 then (some ((((a0_1 ++ (⟨#[32]⟩ : ByteArray)) ++ (rdOf ByteArray.empty t138 a0_2)) ++ (⟨#[32]⟩ : ByteArray)) ++ t142)) else (none))) else (none)) else (none)) else (none)) else (none)) = some r := H
     have A10 := Aside0.mk A100
     clear A100
     by_cases c11 : 0 ≤ a0_2
     ·rw [if_pos c11] at H
      have c11b0 : decide (0 ≤ a0_2) = true := decide_eq_true c11
      clear c11
      by_cases c12 : a0_2 < (t138.length : Int)
      ·rw [if_pos c12] at H
       have c12b0 : decide (a0_2 < (t138.length : Int)) = true := decide_eq_true c12
       clear c12
       by_cases c13 : (a0_1 ++ (⟨#[32]⟩ : ByteArray)).size + (rdOf ByteArray.empty t138 a0_2).size ≤ 9223372036854775807
       ·rw [if_pos c13] at H
        have c13b0 := eq_true c13
        have c13b1 : decide ((a0_1 ++ (⟨#[32]⟩ : ByteArray)).size + (rdOf ByteArray.empty t138 a0_2).size ≤ 9223372036854775807) = true := decide_eq_true c13
        try have c13b2 : (9223372036854775807 < (a0_1 ++ (⟨#[32]⟩ : ByteArray)).size + (rdOf ByteArray.empty t138 a0_2).size) = False := eq_false (Nat.not_lt.2 c13)
        try (have c13b3 := c13; simp only [ByteArray.size_append] at c13b3; replace c13b3 : (9223372036854775807 < a0_1.size + 1 + (rdOf ByteArray.empty t138 a0_2).size) = False := eq_false (Nat.not_lt.2 c13b3))
        by_cases c14 : ((a0_1 ++ (⟨#[32]⟩ : ByteArray)) ++ (rdOf ByteArray.empty t138 a0_2)).size + 1 ≤ 9223372036854775807
        ·rw [if_pos c14] at H
         have c14b0 := eq_true c14
         have c14b1 : decide (((a0_1 ++ (⟨#[32]⟩ : ByteArray)) ++ (rdOf ByteArray.empty t138 a0_2)).size + 1 ≤ 9223372036854775807) = true := decide_eq_true c14
         try have c14b2 : (9223372036854775807 < ((a0_1 ++ (⟨#[32]⟩ : ByteArray)) ++ (rdOf ByteArray.empty t138 a0_2)).size + 1) = False := eq_false (Nat.not_lt.2 c14)
         try (have c14b3 := c14; simp only [ByteArray.size_append] at c14b3; replace c14b3 : (9223372036854775807 < a0_1.size + 1 + (rdOf ByteArray.empty t138 a0_2).size + 1) = False := eq_false (Nat.not_lt.2 c14b3))
         replace H := Option.bind_eq_some_iff.mp H
         obtain ⟨t142, A150, H⟩ := H
         replace H : (if (((a0_1 ++ (⟨#[32]⟩ : ByteArray)) ++ (rdOf ByteArray.empty t138 a0_2)) ++ (⟨#[32]⟩ : ByteArray)).size + t142.size ≤ 9223372036854775807 then (some ((((a0_1 ++ (⟨#[32]⟩ : ByteArray)) ++ (rdOf ByteArray.empty t138 a0_2)) ++ (⟨#[32]⟩ : ByteArray)) ++ t142)) else (none)) = some r := H
         have A15 := Aside0.mk A150
         clear A150
         by_cases c16 : (((a0_1 ++ (⟨#[32]⟩ : ByteArray)) ++ (rdOf ByteArray.empty t138 a0_2)) ++ (⟨#[32]⟩ : ByteArray)).size + t142.size ≤ 9223372036854775807
         ·rw [if_pos c16] at H
          have c16b0 := eq_true c16
          have c16b1 : decide ((((a0_1 ++ (⟨#[32]⟩ : ByteArray)) ++ (rdOf ByteArray.empty t138 a0_2)) ++ (⟨#[32]⟩ : ByteArray)).size + t142.size ≤ 9223372036854775807) = true := decide_eq_true c16
          try have c16b2 : (9223372036854775807 < (((a0_1 ++ (⟨#[32]⟩ : ByteArray)) ++ (rdOf ByteArray.empty t138 a0_2)) ++ (⟨#[32]⟩ : ByteArray)).size + t142.size) = False := eq_false (Nat.not_lt.2 c16)
          try (have c16b3 := c16; simp only [ByteArray.size_append] at c16b3; replace c16b3 : (9223372036854775807 < a0_1.size + 1 + (rdOf ByteArray.empty t138 a0_2).size + 1 + t142.size) = False := eq_false (Nat.not_lt.2 c16b3))
          obtain rfl := Option.some.inj H
          go_enter Tryz.func54, Tryz.ntmps54
          try go_wp2_with (first | ((with_reducible refine gate_dst (N := 1) rfl ?_); refine box_event ?hg (N := 1) ?hd (cs := #[.int .i64 a0_0, .string a0_1, .int .i64 a0_2, .int .i64 a0_3, .slice A0_4 l0_4.length c0_4]) (t := 24) ?hr ?_; (case hd => rfl); (case hg => rfl); (case hr => first | (go_simp; done) | (go_simp; rfl)); intro gb137 hg w17 hbox hb; have n0_ := Aside0.mk (below_step (by repeat (first | (with_reducible first | exact HB.out | apply below_alloc | apply pw_below_drewN | apply below_drew1) | exact HB.out)) hb); have n1_ := Aside0.mk (hbox); have n2_ := Aside0.mk ((by rw [hg]; exact (below_size (by repeat (first | (with_reducible first | exact HB.out | apply below_alloc | apply pw_below_drewN | apply below_drew1) | exact HB.out))) : w.heap.size ≤ gb137)); have n3_ := Aside0.mk ((by rw [hg]; exact (below_size (by repeat (first | (with_reducible first | exact HB.out | apply below_alloc | apply pw_below_drewN | apply below_drew1) | exact HB.out))) : w.heap.size ≤ gb137)); clear HB; have HB := n0_; have BK137 := n1_; have GW137 := n2_; have GE137 := n3_; clear n0_ n1_ n2_ n3_; clear hb hbox hg; have hcz18_0 : w17.cell? ⟨gb137, 0, none⟩ = some (.int .i64 a0_0) := (blk_cell BK137.out 0).trans rfl; have hcz18_1 : w17.cell? ⟨gb137, 1, none⟩ = some (.string a0_1) := (blk_cell BK137.out 1).trans rfl; have hcz18_2 : w17.cell? ⟨gb137, 2, none⟩ = some (.int .i64 a0_2) := (blk_cell BK137.out 2).trans rfl; have hcz18_3 : w17.cell? ⟨gb137, 3, none⟩ = some (.int .i64 a0_3) := (blk_cell BK137.out 3).trans rfl; have hcz18_4 : w17.cell? ⟨gb137, 4, none⟩ = some (.slice A0_4 l0_4.length c0_4) := (blk_cell BK137.out 4).trans rfl; have hfz18_0 := blk_frozen BK137.out 0; have hfz18_1 := blk_frozen BK137.out 1; have hfz18_2 := blk_frozen BK137.out 2; have hfz18_3 := blk_frozen BK137.out 3; have hfz18_4 := blk_frozen BK137.out 4))
          have n0_ := Aside0.mk (blk_drew BK137.out)
          have n1_ := Aside0.mk (below_drew1 HB.out)
          clear BK137
          clear HB
          have BK137 := n0_
          have HB := n1_
          clear n0_ n1_
          have s_c13 := c13
          simp only [ByteArray.size_append] at s_c13
          replace s_c13 : (9223372036854775807 < a0_1.size + 1 + (rdOf ByteArray.empty t138 a0_2).size) = False := eq_false (Nat.not_lt.2 s_c13)
          have s_c14 := c14
          simp only [ByteArray.size_append] at s_c14
          replace s_c14 : (9223372036854775807 < a0_1.size + 1 + (rdOf ByteArray.empty t138 a0_2).size + 1) = False := eq_false (Nat.not_lt.2 s_c14)
          have s_c16 := c16
          simp only [ByteArray.size_append] at s_c16
          replace s_c16 : (9223372036854775807 < a0_1.size + 1 + (rdOf ByteArray.empty t138 a0_2).size + 1 + t142.size) = False := eq_false (Nat.not_lt.2 s_c16)
          refine wp_region_held_drew (S := fun w' => w'.cell? ⟨gb137, 0, none⟩ = some (.int .i64 a0_0) ∧ w'.cell? ⟨gb137, 1, none⟩ = some (.string a0_1) ∧ w'.cell? ⟨gb137, 2, none⟩ = some (.int .i64 a0_2) ∧ w'.cell? ⟨gb137, 3, none⟩ = some (.int .i64 a0_3) ∧ w'.cell? ⟨gb137, 4, none⟩ = some (.slice A0_4 l0_4.length c0_4)) (by kernel_rfl) ⟨(blk_cell BK137.out 0).trans rfl, (blk_cell BK137.out 1).trans rfl, (blk_cell BK137.out 2).trans rfl, (blk_cell BK137.out 3).trans rfl, (blk_cell BK137.out 4).trans rfl⟩ (fun hH0 => ?_)
          generalize w17.drew = w19 at BK137 HB hH0 ⊢
          refine wpAnyH_take (i := 0) (oi := { dst := some 14, op := Op.fieldAddr 24 (Operand.tmp 1) 1, type := 0, pos := "ref.go:174", after := #[], guard := none }) (v := ?_) rfl (by kernel_rfl) (by kernel_rfl) (by kernel_rfl) (fun _ _ _ h => h) (Or.inl ⟨by rfl, ?_⟩) hH0 ?_
          rotate_left 1
          ·rintro w' ⟨s0, s1, s2, s3, s4⟩
           go_simp
           first | done | (with_reducible rfl)
          try simp only [Act.put, List.setIfInBounds_toArray, List.set_cons_zero, List.set_cons_succ, i64_w, i32_w]
          refine wpAnyH_take (i := 1) (oi := { dst := some 15, op := Op.load 9 (Operand.tmp 14), type := 9, pos := "ref.go:174", after := #[{ on := 0, ground := Ground.data }], guard := none }) (v := ?_) rfl (by kernel_rfl) (by kernel_rfl) (by kernel_rfl) (fun _ _ _ h => h) (Or.inl ⟨by rfl, ?_⟩) hH0 ?_
          rotate_left 1
          ·rintro w' ⟨s0, s1, s2, s3, s4⟩
           go_simp
           first | done | (with_reducible rfl)
          try simp only [Act.put, List.setIfInBounds_toArray, List.set_cons_zero, List.set_cons_succ, i64_w, i32_w]
          refine wpAnyH_take (i := 2) (oi := { dst := some 16, op := Op.binOp BinOp.add 9 (Operand.tmp 15) (Operand.const (Value.string { data := #[32] })) 9, type := 9, pos := "ref.go:174", after := #[{ on := 1, ground := Ground.data }], guard := none }) (v := ?_) rfl (by kernel_rfl) (by kernel_rfl) (by kernel_rfl) (fun _ _ _ h => h) (Or.inl ⟨by rfl, ?_⟩) hH0 ?_
          rotate_left 1
          ·rintro w' ⟨s0, s1, s2, s3, s4⟩
           go_simp
           first | done | (with_reducible rfl)
          try simp only [Act.put, List.setIfInBounds_toArray, List.set_cons_zero, List.set_cons_succ, i64_w, i32_w]
          refine wpAnyH_take (i := 4) (oi := { dst := some 18, op := Op.fieldAddr 24 (Operand.tmp 1) 2, type := 0, pos := "ref.go:174", after := #[], guard := none }) (v := ?_) rfl (by kernel_rfl) (by kernel_rfl) (by kernel_rfl) (fun _ _ _ h => h) (Or.inl ⟨by rfl, ?_⟩) hH0 ?_
          rotate_left 1
          ·rintro w' ⟨s0, s1, s2, s3, s4⟩
           go_simp
           first | done | (with_reducible rfl)
          try simp only [Act.put, List.setIfInBounds_toArray, List.set_cons_zero, List.set_cons_succ, i64_w, i32_w]
          refine wpAnyH_take (i := 5) (oi := { dst := some 19, op := Op.load 3 (Operand.tmp 18), type := 3, pos := "ref.go:174", after := #[{ on := 4, ground := Ground.data }], guard := none }) (v := ?_) rfl (by kernel_rfl) (by kernel_rfl) (by kernel_rfl) (fun _ _ _ h => h) (Or.inl ⟨by rfl, ?_⟩) hH0 ?_
          rotate_left 1
          ·rintro w' ⟨s0, s1, s2, s3, s4⟩
           go_simp
           first | done | (with_reducible rfl)
          try simp only [Act.put, List.setIfInBounds_toArray, List.set_cons_zero, List.set_cons_succ, i64_w, i32_w]
          refine wpAnyH_take (i := 10) (oi := { dst := some 24, op := Op.fieldAddr 24 (Operand.tmp 1) 3, type := 0, pos := "ref.go:174", after := #[], guard := none }) (v := ?_) rfl (by kernel_rfl) (by kernel_rfl) (by kernel_rfl) (fun _ _ _ h => h) (Or.inl ⟨by rfl, ?_⟩) hH0 ?_
          rotate_left 1
          ·rintro w' ⟨s0, s1, s2, s3, s4⟩
           go_simp
           first | done | (with_reducible rfl)
          try simp only [Act.put, List.setIfInBounds_toArray, List.set_cons_zero, List.set_cons_succ, i64_w, i32_w]
          refine wpAnyH_take (i := 11) (oi := { dst := some 25, op := Op.load 3 (Operand.tmp 24), type := 3, pos := "ref.go:174", after := #[{ on := 10, ground := Ground.data }], guard := none }) (v := ?_) rfl (by kernel_rfl) (by kernel_rfl) (by kernel_rfl) (fun _ _ _ h => h) (Or.inl ⟨by rfl, ?_⟩) hH0 ?_
          rotate_left 1
          ·rintro w' ⟨s0, s1, s2, s3, s4⟩
           go_simp
           first | done | (with_reducible rfl)
          try simp only [Act.put, List.setIfInBounds_toArray, List.set_cons_zero, List.set_cons_succ, i64_w, i32_w]
          refine wpAnyH_ready (rs := [3]) (by kernel_rfl) (by simp) ?_
          refine AllReadyH.cons (o := { dst := some 17, op := Op.call { callee := Callee.value (Operand.func 75), args := #[], argTypes := #[] }, type := 86, pos := "ref.go:174", after := #[], guard := none }) rfl (fun K hK => ?_) AllReadyH.nil
          go_simp
          refine (customhouseref25_comparisons.calls  t138 _ A10.out).mono ?_
          rintro e w20 ⟨v139, rfl, ho0, hb⟩
          try go_wp2_with fail
          have HO140 := Aside0.mk (Kd.R_lower ho0 (below_size HB.out))
          have n1_ := Aside0.mk (blk_below (g := gb137) (o := .cells #[.int .i64 a0_0, .string a0_1, .int .i64 a0_2, .int .i64 a0_3, .slice A0_4 l0_4.length c0_4] 24 (0, 0)) BK137.out hb)
          have n2_ := Aside0.mk (below_step HB.out hb)
          clear BK137 HB ho0 hb
          have BK137 := n1_
          have HB := n2_
          clear n1_ n2_
          obtain ⟨Ao21, co21, eo21⟩ := Kd.R_slice HO140.out
          subst eo21
          have p141 : 0 ≤ (a0_2 : Int) := of_decide_eq_true (by first | (with_reducible assumption) | assumption)
          have q141 : a0_2 < (t138.length : Int) := of_decide_eq_true (by first | (with_reducible assumption) | assumption)
          obtain ⟨ad141, e141, hx141_0⟩ := Kd.at_string (Kd.R_reads' HO140.out).2.2 a0_2 p141 q141
          cases e141
          replace p141 := eq_true p141
          replace q141 := eq_true q141
          refine hK.out _ _ ⟨(blk_cell BK137.out 0).trans rfl, (blk_cell BK137.out 1).trans rfl, (blk_cell BK137.out 2).trans rfl, (blk_cell BK137.out 3).trans rfl, (blk_cell BK137.out 4).trans rfl⟩ (fun hH1 => ?_)
          clear hK K hH0
          try simp only [Act.put, List.setIfInBounds_toArray, List.set_cons_zero, List.set_cons_succ, i64_w, i32_w]
          refine wpAnyH_take (i := 6) (oi := { dst := some 20, op := Op.indexAddr 86 (Operand.tmp 17) (Operand.tmp 19), type := 0, pos := "ref.go:174", after := #[{ on := 3, ground := Ground.data }, { on := 5, ground := Ground.data }], guard := none }) (v := ?_) rfl (by kernel_rfl) (by kernel_rfl) (by kernel_rfl) (fun _ _ _ h => h) (Or.inl ⟨by rfl, ?_⟩) hH1 ?_
          rotate_left 1
          ·rintro w' ⟨s0, s1, s2, s3, s4⟩
           go_simp
           first | done | (with_reducible rfl)
          try simp only [Act.put, List.setIfInBounds_toArray, List.set_cons_zero, List.set_cons_succ, i64_w, i32_w]
          refine wpAnyH_ready (rs := [7, 12]) (by kernel_rfl) (by simp) ?_
          refine AllReadyH.cons (o := { dst := some 21, op := Op.load 9 (Operand.tmp 20), type := 9, pos := "ref.go:174", after := #[{ on := 6, ground := Ground.data }], guard := none }) rfl (fun K hK => ?_) (AllReadyH.cons (o := { dst := some 26, op := Op.call { callee := Callee.value (Operand.func 76), args := #[Operand.tmp 25], argTypes := #[3] }, type := 9, pos := "ref.go:174", after := #[{ on := 11, ground := Ground.data }, { on := 3, ground := Ground.chain }], guard := none }) rfl (fun K hK => ?_) AllReadyH.nil)
          ·go_simp
           refine hK.out _ _ ⟨(blk_cell BK137.out 0).trans rfl, (blk_cell BK137.out 1).trans rfl, (blk_cell BK137.out 2).trans rfl, (blk_cell BK137.out 3).trans rfl, (blk_cell BK137.out 4).trans rfl⟩ (fun hH2 => ?_)
           clear hK K hH1
           try simp only [Act.put, List.setIfInBounds_toArray, List.set_cons_zero, List.set_cons_succ, i64_w, i32_w]
           refine wpAnyH_take (i := 8) (oi := { dst := some 22, op := Op.binOp BinOp.add 9 (Operand.tmp 16) (Operand.tmp 21) 9, type := 9, pos := "ref.go:174", after := #[{ on := 2, ground := Ground.data }, { on := 7, ground := Ground.data }], guard := none }) (v := ?_) rfl (by kernel_rfl) (by kernel_rfl) (by kernel_rfl) (fun _ _ _ h => h) (Or.inl ⟨by rfl, ?_⟩) hH2 ?_
           rotate_left 1
           ·rintro w' ⟨s0, s1, s2, s3, s4⟩
            go_simp
            first | done | (with_reducible rfl)
           try simp only [Act.put, List.setIfInBounds_toArray, List.set_cons_zero, List.set_cons_succ, i64_w, i32_w]
           refine wpAnyH_take (i := 9) (oi := { dst := some 23, op := Op.binOp BinOp.add 9 (Operand.tmp 22) (Operand.const (Value.string { data := #[32] })) 9, type := 9, pos := "ref.go:174", after := #[{ on := 8, ground := Ground.data }], guard := none }) (v := ?_) rfl (by kernel_rfl) (by kernel_rfl) (by kernel_rfl) (fun _ _ _ h => h) (Or.inl ⟨by rfl, ?_⟩) hH2 ?_
           rotate_left 1
           ·rintro w' ⟨s0, s1, s2, s3, s4⟩
            go_simp
            first | done | (with_reducible rfl)
           try simp only [Act.put, List.setIfInBounds_toArray, List.set_cons_zero, List.set_cons_succ, i64_w, i32_w]
           refine wpAnyH_ready (rs := [12]) (by kernel_rfl) (by simp) ?_
           refine AllReadyH.cons (o := { dst := some 26, op := Op.call { callee := Callee.value (Operand.func 76), args := #[Operand.tmp 25], argTypes := #[3] }, type := 9, pos := "ref.go:174", after := #[{ on := 11, ground := Ground.data }, { on := 3, ground := Ground.chain }], guard := none }) rfl (fun K hK => ?_) AllReadyH.nil
           go_simp
           refine (customhouseref01_Decimal.calls k a0_3 t142 _ A15.out).mono ?_
           rintro e w' ⟨rfl, ⟨nd, rfl⟩⟩
           try go_wp2_with fail
           have n1_ := Aside0.mk (show (World.drewN _ nd).heap[gb137]? = _ from BK137.out)
           have n2_ := Aside0.mk (below_drewN HB.out nd)
           clear BK137 HB
           have BK137 := n1_
           have HB := n2_
           clear n1_ n2_
           refine hK.out _ _ ⟨(blk_cell BK137.out 0).trans rfl, (blk_cell BK137.out 1).trans rfl, (blk_cell BK137.out 2).trans rfl, (blk_cell BK137.out 3).trans rfl, (blk_cell BK137.out 4).trans rfl⟩ (fun hH3 => ?_)
           clear hK K hH2
           try simp only [Act.put, List.setIfInBounds_toArray, List.set_cons_zero, List.set_cons_succ, i64_w, i32_w]
           refine wpAnyH_take (i := 13) (oi := { dst := some 27, op := Op.binOp BinOp.add 9 (Operand.tmp 23) (Operand.tmp 26) 9, type := 9, pos := "ref.go:174", after := #[{ on := 9, ground := Ground.data }, { on := 12, ground := Ground.data }], guard := none }) (v := ?_) rfl (by kernel_rfl) (by kernel_rfl) (by kernel_rfl) (fun _ _ _ h => h) (Or.inl ⟨by rfl, ?_⟩) hH3 ?_
           rotate_left 1
           ·rintro w' ⟨s0, s1, s2, s3, s4⟩
            go_simp
            first | done | (with_reducible rfl)
           try simp only [Act.put, List.setIfInBounds_toArray, List.set_cons_zero, List.set_cons_succ, i64_w, i32_w]
           refine wpAnyH_take (i := 14) (oi := { dst := some 2, op := Op.assign (Operand.tmp 27), type := 9, pos := "ref.go:174", after := #[{ on := 13, ground := Ground.data }, { on := 12, ground := Ground.chain }, { on := 0, ground := Ground.phase }, { on := 1, ground := Ground.phase }, { on := 2, ground := Ground.phase }, { on := 3, ground := Ground.phase }, { on := 4, ground := Ground.phase }, { on := 5, ground := Ground.phase }, { on := 6, ground := Ground.phase }, { on := 7, ground := Ground.phase }, { on := 8, ground := Ground.phase }, { on := 9, ground := Ground.phase }, { on := 10, ground := Ground.phase }, { on := 11, ground := Ground.phase }, { on := 12, ground := Ground.phase }, { on := 13, ground := Ground.phase }], guard := none }) (v := ?_) rfl (by kernel_rfl) (by kernel_rfl) (by kernel_rfl) (fun _ _ _ h => h) (Or.inl ⟨by rfl, ?_⟩) hH3 ?_
           rotate_left 1
           ·rintro w' ⟨s0, s1, s2, s3, s4⟩
            go_simp
            first | done | (with_reducible rfl)
           try simp only [Act.put, List.setIfInBounds_toArray, List.set_cons_zero, List.set_cons_succ, i64_w, i32_w]
           refine wpAnyH_done (by kernel_rfl) ?_ _
           try go_wp2
           go_ret
           exact ⟨rfl, by first | exact HB.out | (simp only [World.drewN]; exact HB.out)⟩
          ·go_simp
           refine (customhouseref01_Decimal.calls k a0_3 t142 _ A15.out).mono ?_
           rintro e w' ⟨rfl, ⟨nd, rfl⟩⟩
           try go_wp2_with fail
           have n1_ := Aside0.mk (show (World.drewN _ nd).heap[gb137]? = _ from BK137.out)
           have n2_ := Aside0.mk (below_drewN HB.out nd)
           clear BK137 HB
           have BK137 := n1_
           have HB := n2_
           clear n1_ n2_
           refine hK.out _ _ ⟨(blk_cell BK137.out 0).trans rfl, (blk_cell BK137.out 1).trans rfl, (blk_cell BK137.out 2).trans rfl, (blk_cell BK137.out 3).trans rfl, (blk_cell BK137.out 4).trans rfl⟩ (fun hH2 => ?_)
           clear hK K hH1
           try simp only [Act.put, List.setIfInBounds_toArray, List.set_cons_zero, List.set_cons_succ, i64_w, i32_w]
           refine wpAnyH_ready (rs := [7]) (by kernel_rfl) (by simp) ?_
           refine AllReadyH.cons (o := { dst := some 21, op := Op.load 9 (Operand.tmp 20), type := 9, pos := "ref.go:174", after := #[{ on := 6, ground := Ground.data }], guard := none }) rfl (fun K hK => ?_) AllReadyH.nil
           go_simp
           refine hK.out _ _ ⟨(blk_cell BK137.out 0).trans rfl, (blk_cell BK137.out 1).trans rfl, (blk_cell BK137.out 2).trans rfl, (blk_cell BK137.out 3).trans rfl, (blk_cell BK137.out 4).trans rfl⟩ (fun hH3 => ?_)
           clear hK K hH2
           try simp only [Act.put, List.setIfInBounds_toArray, List.set_cons_zero, List.set_cons_succ, i64_w, i32_w]
           refine wpAnyH_take (i := 8) (oi := { dst := some 22, op := Op.binOp BinOp.add 9 (Operand.tmp 16) (Operand.tmp 21) 9, type := 9, pos := "ref.go:174", after := #[{ on := 2, ground := Ground.data }, { on := 7, ground := Ground.data }], guard := none }) (v := ?_) rfl (by kernel_rfl) (by kernel_rfl) (by kernel_rfl) (fun _ _ _ h => h) (Or.inl ⟨by rfl, ?_⟩) hH3 ?_
           rotate_left 1
           ·rintro w' ⟨s0, s1, s2, s3, s4⟩
            go_simp
            first | done | (with_reducible rfl)
           try simp only [Act.put, List.setIfInBounds_toArray, List.set_cons_zero, List.set_cons_succ, i64_w, i32_w]
           refine wpAnyH_take (i := 9) (oi := { dst := some 23, op := Op.binOp BinOp.add 9 (Operand.tmp 22) (Operand.const (Value.string { data := #[32] })) 9, type := 9, pos := "ref.go:174", after := #[{ on := 8, ground := Ground.data }], guard := none }) (v := ?_) rfl (by kernel_rfl) (by kernel_rfl) (by kernel_rfl) (fun _ _ _ h => h) (Or.inl ⟨by rfl, ?_⟩) hH3 ?_
           rotate_left 1
           ·rintro w' ⟨s0, s1, s2, s3, s4⟩
            go_simp
            first | done | (with_reducible rfl)
           try simp only [Act.put, List.setIfInBounds_toArray, List.set_cons_zero, List.set_cons_succ, i64_w, i32_w]
           refine wpAnyH_take (i := 13) (oi := { dst := some 27, op := Op.binOp BinOp.add 9 (Operand.tmp 23) (Operand.tmp 26) 9, type := 9, pos := "ref.go:174", after := #[{ on := 9, ground := Ground.data }, { on := 12, ground := Ground.data }], guard := none }) (v := ?_) rfl (by kernel_rfl) (by kernel_rfl) (by kernel_rfl) (fun _ _ _ h => h) (Or.inl ⟨by rfl, ?_⟩) hH3 ?_
           rotate_left 1
           ·rintro w' ⟨s0, s1, s2, s3, s4⟩
            go_simp
            first | done | (with_reducible rfl)
           try simp only [Act.put, List.setIfInBounds_toArray, List.set_cons_zero, List.set_cons_succ, i64_w, i32_w]
           refine wpAnyH_take (i := 14) (oi := { dst := some 2, op := Op.assign (Operand.tmp 27), type := 9, pos := "ref.go:174", after := #[{ on := 13, ground := Ground.data }, { on := 12, ground := Ground.chain }, { on := 0, ground := Ground.phase }, { on := 1, ground := Ground.phase }, { on := 2, ground := Ground.phase }, { on := 3, ground := Ground.phase }, { on := 4, ground := Ground.phase }, { on := 5, ground := Ground.phase }, { on := 6, ground := Ground.phase }, { on := 7, ground := Ground.phase }, { on := 8, ground := Ground.phase }, { on := 9, ground := Ground.phase }, { on := 10, ground := Ground.phase }, { on := 11, ground := Ground.phase }, { on := 12, ground := Ground.phase }, { on := 13, ground := Ground.phase }], guard := none }) (v := ?_) rfl (by kernel_rfl) (by kernel_rfl) (by kernel_rfl) (fun _ _ _ h => h) (Or.inl ⟨by rfl, ?_⟩) hH3 ?_
           rotate_left 1
           ·rintro w' ⟨s0, s1, s2, s3, s4⟩
            go_simp
            first | done | (with_reducible rfl)
           try simp only [Act.put, List.setIfInBounds_toArray, List.set_cons_zero, List.set_cons_succ, i64_w, i32_w]
           refine wpAnyH_done (by kernel_rfl) ?_ _
           try go_wp2
           go_ret
           exact ⟨rfl, by first | exact HB.out | (simp only [World.drewN]; exact HB.out)⟩
         ·rw [if_neg c16] at H
          exact absurd H (by simp)
        ·rw [if_neg c14] at H
         exact absurd H (by simp)
       ·rw [if_neg c13] at H
        exact absurd H (by simp)
      ·rw [if_neg c12] at H
       exact absurd H (by simp)
     ·rw [if_neg c11] at H
      exact absurd H (by simp)
    ·rw [if_neg c9] at H
     exact absurd H (by simp)
   ·rw [if_neg c8] at H
    have c8b0 : (a0_0 == 3) = false := beq_eq_false_iff_ne.mpr c8
    have c8b1 : (a0_0 != 3) = true := bne_iff_ne.mpr c8
    have H' := Aside0.mk H
    clear H
    go_enter Tryz.func54, Tryz.ntmps54
    go_wp2_with (first | ((with_reducible refine gate_dst (N := 1) rfl ?_); refine box_event ?hg (N := 1) ?hd (cs := #[.int .i64 a0_0, .string a0_1, .int .i64 a0_2, .int .i64 a0_3, .slice A0_4 l0_4.length c0_4]) (t := 24) ?hr ?_; (case hd => rfl); (case hg => rfl); (case hr => first | (go_simp; done) | (go_simp; rfl)); intro gb137 hg w22 hbox hb; have n0_ := Aside0.mk (below_step (by repeat (first | (with_reducible first | exact HB.out | apply below_alloc | apply pw_below_drewN | apply below_drew1) | exact HB.out)) hb); have n1_ := Aside0.mk (hbox); have n2_ := Aside0.mk ((by rw [hg]; exact (below_size (by repeat (first | (with_reducible first | exact HB.out | apply below_alloc | apply pw_below_drewN | apply below_drew1) | exact HB.out))) : w.heap.size ≤ gb137)); have n3_ := Aside0.mk ((by rw [hg]; exact (below_size (by repeat (first | (with_reducible first | exact HB.out | apply below_alloc | apply pw_below_drewN | apply below_drew1) | exact HB.out))) : w.heap.size ≤ gb137)); clear HB; have HB := n0_; have BK137 := n1_; have GW137 := n2_; have GE137 := n3_; clear n0_ n1_ n2_ n3_; clear hb hbox hg; have hcz23_0 : w22.cell? ⟨gb137, 0, none⟩ = some (.int .i64 a0_0) := (blk_cell BK137.out 0).trans rfl; have hcz23_1 : w22.cell? ⟨gb137, 1, none⟩ = some (.string a0_1) := (blk_cell BK137.out 1).trans rfl; have hcz23_2 : w22.cell? ⟨gb137, 2, none⟩ = some (.int .i64 a0_2) := (blk_cell BK137.out 2).trans rfl; have hcz23_3 : w22.cell? ⟨gb137, 3, none⟩ = some (.int .i64 a0_3) := (blk_cell BK137.out 3).trans rfl; have hcz23_4 : w22.cell? ⟨gb137, 4, none⟩ = some (.slice A0_4 l0_4.length c0_4) := (blk_cell BK137.out 4).trans rfl; have hfz23_0 := blk_frozen BK137.out 0; have hfz23_1 := blk_frozen BK137.out 1; have hfz23_2 := blk_frozen BK137.out 2; have hfz23_3 := blk_frozen BK137.out 3; have hfz23_4 := blk_frozen BK137.out 4))
    go_loopg [3, 4] k (fun kq v3 v4 w' => ∃ (x3_1 : ByteArray) (x4_1 : Int), v3 = .string x3_1 ∧ v4 = .int .i64 x4_1 ∧ Aside0 (customhouseref25_written.l0 kq x3_1 x4_1 a0_0 a0_1 a0_2 a0_3 l0_4 = some r) ∧ Aside0 (kq ≤ k) ∧ Aside0 (w'.heap[gb137]? = some (.cells #[.int .i64 a0_0, .string a0_1, .int .i64 a0_2, .int .i64 a0_3, (.slice A0_4 l0_4.length c0_4)] 24 (0, 0))) ∧ Aside0 (Below w.heap.size w w'))
    case atStart => exact ⟨((⟨#[]⟩ : ByteArray)), (0), (by first | rfl | (simp; done) | (simp [*]; done)), (by first | rfl | (simp; done) | (simp [*]; done)), H', ⟨Nat.le_refl _⟩, ⟨by (with_reducible repeat (first | refine blk_drewN ?_ _ | refine blk_drew ?_ | refine blk_alloc ?_ _)); exact BK137.out⟩, ⟨by repeat (first | (with_reducible first | exact HB.out | apply below_alloc | apply pw_below_drewN | apply below_drew1 | refine below_set ?_ GE137.out) | exact HB.out)⟩⟩
    case round =>
     clear H'
     (try clear c1); (try clear p1); (try clear q1); (try clear hx1); (try clear c2); (try clear c2b0); (try clear c2b1); (try clear p2); (try clear c5); (try clear c5b0); (try clear c5b1); (try clear c7); (try clear c8); (try clear c8b0); (try clear c8b1); (try clear c9); (try clear c9b0); (try clear c9b1); (try clear c9b2); (try clear c11); (try clear c11b0); (try clear c12); (try clear c12b0); (try clear c13); (try clear c13b0); (try clear c13b1); (try clear c13b2); (try clear c14); (try clear c14b0); (try clear c14b1); (try clear c14b2); (try clear p14); (try clear q14); (try clear hx14); (try clear c16); (try clear c16b0); (try clear c16b1); (try clear c16b2); (try clear hcz18_0); (try clear hcz18_1); (try clear hcz18_2); (try clear hcz18_3); (try clear hcz18_4); (try clear hcz23_0); (try clear hcz23_1); (try clear hcz23_2); (try clear hcz23_3); (try clear hcz23_4); (try clear hcz4_0); (try clear hcz4_1); (try clear hcz4_2); (try clear hcz4_3); (try clear hcz4_4); (try clear hcz7_0); (try clear hcz7_1); (try clear hcz7_2); (try clear hcz7_3); (try clear hcz7_4); (try clear hfz18_0); (try clear hfz18_1); (try clear hfz18_2); (try clear hfz18_3); (try clear hfz18_4); (try clear hfz23_0); (try clear hfz23_1); (try clear hfz23_2); (try clear hfz23_3); (try clear hfz23_4); (try clear hfz4_0); (try clear hfz4_1); (try clear hfz4_2); (try clear hfz4_3); (try clear hfz4_4); (try clear hfz7_0); (try clear hfz7_1); (try clear hfz7_2); (try clear hfz7_3); (try clear hfz7_4); (try clear hx141_0); (try clear p141); (try clear q141)
     obtain ⟨x3_1, x4_1, rfl, rfl, HA, HK1, BK137, HB⟩ := hrel
     cases gk with
     | zero => exact absurd HA.out (by simp [customhouseref25_written.l0])
     | succ k1 =>
      have H := HA.out
      clear HA
      simp only [customhouseref25_written.l0] at H
      by_cases c24 : x4_1 < (l0_4.length : Int)
      ·rw [if_pos c24] at H
       have c24b0 : decide (x4_1 < (l0_4.length : Int)) = true := decide_eq_true c24
       clear c24
       by_cases c25 : 0 ≤ x4_1
       ·rw [if_pos c25] at H
        have c25b0 : decide (0 ≤ x4_1) = true := decide_eq_true c25
        clear c25
        replace H := Option.bind_eq_some_iff.mp H
        obtain ⟨t144, A260, H⟩ := H
        replace H : (if ((rd_T24 l0_4 x4_1).f0) = 6 then (customhouseref25_written.j1 k1 x3_1 x4_1 t144 true a0_0 a0_1 a0_2 a0_3 l0_4) else (if ((rd_T24 l0_4 x4_1).f0) = 5 then (customhouseref25_written.j1 k1 x3_1 x4_1 t144 (a0_0 != 6) a0_0 a0_1 a0_2 a0_3 l0_4) else (customhouseref25_written.j1 k1 x3_1 x4_1 t144 false a0_0 a0_1 a0_2 a0_3 l0_4))) = some r := H
        have A26 := Aside0.mk A260
        clear A260
        have HC27 := Aside0.mk H
        clear H
        have hcz28_0 : wr.cell? ⟨gb137, 0, none⟩ = some (.int .i64 a0_0) := (blk_cell BK137.out 0).trans rfl
        have hcz28_1 : wr.cell? ⟨gb137, 1, none⟩ = some (.string a0_1) := (blk_cell BK137.out 1).trans rfl
        have hcz28_2 : wr.cell? ⟨gb137, 2, none⟩ = some (.int .i64 a0_2) := (blk_cell BK137.out 2).trans rfl
        have hcz28_3 : wr.cell? ⟨gb137, 3, none⟩ = some (.int .i64 a0_3) := (blk_cell BK137.out 3).trans rfl
        have hcz28_4 : wr.cell? ⟨gb137, 4, none⟩ = some (.slice A0_4 l0_4.length c0_4) := (blk_cell BK137.out 4).trans rfl
        have hfz28_0 := blk_frozen BK137.out 0
        have hfz28_1 := blk_frozen BK137.out 1
        have hfz28_2 := blk_frozen BK137.out 2
        have hfz28_3 := blk_frozen BK137.out 3
        have hfz28_4 := blk_frozen BK137.out 4
        have p143 : 0 ≤ (x4_1 : Int) := of_decide_eq_true (by first | (with_reducible assumption) | assumption)
        have q143 : x4_1 < (l0_4.length : Int) := of_decide_eq_true (by first | (with_reducible assumption) | assumption)
        obtain ⟨ad143, A143_4, c143_4, e143, hx143_0, hx143_1, hx143_2, hx143_3, hx143_4, hl143_4, hi143_4⟩ := at_T24 HR0_4.out x4_1 p143 q143
        cases e143
        replace hx143_0 := (HB.out.cell (World.block_lt_of_cell? w _ hx143_0)).trans hx143_0
        replace hx143_1 := (HB.out.cell (World.block_lt_of_cell? w _ hx143_1)).trans hx143_1
        replace hx143_2 := (HB.out.cell (World.block_lt_of_cell? w _ hx143_2)).trans hx143_2
        replace hx143_3 := (HB.out.cell (World.block_lt_of_cell? w _ hx143_3)).trans hx143_3
        replace hx143_4 := (HB.out.cell (World.block_lt_of_cell? w _ hx143_4)).trans hx143_4
        have HR143_4 := Aside0.mk hi143_4
        have HC143_4 := Aside0.mk hl143_4
        clear hi143_4 hl143_4
        replace p143 := eq_true p143
        replace q143 := eq_true q143
        go_upto_region 13 with (first | ((with_reducible refine gate_callee (f := 54) rfl ?_); refine goesL_ (some 40) rfl rfl Tryz.func54 (by kernel_rfl) rfl #[.agg #[.int .i64 ((rd_T24 l0_4 x4_1).f0), .string ((rd_T24 l0_4 x4_1).f1), .int .i64 ((rd_T24 l0_4 x4_1).f2), .int .i64 ((rd_T24 l0_4 x4_1).f3), .slice A143_4 ((rd_T24 l0_4 x4_1).f4).length c143_4]] rfl (by (try simp only [List.map_toArray, List.map_cons, List.map_nil]); first | done | rfl | (simp only [List.length_drop, List.length_take]; rfl)) ?_; (with_reducible refine (ih k1 (by have := HK1.out; omega) ((rd_T24 l0_4 x4_1).f0) ((rd_T24 l0_4 x4_1).f1) ((rd_T24 l0_4 x4_1).f2) ((rd_T24 l0_4 x4_1).f3) _ _ ((rd_T24 l0_4 x4_1).f4) t144 _ ?side1 ?side2 A26.out).mono ?_); (case side1 => repeat (first | exact (Kd.C_below HR143_4.out HB.out) | (with_reducible refine Kd.C_alloc ?_ _) | (with_reducible refine Kd.C_drewN ?_ _) | (with_reducible refine Kd.C_drew ?_))); (case side2 => exact HC143_4.out); rintro e w29 ⟨rfl, hb⟩; refine ⟨_, rfl, ?_⟩; have n0_ := Aside0.mk (blk_below (g := gb137) (o := .cells #[.int .i64 a0_0, .string a0_1, .int .i64 a0_2, .int .i64 a0_3, .slice (some ad143) l0_4.length c0_4] 24 (0, 0)) (by (with_reducible repeat (first | refine blk_drewN ?_ _ | refine blk_drew ?_ | refine blk_alloc ?_ _)); exact BK137.out) hb); have n1_ := Aside0.mk (below_step (by repeat (first | (with_reducible first | exact HB.out | apply below_alloc | apply pw_below_drewN | apply below_drew1 | refine below_set ?_ GE137.out) | exact HB.out)) hb); clear BK137; clear HB; have BK137 := n0_; have HB := n1_; clear n0_ n1_; (try clear hb); (try clear hb2); (try clear hk); (try clear hi)))
        (try simp only [Act.put, List.setIfInBounds_toArray, List.set_cons_zero, List.set_cons_succ])
        go_cut [61] (fun v61 wc => ∃ (kq : Nat) (x61_26 : Bool), v61 = .bool x61_26 ∧ Aside0 (customhouseref25_written.j1 kq x3_1 x4_1 t144 x61_26 a0_0 a0_1 a0_2 a0_3 l0_4 = some r) ∧ Aside0 (kq ≤ k1) ∧ Aside0 (wc.heap[gb137]? = some (.cells #[.int .i64 a0_0, .string a0_1, .int .i64 a0_2, .int .i64 a0_3, (.slice (some ad143) l0_4.length c0_4)] 24 (0, 0))) ∧ Aside0 (Below w.heap.size w wc))
        case first =>
         have H := HC27.out
         clear HC27
         by_cases c30 : ((rd_T24 l0_4 x4_1).f0) = 6
         ·rw [if_pos c30] at H
          have c30b0 : (((rd_T24 l0_4 x4_1).f0) == 6) = true := beq_iff_eq.mpr c30
          have c30b1 : (((rd_T24 l0_4 x4_1).f0) != 6) = false := bne_eq_false_iff_eq.mpr c30
          clear c30
          (first | rw [c30b0] | (simp only [i64_w, i32_w]; rw [c30b0]) | skip)
          have H' := Aside0.mk H
          clear H
          have hcz31_0 : w29.cell? ⟨gb137, 0, none⟩ = some (.int .i64 a0_0) := (blk_cell BK137.out 0).trans rfl
          have hcz31_1 : w29.cell? ⟨gb137, 1, none⟩ = some (.string a0_1) := (blk_cell BK137.out 1).trans rfl
          have hcz31_2 : w29.cell? ⟨gb137, 2, none⟩ = some (.int .i64 a0_2) := (blk_cell BK137.out 2).trans rfl
          have hcz31_3 : w29.cell? ⟨gb137, 3, none⟩ = some (.int .i64 a0_3) := (blk_cell BK137.out 3).trans rfl
          have hcz31_4 : w29.cell? ⟨gb137, 4, none⟩ = some (.slice (some ad143) l0_4.length c0_4) := (blk_cell BK137.out 4).trans rfl
          have hfz31_0 := blk_frozen BK137.out 0
          have hfz31_1 := blk_frozen BK137.out 1
          have hfz31_2 := blk_frozen BK137.out 2
          have hfz31_3 := blk_frozen BK137.out 3
          have hfz31_4 := blk_frozen BK137.out 4
          have p145 : 0 ≤ (x4_1 : Int) := of_decide_eq_true (by first | (with_reducible assumption) | assumption)
          have q145 : x4_1 < (l0_4.length : Int) := of_decide_eq_true (by first | (with_reducible assumption) | assumption)
          obtain ⟨ad145, A145_4, c145_4, e145, hx145_0, hx145_1, hx145_2, hx145_3, hx145_4, hl145_4, hi145_4⟩ := at_T24 HR0_4.out x4_1 p145 q145
          obtain rfl : ad143 = ad145 := (by injection e145)
          replace hx145_0 := (HB.out.cell (World.block_lt_of_cell? w _ hx145_0)).trans hx145_0
          replace hx145_1 := (HB.out.cell (World.block_lt_of_cell? w _ hx145_1)).trans hx145_1
          replace hx145_2 := (HB.out.cell (World.block_lt_of_cell? w _ hx145_2)).trans hx145_2
          replace hx145_3 := (HB.out.cell (World.block_lt_of_cell? w _ hx145_3)).trans hx145_3
          replace hx145_4 := (HB.out.cell (World.block_lt_of_cell? w _ hx145_4)).trans hx145_4
          have HR145_4 := Aside0.mk hi145_4
          have HC145_4 := Aside0.mk hl145_4
          clear hi145_4 hl145_4
          replace p145 := eq_true p145
          replace q145 := eq_true q145
          go_wp2
          go_meet
          case rel => exact ⟨_, (true), (by first | rfl | (simp; done) | (simp [*]; done)), H', ⟨by have := HK1.out; first | omega | exact Nat.le_refl _⟩, ⟨by (with_reducible repeat (first | refine blk_drewN ?_ _ | refine blk_drew ?_ | refine blk_alloc ?_ _)); exact BK137.out⟩, ⟨by repeat (first | (with_reducible first | exact HB.out | apply below_alloc | apply pw_below_drewN | apply below_drew1 | refine below_set ?_ GE137.out) | exact HB.out)⟩⟩
         ·rw [if_neg c30] at H
          have c30b0 : (((rd_T24 l0_4 x4_1).f0) == 6) = false := beq_eq_false_iff_ne.mpr c30
          have c30b1 : (((rd_T24 l0_4 x4_1).f0) != 6) = true := bne_iff_ne.mpr c30
          (first | rw [c30b0] | (simp only [i64_w, i32_w]; rw [c30b0]) | skip)
          by_cases c32 : ((rd_T24 l0_4 x4_1).f0) = 5
          ·rw [if_pos c32] at H
           have c32b0 : (((rd_T24 l0_4 x4_1).f0) == 5) = true := beq_iff_eq.mpr c32
           have c32b1 : (((rd_T24 l0_4 x4_1).f0) != 5) = false := bne_eq_false_iff_eq.mpr c32
           clear c32
           have H' := Aside0.mk H
           clear H
           have hcz33_0 : w29.cell? ⟨gb137, 0, none⟩ = some (.int .i64 a0_0) := (blk_cell BK137.out 0).trans rfl
           have hcz33_1 : w29.cell? ⟨gb137, 1, none⟩ = some (.string a0_1) := (blk_cell BK137.out 1).trans rfl
           have hcz33_2 : w29.cell? ⟨gb137, 2, none⟩ = some (.int .i64 a0_2) := (blk_cell BK137.out 2).trans rfl
           have hcz33_3 : w29.cell? ⟨gb137, 3, none⟩ = some (.int .i64 a0_3) := (blk_cell BK137.out 3).trans rfl
           have hcz33_4 : w29.cell? ⟨gb137, 4, none⟩ = some (.slice (some ad143) l0_4.length c0_4) := (blk_cell BK137.out 4).trans rfl
           have hfz33_0 := blk_frozen BK137.out 0
           have hfz33_1 := blk_frozen BK137.out 1
           have hfz33_2 := blk_frozen BK137.out 2
           have hfz33_3 := blk_frozen BK137.out 3
           have hfz33_4 := blk_frozen BK137.out 4
           have p145 : 0 ≤ (x4_1 : Int) := of_decide_eq_true (by first | (with_reducible assumption) | assumption)
           have q145 : x4_1 < (l0_4.length : Int) := of_decide_eq_true (by first | (with_reducible assumption) | assumption)
           obtain ⟨ad145, A145_4, c145_4, e145, hx145_0, hx145_1, hx145_2, hx145_3, hx145_4, hl145_4, hi145_4⟩ := at_T24 HR0_4.out x4_1 p145 q145
           obtain rfl : ad143 = ad145 := (by injection e145)
           replace hx145_0 := (HB.out.cell (World.block_lt_of_cell? w _ hx145_0)).trans hx145_0
           replace hx145_1 := (HB.out.cell (World.block_lt_of_cell? w _ hx145_1)).trans hx145_1
           replace hx145_2 := (HB.out.cell (World.block_lt_of_cell? w _ hx145_2)).trans hx145_2
           replace hx145_3 := (HB.out.cell (World.block_lt_of_cell? w _ hx145_3)).trans hx145_3
           replace hx145_4 := (HB.out.cell (World.block_lt_of_cell? w _ hx145_4)).trans hx145_4
           have HR145_4 := Aside0.mk hi145_4
           have HC145_4 := Aside0.mk hl145_4
           clear hi145_4 hl145_4
           replace p145 := eq_true p145
           replace q145 := eq_true q145
           have p146 : 0 ≤ (x4_1 : Int) := of_decide_eq_true (by first | (with_reducible assumption) | assumption)
           have q146 : x4_1 < (l0_4.length : Int) := of_decide_eq_true (by first | (with_reducible assumption) | assumption)
           obtain ⟨ad146, A146_4, c146_4, e146, hx146_0, hx146_1, hx146_2, hx146_3, hx146_4, hl146_4, hi146_4⟩ := at_T24 HR0_4.out x4_1 p146 q146
           obtain rfl : ad143 = ad146 := (by injection e146)
           replace hx146_0 := (HB.out.cell (World.block_lt_of_cell? w _ hx146_0)).trans hx146_0
           replace hx146_1 := (HB.out.cell (World.block_lt_of_cell? w _ hx146_1)).trans hx146_1
           replace hx146_2 := (HB.out.cell (World.block_lt_of_cell? w _ hx146_2)).trans hx146_2
           replace hx146_3 := (HB.out.cell (World.block_lt_of_cell? w _ hx146_3)).trans hx146_3
           replace hx146_4 := (HB.out.cell (World.block_lt_of_cell? w _ hx146_4)).trans hx146_4
           have HR146_4 := Aside0.mk hi146_4
           have HC146_4 := Aside0.mk hl146_4
           clear hi146_4 hl146_4
           replace p146 := eq_true p146
           replace q146 := eq_true q146
           have ea_ := Option.some.inj (hx145_4.symm.trans hx146_4)
           injection ea_ with ea_ en_ ec_
           subst ea_
           subst ec_
           clear en_
           go_wp2
           go_meet
           case rel => exact ⟨_, ((a0_0 != 6)), (by first | rfl | (simp; done) | (simp [*]; done)), H', ⟨by have := HK1.out; first | omega | exact Nat.le_refl _⟩, ⟨by (with_reducible repeat (first | refine blk_drewN ?_ _ | refine blk_drew ?_ | refine blk_alloc ?_ _)); exact BK137.out⟩, ⟨by repeat (first | (with_reducible first | exact HB.out | apply below_alloc | apply pw_below_drewN | apply below_drew1 | refine below_set ?_ GE137.out) | exact HB.out)⟩⟩
          ·rw [if_neg c32] at H
           have c32b0 : (((rd_T24 l0_4 x4_1).f0) == 5) = false := beq_eq_false_iff_ne.mpr c32
           have c32b1 : (((rd_T24 l0_4 x4_1).f0) != 5) = true := bne_iff_ne.mpr c32
           have H' := Aside0.mk H
           clear H
           have hcz34_0 : w29.cell? ⟨gb137, 0, none⟩ = some (.int .i64 a0_0) := (blk_cell BK137.out 0).trans rfl
           have hcz34_1 : w29.cell? ⟨gb137, 1, none⟩ = some (.string a0_1) := (blk_cell BK137.out 1).trans rfl
           have hcz34_2 : w29.cell? ⟨gb137, 2, none⟩ = some (.int .i64 a0_2) := (blk_cell BK137.out 2).trans rfl
           have hcz34_3 : w29.cell? ⟨gb137, 3, none⟩ = some (.int .i64 a0_3) := (blk_cell BK137.out 3).trans rfl
           have hcz34_4 : w29.cell? ⟨gb137, 4, none⟩ = some (.slice (some ad143) l0_4.length c0_4) := (blk_cell BK137.out 4).trans rfl
           have hfz34_0 := blk_frozen BK137.out 0
           have hfz34_1 := blk_frozen BK137.out 1
           have hfz34_2 := blk_frozen BK137.out 2
           have hfz34_3 := blk_frozen BK137.out 3
           have hfz34_4 := blk_frozen BK137.out 4
           have p145 : 0 ≤ (x4_1 : Int) := of_decide_eq_true (by first | (with_reducible assumption) | assumption)
           have q145 : x4_1 < (l0_4.length : Int) := of_decide_eq_true (by first | (with_reducible assumption) | assumption)
           obtain ⟨ad145, A145_4, c145_4, e145, hx145_0, hx145_1, hx145_2, hx145_3, hx145_4, hl145_4, hi145_4⟩ := at_T24 HR0_4.out x4_1 p145 q145
           obtain rfl : ad143 = ad145 := (by injection e145)
           replace hx145_0 := (HB.out.cell (World.block_lt_of_cell? w _ hx145_0)).trans hx145_0
           replace hx145_1 := (HB.out.cell (World.block_lt_of_cell? w _ hx145_1)).trans hx145_1
           replace hx145_2 := (HB.out.cell (World.block_lt_of_cell? w _ hx145_2)).trans hx145_2
           replace hx145_3 := (HB.out.cell (World.block_lt_of_cell? w _ hx145_3)).trans hx145_3
           replace hx145_4 := (HB.out.cell (World.block_lt_of_cell? w _ hx145_4)).trans hx145_4
           have HR145_4 := Aside0.mk hi145_4
           have HC145_4 := Aside0.mk hl145_4
           clear hi145_4 hl145_4
           replace p145 := eq_true p145
           replace q145 := eq_true q145
           have p146 : 0 ≤ (x4_1 : Int) := of_decide_eq_true (by first | (with_reducible assumption) | assumption)
           have q146 : x4_1 < (l0_4.length : Int) := of_decide_eq_true (by first | (with_reducible assumption) | assumption)
           obtain ⟨ad146, A146_4, c146_4, e146, hx146_0, hx146_1, hx146_2, hx146_3, hx146_4, hl146_4, hi146_4⟩ := at_T24 HR0_4.out x4_1 p146 q146
           obtain rfl : ad143 = ad146 := (by injection e146)
           replace hx146_0 := (HB.out.cell (World.block_lt_of_cell? w _ hx146_0)).trans hx146_0
           replace hx146_1 := (HB.out.cell (World.block_lt_of_cell? w _ hx146_1)).trans hx146_1
           replace hx146_2 := (HB.out.cell (World.block_lt_of_cell? w _ hx146_2)).trans hx146_2
           replace hx146_3 := (HB.out.cell (World.block_lt_of_cell? w _ hx146_3)).trans hx146_3
           replace hx146_4 := (HB.out.cell (World.block_lt_of_cell? w _ hx146_4)).trans hx146_4
           have HR146_4 := Aside0.mk hi146_4
           have HC146_4 := Aside0.mk hl146_4
           clear hi146_4 hl146_4
           replace p146 := eq_true p146
           replace q146 := eq_true q146
           have ea_ := Option.some.inj (hx145_4.symm.trans hx146_4)
           injection ea_ with ea_ en_ ec_
           subst ea_
           subst ec_
           clear en_
           go_wp2
           go_meet
           case rel => exact ⟨_, (false), (by first | rfl | (simp; done) | (simp [*]; done)), H', ⟨by have := HK1.out; first | omega | exact Nat.le_refl _⟩, ⟨by (with_reducible repeat (first | refine blk_drewN ?_ _ | refine blk_drew ?_ | refine blk_alloc ?_ _)); exact BK137.out⟩, ⟨by repeat (first | (with_reducible first | exact HB.out | apply below_alloc | apply pw_below_drewN | apply below_drew1 | refine below_set ?_ GE137.out) | exact HB.out)⟩⟩
        case rest =>
         clear HC27
         (try clear c1); (try clear p1); (try clear q1); (try clear hx1); (try clear c2); (try clear c2b0); (try clear c2b1); (try clear p2); (try clear c3); (try clear c5); (try clear c5b0); (try clear c5b1); (try clear c7); (try clear c8); (try clear c8b0); (try clear c8b1); (try clear c9); (try clear c9b0); (try clear c9b1); (try clear c9b2); (try clear c11); (try clear c11b0); (try clear c12); (try clear c12b0); (try clear c13); (try clear c13b0); (try clear c13b1); (try clear c13b2); (try clear c14); (try clear c14b0); (try clear c14b1); (try clear c14b2); (try clear p14); (try clear q14); (try clear hx14); (try clear c16); (try clear c16b0); (try clear c16b1); (try clear c16b2); (try clear c24); (try clear c24b0); (try clear c25); (try clear c25b0); (try clear c30); (try clear c30b0); (try clear c30b1); (try clear c32); (try clear c32b0); (try clear c32b1); (try clear hcz18_0); (try clear hcz18_1); (try clear hcz18_2); (try clear hcz18_3); (try clear hcz18_4); (try clear hcz23_0); (try clear hcz23_1); (try clear hcz23_2); (try clear hcz23_3); (try clear hcz23_4); (try clear hcz28_0); (try clear hcz28_1); (try clear hcz28_2); (try clear hcz28_3); (try clear hcz28_4); (try clear hcz31_0); (try clear hcz31_1); (try clear hcz31_2); (try clear hcz31_3); (try clear hcz31_4); (try clear hcz33_0); (try clear hcz33_1); (try clear hcz33_2); (try clear hcz33_3); (try clear hcz33_4); (try clear hcz34_0); (try clear hcz34_1); (try clear hcz34_2); (try clear hcz34_3); (try clear hcz34_4); (try clear hcz4_0); (try clear hcz4_1); (try clear hcz4_2); (try clear hcz4_3); (try clear hcz4_4); (try clear hcz7_0); (try clear hcz7_1); (try clear hcz7_2); (try clear hcz7_3); (try clear hcz7_4); (try clear hfz18_0); (try clear hfz18_1); (try clear hfz18_2); (try clear hfz18_3); (try clear hfz18_4); (try clear hfz23_0); (try clear hfz23_1); (try clear hfz23_2); (try clear hfz23_3); (try clear hfz23_4); (try clear hfz28_0); (try clear hfz28_1); (try clear hfz28_2); (try clear hfz28_3); (try clear hfz28_4); (try clear hfz31_0); (try clear hfz31_1); (try clear hfz31_2); (try clear hfz31_3); (try clear hfz31_4); (try clear hfz33_0); (try clear hfz33_1); (try clear hfz33_2); (try clear hfz33_3); (try clear hfz33_4); (try clear hfz34_0); (try clear hfz34_1); (try clear hfz34_2); (try clear hfz34_3); (try clear hfz34_4); (try clear hfz4_0); (try clear hfz4_1); (try clear hfz4_2); (try clear hfz4_3); (try clear hfz4_4); (try clear hfz7_0); (try clear hfz7_1); (try clear hfz7_2); (try clear hfz7_3); (try clear hfz7_4); (try clear hx141_0); (try clear hx143_0); (try clear hx143_1); (try clear hx143_2); (try clear hx143_3); (try clear hx143_4); (try clear hx145_0); (try clear hx145_1); (try clear hx145_2); (try clear hx145_3); (try clear hx145_4); (try clear hx146_0); (try clear hx146_1); (try clear hx146_2); (try clear hx146_3); (try clear hx146_4); (try clear p1); (try clear p14); (try clear p141); (try clear p143); (try clear p145); (try clear p146); (try clear p2); (try clear q1); (try clear q14); (try clear q141); (try clear q143); (try clear q145); (try clear q146)
         obtain ⟨kq, x61_26, rfl, HA, HJ26, BK137, HB⟩ := hcut
         cases kq with
         | zero => exact absurd HA.out (by simp [customhouseref25_written.j1])
         | succ kj26 =>
          have H := HA.out
          clear HA
          simp only [customhouseref25_written.j1] at H
          have HC35 := Aside0.mk H
          clear H
          go_upto_if 61 with (fail)
          go_cut [5] (fun v5 wc => ∃ (kq : Nat) (x5_34 : ByteArray), v5 = .string x5_34 ∧ Aside0 (customhouseref25_written.j2 kq x3_1 x4_1 x5_34 a0_0 a0_1 a0_2 a0_3 l0_4 = some r) ∧ Aside0 (kq ≤ kj26) ∧ Aside0 (wc.heap[gb137]? = some (.cells #[.int .i64 a0_0, .string a0_1, .int .i64 a0_2, .int .i64 a0_3, (.slice (some ad143) l0_4.length c0_4)] 24 (0, 0))) ∧ Aside0 (Below w.heap.size w wc))
          case first =>
           have H := HC35.out
           clear HC35
           by_cases c36 : x61_26 = true
           ·subst c36
            have H1 : (if 1 + t144.size ≤ 9223372036854775807 then (if ((⟨#[40]⟩ : ByteArray) ++ t144).size + 1 ≤ 9223372036854775807 then (customhouseref25_written.j2 kj26 x3_1 x4_1 (((⟨#[40]⟩ : ByteArray) ++ t144) ++ (⟨#[41]⟩ : ByteArray)) a0_0 a0_1 a0_2 a0_3 l0_4) else (none)) else (none)) = some r := by rw [if_pos rfl] at H; exact H
            clear H
            have H := H1
            clear H1
            by_cases c37 : 1 + t144.size ≤ 9223372036854775807
            ·rw [if_pos c37] at H
             have c37b0 := eq_true c37
             have c37b1 : decide (1 + t144.size ≤ 9223372036854775807) = true := decide_eq_true c37
             try have c37b2 : (9223372036854775807 < 1 + t144.size) = False := eq_false (Nat.not_lt.2 c37)
             by_cases c38 : ((⟨#[40]⟩ : ByteArray) ++ t144).size + 1 ≤ 9223372036854775807
             ·rw [if_pos c38] at H
              have c38b0 := eq_true c38
              have c38b1 : decide (((⟨#[40]⟩ : ByteArray) ++ t144).size + 1 ≤ 9223372036854775807) = true := decide_eq_true c38
              try have c38b2 : (9223372036854775807 < ((⟨#[40]⟩ : ByteArray) ++ t144).size + 1) = False := eq_false (Nat.not_lt.2 c38)
              try (have c38b3 := c38; simp only [ByteArray.size_append] at c38b3; replace c38b3 : (9223372036854775807 < 1 + t144.size + 1) = False := eq_false (Nat.not_lt.2 c38b3))
              have H' := Aside0.mk H
              clear H
              go_wp2
              go_meet
              case rel => exact ⟨_, (((⟨#[40]⟩ : ByteArray) ++ t144) ++ (⟨#[41]⟩ : ByteArray)), (by first | rfl | (simp; done) | (simp [*]; done)), H', ⟨by have := HK1.out; have := HJ26.out; first | omega | exact Nat.le_refl _⟩, ⟨by (with_reducible repeat (first | refine blk_drewN ?_ _ | refine blk_drew ?_ | refine blk_alloc ?_ _)); exact BK137.out⟩, ⟨by repeat (first | (with_reducible first | exact HB.out | apply below_alloc | apply pw_below_drewN | apply below_drew1 | refine below_set ?_ GE137.out) | exact HB.out)⟩⟩
             ·rw [if_neg c38] at H
              exact absurd H (by simp)
            ·rw [if_neg c37] at H
             exact absurd H (by simp)
           ·replace c36 := Bool.eq_false_iff.mpr c36
            subst c36
            have H1 : (customhouseref25_written.j2 kj26 x3_1 x4_1 t144 a0_0 a0_1 a0_2 a0_3 l0_4) = some r := by rw [if_neg (show ¬ (false = true) by decide)] at H; exact H
            clear H
            have H := H1
            clear H1
            have H' := Aside0.mk H
            clear H
            go_wp2
            go_meet
            case rel => exact ⟨_, (t144), (by first | rfl | (simp; done) | (simp [*]; done)), H', ⟨by have := HK1.out; have := HJ26.out; first | omega | exact Nat.le_refl _⟩, ⟨by (with_reducible repeat (first | refine blk_drewN ?_ _ | refine blk_drew ?_ | refine blk_alloc ?_ _)); exact BK137.out⟩, ⟨by repeat (first | (with_reducible first | exact HB.out | apply below_alloc | apply pw_below_drewN | apply below_drew1 | refine below_set ?_ GE137.out) | exact HB.out)⟩⟩
          case rest =>
           clear HC35
           (try clear c1); (try clear p1); (try clear q1); (try clear hx1); (try clear c2); (try clear c2b0); (try clear c2b1); (try clear p2); (try clear c3); (try clear c5); (try clear c5b0); (try clear c5b1); (try clear c7); (try clear c8); (try clear c8b0); (try clear c8b1); (try clear c9); (try clear c9b0); (try clear c9b1); (try clear c9b2); (try clear c11); (try clear c11b0); (try clear c12); (try clear c12b0); (try clear c13); (try clear c13b0); (try clear c13b1); (try clear c13b2); (try clear c14); (try clear c14b0); (try clear c14b1); (try clear c14b2); (try clear p14); (try clear q14); (try clear hx14); (try clear c16); (try clear c16b0); (try clear c16b1); (try clear c16b2); (try clear c24); (try clear c24b0); (try clear c25); (try clear c25b0); (try clear c30); (try clear c30b0); (try clear c30b1); (try clear c32); (try clear c32b0); (try clear c32b1); (try clear c36); (try clear c37); (try clear c37b0); (try clear c37b1); (try clear c37b2); (try clear c38); (try clear c38b0); (try clear c38b1); (try clear c38b2); (try clear hcz18_0); (try clear hcz18_1); (try clear hcz18_2); (try clear hcz18_3); (try clear hcz18_4); (try clear hcz23_0); (try clear hcz23_1); (try clear hcz23_2); (try clear hcz23_3); (try clear hcz23_4); (try clear hcz28_0); (try clear hcz28_1); (try clear hcz28_2); (try clear hcz28_3); (try clear hcz28_4); (try clear hcz31_0); (try clear hcz31_1); (try clear hcz31_2); (try clear hcz31_3); (try clear hcz31_4); (try clear hcz33_0); (try clear hcz33_1); (try clear hcz33_2); (try clear hcz33_3); (try clear hcz33_4); (try clear hcz34_0); (try clear hcz34_1); (try clear hcz34_2); (try clear hcz34_3); (try clear hcz34_4); (try clear hcz4_0); (try clear hcz4_1); (try clear hcz4_2); (try clear hcz4_3); (try clear hcz4_4); (try clear hcz7_0); (try clear hcz7_1); (try clear hcz7_2); (try clear hcz7_3); (try clear hcz7_4); (try clear hfz18_0); (try clear hfz18_1); (try clear hfz18_2); (try clear hfz18_3); (try clear hfz18_4); (try clear hfz23_0); (try clear hfz23_1); (try clear hfz23_2); (try clear hfz23_3); (try clear hfz23_4); (try clear hfz28_0); (try clear hfz28_1); (try clear hfz28_2); (try clear hfz28_3); (try clear hfz28_4); (try clear hfz31_0); (try clear hfz31_1); (try clear hfz31_2); (try clear hfz31_3); (try clear hfz31_4); (try clear hfz33_0); (try clear hfz33_1); (try clear hfz33_2); (try clear hfz33_3); (try clear hfz33_4); (try clear hfz34_0); (try clear hfz34_1); (try clear hfz34_2); (try clear hfz34_3); (try clear hfz34_4); (try clear hfz4_0); (try clear hfz4_1); (try clear hfz4_2); (try clear hfz4_3); (try clear hfz4_4); (try clear hfz7_0); (try clear hfz7_1); (try clear hfz7_2); (try clear hfz7_3); (try clear hfz7_4); (try clear hx141_0); (try clear hx143_0); (try clear hx143_1); (try clear hx143_2); (try clear hx143_3); (try clear hx143_4); (try clear hx145_0); (try clear hx145_1); (try clear hx145_2); (try clear hx145_3); (try clear hx145_4); (try clear hx146_0); (try clear hx146_1); (try clear hx146_2); (try clear hx146_3); (try clear hx146_4); (try clear p1); (try clear p14); (try clear p141); (try clear p143); (try clear p145); (try clear p146); (try clear p2); (try clear q1); (try clear q14); (try clear q141); (try clear q143); (try clear q145); (try clear q146)
           obtain ⟨kq, x5_34, rfl, HA, HJ34, BK137, HB⟩ := hcut
           cases kq with
           | zero => exact absurd HA.out (by simp [customhouseref25_written.j2])
           | succ kj34 =>
            have H := HA.out
            clear HA
            simp only [customhouseref25_written.j2] at H
            by_cases c39 : a0_0 = 4
            ·rw [if_pos c39] at H
             have c39b0 : (a0_0 == 4) = true := beq_iff_eq.mpr c39
             have c39b1 : (a0_0 != 4) = false := bne_eq_false_iff_eq.mpr c39
             clear c39
             by_cases c40 : 4 + x5_34.size ≤ 9223372036854775807
             ·rw [if_pos c40] at H
              have c40b0 := eq_true c40
              have c40b1 : decide (4 + x5_34.size ≤ 9223372036854775807) = true := decide_eq_true c40
              try have c40b2 : (9223372036854775807 < 4 + x5_34.size) = False := eq_false (Nat.not_lt.2 c40)
              by_cases c41 : x3_1.size + ((⟨#[110, 111, 116, 32]⟩ : ByteArray) ++ x5_34).size ≤ 9223372036854775807
              ·rw [if_pos c41] at H
               have c41b0 := eq_true c41
               have c41b1 : decide (x3_1.size + ((⟨#[110, 111, 116, 32]⟩ : ByteArray) ++ x5_34).size ≤ 9223372036854775807) = true := decide_eq_true c41
               try have c41b2 : (9223372036854775807 < x3_1.size + ((⟨#[110, 111, 116, 32]⟩ : ByteArray) ++ x5_34).size) = False := eq_false (Nat.not_lt.2 c41)
               try (have c41b3 := c41; simp only [ByteArray.size_append] at c41b3; replace c41b3 : (9223372036854775807 < x3_1.size + 4 + x5_34.size) = False := eq_false (Nat.not_lt.2 c41b3))
               have H' := Aside0.mk H
               clear H
               have hcz42_0 : wc.cell? ⟨gb137, 0, none⟩ = some (.int .i64 a0_0) := (blk_cell BK137.out 0).trans rfl
               have hcz42_1 : wc.cell? ⟨gb137, 1, none⟩ = some (.string a0_1) := (blk_cell BK137.out 1).trans rfl
               have hcz42_2 : wc.cell? ⟨gb137, 2, none⟩ = some (.int .i64 a0_2) := (blk_cell BK137.out 2).trans rfl
               have hcz42_3 : wc.cell? ⟨gb137, 3, none⟩ = some (.int .i64 a0_3) := (blk_cell BK137.out 3).trans rfl
               have hcz42_4 : wc.cell? ⟨gb137, 4, none⟩ = some (.slice (some ad143) l0_4.length c0_4) := (blk_cell BK137.out 4).trans rfl
               have hfz42_0 := blk_frozen BK137.out 0
               have hfz42_1 := blk_frozen BK137.out 1
               have hfz42_2 := blk_frozen BK137.out 2
               have hfz42_3 := blk_frozen BK137.out 3
               have hfz42_4 := blk_frozen BK137.out 4
               go_wp2
               go_roundg kj34
               case measure => have := HK1.out; have := HJ26.out; have := HJ34.out; omega
               case rel => exact ⟨(x3_1 ++ ((⟨#[110, 111, 116, 32]⟩ : ByteArray) ++ x5_34)), (wrap64 (x4_1 + 1)), (by first | rfl | (simp; done) | (simp [*]; done)), (by first | rfl | (simp; done) | (simp [*]; done)), H', ⟨by have := HK1.out; have := HJ26.out; have := HJ34.out; omega⟩, ⟨by (with_reducible repeat (first | refine blk_drewN ?_ _ | refine blk_drew ?_ | refine blk_alloc ?_ _)); exact BK137.out⟩, ⟨by repeat (first | (with_reducible first | exact HB.out | apply below_alloc | apply pw_below_drewN | apply below_drew1 | refine below_set ?_ GE137.out) | exact HB.out)⟩⟩
              ·rw [if_neg c41] at H
               exact absurd H (by simp)
             ·rw [if_neg c40] at H
              exact absurd H (by simp)
            ·rw [if_neg c39] at H
             have c39b0 : (a0_0 == 4) = false := beq_eq_false_iff_ne.mpr c39
             have c39b1 : (a0_0 != 4) = true := bne_iff_ne.mpr c39
             have HC43 := Aside0.mk H
             clear H
             have hcz44_0 : wc.cell? ⟨gb137, 0, none⟩ = some (.int .i64 a0_0) := (blk_cell BK137.out 0).trans rfl
             have hcz44_1 : wc.cell? ⟨gb137, 1, none⟩ = some (.string a0_1) := (blk_cell BK137.out 1).trans rfl
             have hcz44_2 : wc.cell? ⟨gb137, 2, none⟩ = some (.int .i64 a0_2) := (blk_cell BK137.out 2).trans rfl
             have hcz44_3 : wc.cell? ⟨gb137, 3, none⟩ = some (.int .i64 a0_3) := (blk_cell BK137.out 3).trans rfl
             have hcz44_4 : wc.cell? ⟨gb137, 4, none⟩ = some (.slice (some ad143) l0_4.length c0_4) := (blk_cell BK137.out 4).trans rfl
             have hfz44_0 := blk_frozen BK137.out 0
             have hfz44_1 := blk_frozen BK137.out 1
             have hfz44_2 := blk_frozen BK137.out 2
             have hfz44_3 := blk_frozen BK137.out 3
             have hfz44_4 := blk_frozen BK137.out 4
             go_upto_region 17 with (fail)
             go_cut [71] (fun v71 wc => ∃ (kq : Nat) (x71_42 : Bool), v71 = .bool x71_42 ∧ Aside0 (customhouseref25_written.j3 kq x3_1 x4_1 x5_34 x71_42 a0_0 a0_1 a0_2 a0_3 l0_4 = some r) ∧ Aside0 (kq ≤ kj34) ∧ Aside0 (wc.heap[gb137]? = some (.cells #[.int .i64 a0_0, .string a0_1, .int .i64 a0_2, .int .i64 a0_3, (.slice (some ad143) l0_4.length c0_4)] 24 (0, 0))) ∧ Aside0 (Below w.heap.size w wc))
             case first =>
              have H := HC43.out
              clear HC43
              by_cases c45 : x4_1 > 0
              ·rw [if_pos c45] at H
               have c45b0 : decide (0 < x4_1) = true := decide_eq_true c45
               clear c45
               (first | rw [c45b0] | (simp only [i64_w, i32_w]; rw [c45b0]) | skip)
               have H' := Aside0.mk H
               clear H
               have hcz46_0 : wc.cell? ⟨gb137, 0, none⟩ = some (.int .i64 a0_0) := (blk_cell BK137.out 0).trans rfl
               have hcz46_1 : wc.cell? ⟨gb137, 1, none⟩ = some (.string a0_1) := (blk_cell BK137.out 1).trans rfl
               have hcz46_2 : wc.cell? ⟨gb137, 2, none⟩ = some (.int .i64 a0_2) := (blk_cell BK137.out 2).trans rfl
               have hcz46_3 : wc.cell? ⟨gb137, 3, none⟩ = some (.int .i64 a0_3) := (blk_cell BK137.out 3).trans rfl
               have hcz46_4 : wc.cell? ⟨gb137, 4, none⟩ = some (.slice (some ad143) l0_4.length c0_4) := (blk_cell BK137.out 4).trans rfl
               have hfz46_0 := blk_frozen BK137.out 0
               have hfz46_1 := blk_frozen BK137.out 1
               have hfz46_2 := blk_frozen BK137.out 2
               have hfz46_3 := blk_frozen BK137.out 3
               have hfz46_4 := blk_frozen BK137.out 4
               go_wp2
               go_meet
               case rel => exact ⟨_, ((a0_0 == 5)), (by first | rfl | (simp; done) | (simp [*]; done)), H', ⟨by have := HK1.out; have := HJ26.out; have := HJ34.out; first | omega | exact Nat.le_refl _⟩, ⟨by (with_reducible repeat (first | refine blk_drewN ?_ _ | refine blk_drew ?_ | refine blk_alloc ?_ _)); exact BK137.out⟩, ⟨by repeat (first | (with_reducible first | exact HB.out | apply below_alloc | apply pw_below_drewN | apply below_drew1 | refine below_set ?_ GE137.out) | exact HB.out)⟩⟩
              ·rw [if_neg c45] at H
               have c45b0 : decide (0 < x4_1) = false := decide_eq_false c45
               clear c45
               (first | rw [c45b0] | (simp only [i64_w, i32_w]; rw [c45b0]) | skip)
               have H' := Aside0.mk H
               clear H
               go_wp2
               go_meet
               case rel => exact ⟨_, (false), (by first | rfl | (simp; done) | (simp [*]; done)), H', ⟨by have := HK1.out; have := HJ26.out; have := HJ34.out; first | omega | exact Nat.le_refl _⟩, ⟨by (with_reducible repeat (first | refine blk_drewN ?_ _ | refine blk_drew ?_ | refine blk_alloc ?_ _)); exact BK137.out⟩, ⟨by repeat (first | (with_reducible first | exact HB.out | apply below_alloc | apply pw_below_drewN | apply below_drew1 | refine below_set ?_ GE137.out) | exact HB.out)⟩⟩
             case rest =>
              clear HC43
              (try clear c1); (try clear p1); (try clear q1); (try clear hx1); (try clear c2); (try clear c2b0); (try clear c2b1); (try clear p2); (try clear c3); (try clear c4); (try clear c5); (try clear c5b0); (try clear c5b1); (try clear p6); (try clear c7); (try clear c8); (try clear c8b0); (try clear c8b1); (try clear c9); (try clear c9b0); (try clear c9b1); (try clear c9b2); (try clear c11); (try clear c11b0); (try clear c12); (try clear c12b0); (try clear c13); (try clear c13b0); (try clear c13b1); (try clear c13b2); (try clear c14); (try clear c14b0); (try clear c14b1); (try clear c14b2); (try clear p14); (try clear q14); (try clear hx14); (try clear c16); (try clear c16b0); (try clear c16b1); (try clear c16b2); (try clear c24); (try clear c24b0); (try clear c25); (try clear c25b0); (try clear c30); (try clear c30b0); (try clear c30b1); (try clear c32); (try clear c32b0); (try clear c32b1); (try clear c36); (try clear c37); (try clear c37b0); (try clear c37b1); (try clear c37b2); (try clear c38); (try clear c38b0); (try clear c38b1); (try clear c38b2); (try clear c39); (try clear c39b0); (try clear c39b1); (try clear c40); (try clear c40b0); (try clear c40b1); (try clear c40b2); (try clear c41); (try clear c41b0); (try clear c41b1); (try clear c41b2); (try clear c45); (try clear c45b0); (try clear hcz18_0); (try clear hcz18_1); (try clear hcz18_2); (try clear hcz18_3); (try clear hcz18_4); (try clear hcz23_0); (try clear hcz23_1); (try clear hcz23_2); (try clear hcz23_3); (try clear hcz23_4); (try clear hcz28_0); (try clear hcz28_1); (try clear hcz28_2); (try clear hcz28_3); (try clear hcz28_4); (try clear hcz31_0); (try clear hcz31_1); (try clear hcz31_2); (try clear hcz31_3); (try clear hcz31_4); (try clear hcz33_0); (try clear hcz33_1); (try clear hcz33_2); (try clear hcz33_3); (try clear hcz33_4); (try clear hcz34_0); (try clear hcz34_1); (try clear hcz34_2); (try clear hcz34_3); (try clear hcz34_4); (try clear hcz42_0); (try clear hcz42_1); (try clear hcz42_2); (try clear hcz42_3); (try clear hcz42_4); (try clear hcz44_0); (try clear hcz44_1); (try clear hcz44_2); (try clear hcz44_3); (try clear hcz44_4); (try clear hcz46_0); (try clear hcz46_1); (try clear hcz46_2); (try clear hcz46_3); (try clear hcz46_4); (try clear hcz4_0); (try clear hcz4_1); (try clear hcz4_2); (try clear hcz4_3); (try clear hcz4_4); (try clear hcz7_0); (try clear hcz7_1); (try clear hcz7_2); (try clear hcz7_3); (try clear hcz7_4); (try clear hfz18_0); (try clear hfz18_1); (try clear hfz18_2); (try clear hfz18_3); (try clear hfz18_4); (try clear hfz23_0); (try clear hfz23_1); (try clear hfz23_2); (try clear hfz23_3); (try clear hfz23_4); (try clear hfz28_0); (try clear hfz28_1); (try clear hfz28_2); (try clear hfz28_3); (try clear hfz28_4); (try clear hfz31_0); (try clear hfz31_1); (try clear hfz31_2); (try clear hfz31_3); (try clear hfz31_4); (try clear hfz33_0); (try clear hfz33_1); (try clear hfz33_2); (try clear hfz33_3); (try clear hfz33_4); (try clear hfz34_0); (try clear hfz34_1); (try clear hfz34_2); (try clear hfz34_3); (try clear hfz34_4); (try clear hfz42_0); (try clear hfz42_1); (try clear hfz42_2); (try clear hfz42_3); (try clear hfz42_4); (try clear hfz44_0); (try clear hfz44_1); (try clear hfz44_2); (try clear hfz44_3); (try clear hfz44_4); (try clear hfz46_0); (try clear hfz46_1); (try clear hfz46_2); (try clear hfz46_3); (try clear hfz46_4); (try clear hfz4_0); (try clear hfz4_1); (try clear hfz4_2); (try clear hfz4_3); (try clear hfz4_4); (try clear hfz7_0); (try clear hfz7_1); (try clear hfz7_2); (try clear hfz7_3); (try clear hfz7_4); (try clear hx141_0); (try clear hx143_0); (try clear hx143_1); (try clear hx143_2); (try clear hx143_3); (try clear hx143_4); (try clear hx145_0); (try clear hx145_1); (try clear hx145_2); (try clear hx145_3); (try clear hx145_4); (try clear hx146_0); (try clear hx146_1); (try clear hx146_2); (try clear hx146_3); (try clear hx146_4); (try clear p1); (try clear p14); (try clear p141); (try clear p143); (try clear p145); (try clear p146); (try clear p2); (try clear q1); (try clear q14); (try clear q141); (try clear q143); (try clear q145); (try clear q146)
              obtain ⟨kq, x71_42, rfl, HA, HJ42, BK137, HB⟩ := hcut
              cases kq with
              | zero => exact absurd HA.out (by simp [customhouseref25_written.j3])
              | succ kj42 =>
               have H := HA.out
               clear HA
               simp only [customhouseref25_written.j3] at H
               by_cases c47 : x71_42 = true
               ·subst c47
                have H1 : (if 5 + x5_34.size ≤ 9223372036854775807 then (if x3_1.size + ((⟨#[32, 97, 110, 100, 32]⟩ : ByteArray) ++ x5_34).size ≤ 9223372036854775807 then (customhouseref25_written.l0 kj42 (x3_1 ++ ((⟨#[32, 97, 110, 100, 32]⟩ : ByteArray) ++ x5_34)) (wrap64 (x4_1 + 1)) a0_0 a0_1 a0_2 a0_3 l0_4) else (none)) else (none)) = some r := by rw [if_pos rfl] at H; exact H
                clear H
                have H := H1
                clear H1
                by_cases c48 : 5 + x5_34.size ≤ 9223372036854775807
                ·rw [if_pos c48] at H
                 have c48b0 := eq_true c48
                 have c48b1 : decide (5 + x5_34.size ≤ 9223372036854775807) = true := decide_eq_true c48
                 try have c48b2 : (9223372036854775807 < 5 + x5_34.size) = False := eq_false (Nat.not_lt.2 c48)
                 by_cases c49 : x3_1.size + ((⟨#[32, 97, 110, 100, 32]⟩ : ByteArray) ++ x5_34).size ≤ 9223372036854775807
                 ·rw [if_pos c49] at H
                  have c49b0 := eq_true c49
                  have c49b1 : decide (x3_1.size + ((⟨#[32, 97, 110, 100, 32]⟩ : ByteArray) ++ x5_34).size ≤ 9223372036854775807) = true := decide_eq_true c49
                  try have c49b2 : (9223372036854775807 < x3_1.size + ((⟨#[32, 97, 110, 100, 32]⟩ : ByteArray) ++ x5_34).size) = False := eq_false (Nat.not_lt.2 c49)
                  try (have c49b3 := c49; simp only [ByteArray.size_append] at c49b3; replace c49b3 : (9223372036854775807 < x3_1.size + 5 + x5_34.size) = False := eq_false (Nat.not_lt.2 c49b3))
                  have H' := Aside0.mk H
                  clear H
                  go_wp2
                  go_roundg kj42
                  case measure => have := HK1.out; have := HJ26.out; have := HJ34.out; have := HJ42.out; omega
                  case rel => exact ⟨(x3_1 ++ ((⟨#[32, 97, 110, 100, 32]⟩ : ByteArray) ++ x5_34)), (wrap64 (x4_1 + 1)), (by first | rfl | (simp; done) | (simp [*]; done)), (by first | rfl | (simp; done) | (simp [*]; done)), H', ⟨by have := HK1.out; have := HJ26.out; have := HJ34.out; have := HJ42.out; omega⟩, ⟨by (with_reducible repeat (first | refine blk_drewN ?_ _ | refine blk_drew ?_ | refine blk_alloc ?_ _)); exact BK137.out⟩, ⟨by repeat (first | (with_reducible first | exact HB.out | apply below_alloc | apply pw_below_drewN | apply below_drew1 | refine below_set ?_ GE137.out) | exact HB.out)⟩⟩
                 ·rw [if_neg c49] at H
                  exact absurd H (by simp)
                ·rw [if_neg c48] at H
                 exact absurd H (by simp)
               ·replace c47 := Bool.eq_false_iff.mpr c47
                subst c47
                have H1 : (if x4_1 > 0 then (if 4 + x5_34.size ≤ 9223372036854775807 then (if x3_1.size + ((⟨#[32, 111, 114, 32]⟩ : ByteArray) ++ x5_34).size ≤ 9223372036854775807 then (customhouseref25_written.l0 kj42 (x3_1 ++ ((⟨#[32, 111, 114, 32]⟩ : ByteArray) ++ x5_34)) (wrap64 (x4_1 + 1)) a0_0 a0_1 a0_2 a0_3 l0_4) else (none)) else (none)) else (if x3_1.size + x5_34.size ≤ 9223372036854775807 then (customhouseref25_written.l0 kj42 (x3_1 ++ x5_34) (wrap64 (x4_1 + 1)) a0_0 a0_1 a0_2 a0_3 l0_4) else (none))) = some r := by rw [if_neg (show ¬ (false = true) by decide)] at H; exact H
                clear H
                have H := H1
                clear H1
                by_cases c50 : x4_1 > 0
                ·rw [if_pos c50] at H
                 have c50b0 : decide (0 < x4_1) = true := decide_eq_true c50
                 clear c50
                 by_cases c51 : 4 + x5_34.size ≤ 9223372036854775807
                 ·rw [if_pos c51] at H
                  have c51b0 := eq_true c51
                  have c51b1 : decide (4 + x5_34.size ≤ 9223372036854775807) = true := decide_eq_true c51
                  try have c51b2 : (9223372036854775807 < 4 + x5_34.size) = False := eq_false (Nat.not_lt.2 c51)
                  by_cases c52 : x3_1.size + ((⟨#[32, 111, 114, 32]⟩ : ByteArray) ++ x5_34).size ≤ 9223372036854775807
                  ·rw [if_pos c52] at H
                   have c52b0 := eq_true c52
                   have c52b1 : decide (x3_1.size + ((⟨#[32, 111, 114, 32]⟩ : ByteArray) ++ x5_34).size ≤ 9223372036854775807) = true := decide_eq_true c52
                   try have c52b2 : (9223372036854775807 < x3_1.size + ((⟨#[32, 111, 114, 32]⟩ : ByteArray) ++ x5_34).size) = False := eq_false (Nat.not_lt.2 c52)
                   try (have c52b3 := c52; simp only [ByteArray.size_append] at c52b3; replace c52b3 : (9223372036854775807 < x3_1.size + 4 + x5_34.size) = False := eq_false (Nat.not_lt.2 c52b3))
                   have H' := Aside0.mk H
                   clear H
                   go_wp2
                   go_roundg kj42
                   case measure => have := HK1.out; have := HJ26.out; have := HJ34.out; have := HJ42.out; omega
                   case rel => exact ⟨(x3_1 ++ ((⟨#[32, 111, 114, 32]⟩ : ByteArray) ++ x5_34)), (wrap64 (x4_1 + 1)), (by first | rfl | (simp; done) | (simp [*]; done)), (by first | rfl | (simp; done) | (simp [*]; done)), H', ⟨by have := HK1.out; have := HJ26.out; have := HJ34.out; have := HJ42.out; omega⟩, ⟨by (with_reducible repeat (first | refine blk_drewN ?_ _ | refine blk_drew ?_ | refine blk_alloc ?_ _)); exact BK137.out⟩, ⟨by repeat (first | (with_reducible first | exact HB.out | apply below_alloc | apply pw_below_drewN | apply below_drew1 | refine below_set ?_ GE137.out) | exact HB.out)⟩⟩
                  ·rw [if_neg c52] at H
                   exact absurd H (by simp)
                 ·rw [if_neg c51] at H
                  exact absurd H (by simp)
                ·rw [if_neg c50] at H
                 have c50b0 : decide (0 < x4_1) = false := decide_eq_false c50
                 clear c50
                 by_cases c53 : x3_1.size + x5_34.size ≤ 9223372036854775807
                 ·rw [if_pos c53] at H
                  have c53b0 := eq_true c53
                  have c53b1 : decide (x3_1.size + x5_34.size ≤ 9223372036854775807) = true := decide_eq_true c53
                  try have c53b2 : (9223372036854775807 < x3_1.size + x5_34.size) = False := eq_false (Nat.not_lt.2 c53)
                  have H' := Aside0.mk H
                  clear H
                  go_wp2
                  go_roundg kj42
                  case measure => have := HK1.out; have := HJ26.out; have := HJ34.out; have := HJ42.out; omega
                  case rel => exact ⟨(x3_1 ++ x5_34), (wrap64 (x4_1 + 1)), (by first | rfl | (simp; done) | (simp [*]; done)), (by first | rfl | (simp; done) | (simp [*]; done)), H', ⟨by have := HK1.out; have := HJ26.out; have := HJ34.out; have := HJ42.out; omega⟩, ⟨by (with_reducible repeat (first | refine blk_drewN ?_ _ | refine blk_drew ?_ | refine blk_alloc ?_ _)); exact BK137.out⟩, ⟨by repeat (first | (with_reducible first | exact HB.out | apply below_alloc | apply pw_below_drewN | apply below_drew1 | refine below_set ?_ GE137.out) | exact HB.out)⟩⟩
                 ·rw [if_neg c53] at H
                  exact absurd H (by simp)
       ·rw [if_neg c25] at H
        exact absurd H (by simp)
      ·rw [if_neg c24] at H
       have c24b0 : decide (x4_1 < (l0_4.length : Int)) = false := decide_eq_false c24
       clear c24
       obtain rfl := Option.some.inj H
       have hcz54_0 : wr.cell? ⟨gb137, 0, none⟩ = some (.int .i64 a0_0) := (blk_cell BK137.out 0).trans rfl
       have hcz54_1 : wr.cell? ⟨gb137, 1, none⟩ = some (.string a0_1) := (blk_cell BK137.out 1).trans rfl
       have hcz54_2 : wr.cell? ⟨gb137, 2, none⟩ = some (.int .i64 a0_2) := (blk_cell BK137.out 2).trans rfl
       have hcz54_3 : wr.cell? ⟨gb137, 3, none⟩ = some (.int .i64 a0_3) := (blk_cell BK137.out 3).trans rfl
       have hcz54_4 : wr.cell? ⟨gb137, 4, none⟩ = some (.slice A0_4 l0_4.length c0_4) := (blk_cell BK137.out 4).trans rfl
       have hfz54_0 := blk_frozen BK137.out 0
       have hfz54_1 := blk_frozen BK137.out 1
       have hfz54_2 := blk_frozen BK137.out 2
       have hfz54_3 := blk_frozen BK137.out 3
       have hfz54_4 := blk_frozen BK137.out 4
       go_wp2
       go_ret
       exact ⟨by first | rfl | (simp [errW_none, errW_some] <;> rfl) | (simp [*, errW_none, errW_some] <;> rfl), by repeat (first | (with_reducible first | exact HB.out | apply below_alloc | apply pw_below_drewN | apply below_drew1 | refine below_set ?_ GE137.out) | exact HB.out)⟩
end Go.Proofs.YtkgmempifggajaaGreatDoor.PLawFormulaTextsAsReference
