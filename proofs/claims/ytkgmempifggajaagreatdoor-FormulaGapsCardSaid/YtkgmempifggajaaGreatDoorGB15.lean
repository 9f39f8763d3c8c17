/- What the statement's proof builds on: PLawFormulaGapsx0, PLawFormulaGapsx1, GoGaps. -/
import Derived.Test.YtkgmempifggajaaGreatDoorProg
import Derived.Test.YtkgmempifggajaaGreatDoorGB13
import Derived.Carry
import Derived.Deep.RegionHeld3
import Derived.Great.BuildSlice
import Derived.Laws.EntriesVeiled
import Derived.Laws.Runes
import Derived.Lib.SmallJoins
import Derived.Maps.OwnSet
import Derived.OneCell
import Derived.Scope
import Derived.Shelf.LaysC
import Derived.Shelf.LaysM
import Derived.Shelf.Slices.Turned
import Derived.Shelf.Small.Strs
import Derived.Shelf.Small.Utf8
import Derived.Shelf.Strconv.Atoi
import Derived.Shelf.Strconv.AtoiAll
import Derived.Shelf.Strconv.AtoiErr
import Derived.Shelf.Strconv.AtoiErrFast
import Derived.Shelf.Strconv.AtoiFail
import Derived.Shelf.Strconv.AtoiInnerAll
import Derived.Shelf.Strconv.AtoiLong
import Derived.Shelf.Strconv.Clone
import Derived.Shelf.Strconv.ErrVar
import Derived.Shelf.Strconv.ErrVarAll
import Derived.Shelf.Strconv.Itoa0
import Derived.Shelf.Strconv.Itoa1
import Derived.Shelf.Strconv.Itoa2
import Derived.Shelf.Strconv.Itoa3
import Derived.Shelf.Strconv.Lower
import Derived.Shelf.Strconv.ParseInt10
import Derived.Shelf.Strconv.ParseIntEmpty
import Derived.Shelf.Strconv.ParseUint10
import Derived.Shelf.Strconv.ParseUint10Any
import Derived.Shelf.Strconv.ParseUint10Empty
import Derived.Shelf.Strconv.RangeError
import Derived.Shelf.Strconv.SyntaxError
import Derived.Shelf.Strconv.ToError
import Derived.Shelf.Strconv.ToErrorRange
import Derived.Shelf.Strings.AsciiSet
import Derived.Shelf.Strings.Builder1
import Derived.Shelf.Strings.Builder2
import Derived.Shelf.Strings.BuilderF
import Derived.Shelf.Strings.BuilderK
import Derived.Shelf.Strings.IndexAny
import Derived.Shelf.Strings.IndexAnyAll
import Derived.Shelf.Strings.OnBuilder
import Derived.Shelf.Strings.Prefix
import Derived.Shelf.Strings.Runes
import Derived.Shelf.Strings.Search1
import Derived.StringKeys
import Derived.Test.YtkgmempifggajaaGreatDoorWMore
import Derived.WalkLawsBesides
import Derived.WalkSpells
import Derived.Below
import Derived.Deep.Draws
import Derived.Deep.AppendLies
import Derived.Maps.AppendAt
import Derived.OwnWalk
import Derived.Laws.BytesArg
import Derived.Laws.MakeOwn
import Derived.Laws.OwnMore
import Derived.Deep.OwnRows
import Derived.Tactics
import Derived.Lib.ConvBytes
import Derived.Laws.Slices
import Derived.WalkKit
import Derived.KernelRfl
import Derived.RowKit3
import Derived.Deep.LoopGhost
import Derived.Deep.QuietTactic
import Derived.BigQuiet
import Derived.WideLaws
import Derived.Deep.DeepCutAuto
import Derived.Deep.CutBlock
import Derived.Laws.Rows
import Derived.Lib.AppendStr
import Derived.ArgAppend
import Derived.Laws.IdiomCopy
import Derived.OrdersHeld
import Derived.Laws.BitsLemmas
import Derived.RowKit
import Derived.Test.YtkgmempifggajaaGreatDoorWWords
import Derived.Test.YtkgmempifggajaaGreatDoorWLast
import Derived.Test.YtkgmempifggajaaGreatDoorWTab
import Derived.Test.YtkgmempifggajaaGreatDoorWFour
import Derived.Test.YtkgmempifggajaaGreatDoorWQPut
import Derived.Test.YtkgmempifggajaaGreatDoorWApart
import Derived.Test.YtkgmempifggajaaGreatDoorWArr
import Derived.Test.YtkgmempifggajaaGreatDoorWZeros
import Derived.Test.YtkgmempifggajaaGreatDoorWFoot
import Derived.Test.YtkgmempifggajaaGreatDoorWKept
import Derived.Test.YtkgmempifggajaaGreatDoorWShare
import Derived.Test.YtkgmempifggajaaGreatDoorWN
import Derived.Test.YtkgmempifggajaaGreatDoorWFootNe
import Derived.Test.YtkgmempifggajaaGreatDoorWAt
import Derived.Test.YtkgmempifggajaaGreatDoorWEqStruct
import Derived.Test.YtkgmempifggajaaGreatDoorWRepsOne
import Derived.Test.YtkgmempifggajaaGreatDoorWInv
import Derived.Test.YtkgmempifggajaaGreatDoorWInvWords
import Derived.Test.YtkgmempifggajaaGreatDoorWGuard
import Derived.Test.YtkgmempifggajaaGreatDoorWNEv
import Derived.Test.YtkgmempifggajaaGreatDoorGB10
import Derived.Test.YtkgmempifggajaaGreatDoorGB14
-- the text YtkgmempifggajaaGreatDoorPLawFormulaGapsx0
-- Printed by pext.py out of the translation.
open Go.Proofs.YtkgmempifggajaaGreatDoor.P (F24 S24 S49 S75 at_T24 at_T49 at_T75 k24 k24_heap k24_mk k24_mkM k24_open k24_openF k24_openM k49 k49_mk k49_open k75 k75_mkM k75_open mono24 rd_T24 rd_T49 rd_T75 sub24 sz24 z24 z49 z75)
namespace Go.Proofs.YtkgmempifggajaaGreatDoor.PLawFormulaGaps
open Go.RowKit Go.Proofs.YtkgmempifggajaaGreatDoorW.PrintWords Go.Proofs.YtkgmempifggajaaGreatDoorW.PrintLast Go.Proofs.YtkgmempifggajaaGreatDoorW.PrintMore
attribute [local go_sem] max2_int min2_int max_two min_two max_three min_three max_four min_four   -- for this text's walks alone
set_option linter.unusedVariables false
set_option linter.unusedSimpArgs false



def errW : Option Int → Value
  | none => .nilIface
  | some c => .iface 0 (.int .i64 c)
theorem errW_none : errW none = .nilIface := rfl
theorem errW_some (c : Int) : errW (some c) = .iface 0 (.int .i64 c) := rfl

-- the values' own types: see Types
/-! #### struct type 24, nested in itself -/
end Go.Proofs.YtkgmempifggajaaGreatDoor.PLawFormulaGaps
-- the text YtkgmempifggajaaGreatDoorPLawFormulaGapsx1
-- Printed by pext.py out of the translation.
open Go.Proofs.YtkgmempifggajaaGreatDoor.P (F24 S24 S49 S75 at_T24 at_T49 at_T75 k24 k24_heap k24_mk k24_mkM k24_open k24_openF k24_openM k49 k49_mk k49_open k75 k75_mkM k75_open mono24 rd_T24 rd_T49 rd_T75 sub24 sz24 z24 z49 z75)
namespace Go.Proofs.YtkgmempifggajaaGreatDoor.PLawFormulaGaps
open Go.RowKit Go.Proofs.YtkgmempifggajaaGreatDoorW.PrintWords Go.Proofs.YtkgmempifggajaaGreatDoorW.PrintLast Go.Proofs.YtkgmempifggajaaGreatDoorW.PrintMore
attribute [local go_sem] max2_int min2_int max_two min_two max_three min_three max_four min_four   -- for this text's walks alone
set_option linter.unusedVariables false
set_option linter.unusedSimpArgs false

/-! ### customhouseref07_has: function 87 -/
def customhouseref07_has.l0 : Nat → ByteArray → Int → Int → Option (Bool)
  | 0, _, _, _ => none
  | k + 1, x0, x1, x5 => if x5 < (x0.size : Int) then (if 0 ≤ x5 then (if (bt x0 x5) = x1 then (some true) else (customhouseref07_has.l0 k x0 x1 (wrap64 (x5 + 1)))) else (none)) else (some false)
def customhouseref07_has.f (k : Nat) (a0 : ByteArray) (a1 : Int) : Option (Bool) := customhouseref07_has.l0 k a0 a1 0
set_option maxHeartbeats 8000000 in
set_option maxRecDepth 100000 in
theorem customhouseref07_has.calls (k : Nat) (a0 : ByteArray) (a1 : Int) (r : Bool) (w : World) (h : customhouseref07_has.f k a0 a1 = some r) :
    Calls Tryz.prog 87 #[.string a0, .int .u8 a1] w fun e w' => e = .returned (.bool r) ∧ Drawn0 w w' := by
  have H : (customhouseref07_has.l0 k a0 a1 0) = some r := h
  clear h
  have H' := Aside0.mk H
  clear H
  go_enter Tryz.func87, Tryz.ntmps87
  go_wp2
  go_loopg [5] k (fun kq v5 w' => ∃ (x5_1 : Int), v5 = .int .i64 x5_1 ∧ Aside0 (customhouseref07_has.l0 kq a0 a1 x5_1 = some r) ∧ Aside0 (kq ≤ k) ∧ Drawn0 w w')
  case atStart => exact ⟨(0), (by first | rfl | (simp; done) | (simp [*]; done)), H', ⟨Nat.le_refl _⟩, by repeat (first | exact Drawn0.refl _ | apply Drawn0.step)⟩
  case round =>
    clear H'
    try clear p2
    obtain ⟨x5_1, rfl, HA, HK1, ⟨m1, rfl⟩⟩ := hrel
    cases gk with
    | zero => exact absurd HA.out (by simp [customhouseref07_has.l0])
    | succ k1 =>
      have H := HA.out
      clear HA
      simp only [customhouseref07_has.l0] at H
      by_cases c3 : x5_1 < (a0.size : Int)
      · rw [if_pos c3] at H
        have c3b0 : decide (x5_1 < (a0.size : Int)) = true := decide_eq_true c3
        clear c3
        by_cases c4 : 0 ≤ x5_1
        · rw [if_pos c4] at H
          have c4b0 : decide (0 ≤ x5_1) = true := decide_eq_true c4
          clear c4
          by_cases c6 : (bt a0 x5_1) = a1
          · rw [if_pos c6] at H
            have c6b0 : ((bt a0 x5_1) == a1) = true := beq_iff_eq.mpr c6
            have c6b1 : ((bt a0 x5_1) != a1) = false := bne_eq_false_iff_eq.mpr c6
            clear c6
            obtain rfl := Option.some.inj H
            have p5 : 0 ≤ (x5_1 : Int) := of_decide_eq_true (by first | (with_reducible assumption) | assumption)
            have q5 : x5_1 < (a0.size : Int) := of_decide_eq_true (by first | (with_reducible assumption) | assumption)
            have hx5 := bt_at a0 x5_1
            replace p5 := eq_true p5
            replace q5 := eq_true q5
            go_wp2
            go_ret
            exact ⟨by first | rfl | (simp; done) | (simp [*]; done), by repeat (first | exact Drawn0.refl _ | apply Drawn0.step)⟩
          · rw [if_neg c6] at H
            have c6b0 : ((bt a0 x5_1) == a1) = false := beq_eq_false_iff_ne.mpr c6
            have c6b1 : ((bt a0 x5_1) != a1) = true := bne_iff_ne.mpr c6
            have H' := Aside0.mk H
            clear H
            have p5 : 0 ≤ (x5_1 : Int) := of_decide_eq_true (by first | (with_reducible assumption) | assumption)
            have q5 : x5_1 < (a0.size : Int) := of_decide_eq_true (by first | (with_reducible assumption) | assumption)
            have hx5 := bt_at a0 x5_1
            replace p5 := eq_true p5
            replace q5 := eq_true q5
            go_wp2
            go_roundg k1
            case measure => have := HK1.out; omega
            case rel => exact ⟨(wrap64 (x5_1 + 1)), (by first | rfl | (simp; done) | (simp [*]; done)), H', ⟨by have := HK1.out; omega⟩, by repeat (first | exact Drawn0.refl _ | apply Drawn0.step)⟩
        · rw [if_neg c4] at H
          exact absurd H (by simp)
      · rw [if_neg c3] at H
        have c3b0 : decide (x5_1 < (a0.size : Int)) = false := decide_eq_false c3
        clear c3
        obtain rfl := Option.some.inj H
        go_wp2
        go_ret
        exact ⟨by first | rfl | (simp; done) | (simp [*]; done), by repeat (first | exact Drawn0.refl _ | apply Drawn0.step)⟩

/-! ### customhouseref07_gap: function 62 -/
mutual
def customhouseref07_gap.l0 : Nat → ByteArray → Int → Option (Int)
  | 0, _, _ => none
  | k + 1, x0, x1 => if x1 < (x0.size : Int) then (if 0 ≤ x1 then ((customhouseref07_has.f k (⟨#[32, 9, 10]⟩ : ByteArray) (bt x0 x1)).bind fun t101 => (if t101 = true then (customhouseref07_gap.l0 k x0 (wrap64 (x1 + 1))) else (if (bt x0 x1) = 35 then (customhouseref07_gap.l1 k x0 x1) else (some x1)))) else (none)) else (some x1)
def customhouseref07_gap.l1 : Nat → ByteArray → Int → Option (Int)
  | 0, _, _ => none
  | k + 1, x0, x1 => if x1 < (x0.size : Int) then (if 0 ≤ x1 then (if (bt x0 x1) = 10 then (customhouseref07_gap.l0 k x0 x1) else (customhouseref07_gap.l1 k x0 (wrap64 (x1 + 1)))) else (none)) else (customhouseref07_gap.l0 k x0 x1)
end
def customhouseref07_gap.f (k : Nat) (a0 : ByteArray) (a1 : Int) : Option (Int) := customhouseref07_gap.l0 k a0 a1
set_option maxHeartbeats 8000000 in
set_option maxRecDepth 100000 in
theorem customhouseref07_gap.calls (k : Nat) (a0 : ByteArray) (a1 : Int) (r : Int) (w : World) (h : customhouseref07_gap.f k a0 a1 = some r) :
    Calls Tryz.prog 62 #[.string a0, .int .i64 a1] w fun e w' => e = .returned (.int .i64 r) ∧ Drawn0 w w' := by
  have H : (customhouseref07_gap.l0 k a0 a1) = some r := h
  clear h
  have H' := Aside0.mk H
  clear H
  go_enter Tryz.func62, Tryz.ntmps62
  go_wp2
  go_loopg [1] k (fun kq v1 w' => ∃ (x1_1 : Int), v1 = .int .i64 x1_1 ∧ Aside0 (customhouseref07_gap.l0 kq a0 x1_1 = some r) ∧ Aside0 (kq ≤ k) ∧ Drawn0 w w')
  case atStart => exact ⟨(a1), (by first | rfl | (simp; done) | (simp [*]; done)), H', ⟨Nat.le_refl _⟩, by repeat (first | exact Drawn0.refl _ | apply Drawn0.step)⟩
  case round =>
    clear H'
    try clear p2
    obtain ⟨x1_1, rfl, HA, HK1, ⟨m1, rfl⟩⟩ := hrel
    cases gk with
    | zero => exact absurd HA.out (by simp [customhouseref07_gap.l0])
    | succ k1 =>
      have H := HA.out
      clear HA
      simp only [customhouseref07_gap.l0] at H
      by_cases c3 : x1_1 < (a0.size : Int)
      · rw [if_pos c3] at H
        have c3b0 : decide (x1_1 < (a0.size : Int)) = true := decide_eq_true c3
        clear c3
        by_cases c4 : 0 ≤ x1_1
        · rw [if_pos c4] at H
          have c4b0 : decide (0 ≤ x1_1) = true := decide_eq_true c4
          clear c4
          replace H := Option.bind_eq_some_iff.mp H
          obtain ⟨t101, A60, H⟩ := H
          replace H : (if t101 = true then (customhouseref07_gap.l0 k1 a0 (wrap64 (x1_1 + 1))) else (if (bt a0 x1_1) = 35 then (customhouseref07_gap.l1 k1 a0 x1_1) else (some x1_1))) = some r := H
          have A6 := Aside0.mk A60
          clear A60
          by_cases c7 : t101 = true
          · subst c7
            have H1 : (customhouseref07_gap.l0 k1 a0 (wrap64 (x1_1 + 1))) = some r := by rw [if_pos rfl] at H; exact H
            clear H
            have H := H1
            clear H1
            have H' := Aside0.mk H
            clear H
            have p5 : 0 ≤ (x1_1 : Int) := of_decide_eq_true (by first | (with_reducible assumption) | assumption)
            have q5 : x1_1 < (a0.size : Int) := of_decide_eq_true (by first | (with_reducible assumption) | assumption)
            have hx5 := bt_at a0 x1_1
            replace p5 := eq_true p5
            replace q5 := eq_true q5
            go_wp2_with (first | ((with_reducible refine gate_callee (f := 87) rfl ?_); refine goesL_ (some 12) rfl rfl Tryz.func87 (by kernel_rfl) rfl #[.string (⟨#[32, 9, 10]⟩ : ByteArray), .int .u8 (bt a0 x1_1)] rfl (by (try simp only [List.map_toArray, List.map_cons, List.map_nil]); first | done | rfl | (simp only [List.length_drop, List.length_take]; rfl)) ?_; (with_reducible refine (customhouseref07_has.calls k1 (⟨#[32, 9, 10]⟩ : ByteArray) (bt a0 x1_1) true _ A6.out).mono ?_); rintro e w' ⟨rfl, ⟨nd, rfl⟩⟩; refine ⟨_, rfl, ?_⟩))
            go_roundg k1
            case measure => have := HK1.out; omega
            case rel => exact ⟨(wrap64 (x1_1 + 1)), (by first | rfl | (simp; done) | (simp [*]; done)), H', ⟨by have := HK1.out; omega⟩, by repeat (first | exact Drawn0.refl _ | apply Drawn0.step)⟩
          · replace c7 := Bool.eq_false_iff.mpr c7
            subst c7
            have H1 : (if (bt a0 x1_1) = 35 then (customhouseref07_gap.l1 k1 a0 x1_1) else (some x1_1)) = some r := by rw [if_neg (show ¬ (false = true) by decide)] at H; exact H
            clear H
            have H := H1
            clear H1
            by_cases c9 : (bt a0 x1_1) = 35
            · rw [if_pos c9] at H
              have c9b0 : ((bt a0 x1_1) == 35) = true := beq_iff_eq.mpr c9
              have c9b1 : ((bt a0 x1_1) != 35) = false := bne_eq_false_iff_eq.mpr c9
              clear c9
              have H' := Aside0.mk H
              clear H
              have p5 : 0 ≤ (x1_1 : Int) := of_decide_eq_true (by first | (with_reducible assumption) | assumption)
              have q5 : x1_1 < (a0.size : Int) := of_decide_eq_true (by first | (with_reducible assumption) | assumption)
              have hx5 := bt_at a0 x1_1
              replace p5 := eq_true p5
              replace q5 := eq_true q5
              go_wp2_with (first | ((with_reducible refine gate_callee (f := 87) rfl ?_); refine goesL_ (some 12) rfl rfl Tryz.func87 (by kernel_rfl) rfl #[.string (⟨#[32, 9, 10]⟩ : ByteArray), .int .u8 (bt a0 x1_1)] rfl (by (try simp only [List.map_toArray, List.map_cons, List.map_nil]); first | done | rfl | (simp only [List.length_drop, List.length_take]; rfl)) ?_; (with_reducible refine (customhouseref07_has.calls k1 (⟨#[32, 9, 10]⟩ : ByteArray) (bt a0 x1_1) false _ A6.out).mono ?_); rintro e w' ⟨rfl, ⟨nd, rfl⟩⟩; refine ⟨_, rfl, ?_⟩; have p8 : 0 ≤ (x1_1 : Int) := of_decide_eq_true (by first | (with_reducible assumption) | assumption); have q8 : x1_1 < (a0.size : Int) := of_decide_eq_true (by first | (with_reducible assumption) | assumption); have hx8 := bt_at a0 x1_1; replace p8 := eq_true p8; replace q8 := eq_true q8))
              go_loopg [1] k1 (fun kq v1 w' => ∃ (x1_2 : Int), v1 = .int .i64 x1_2 ∧ Aside0 (customhouseref07_gap.l1 kq a0 x1_2 = some r) ∧ Aside0 (kq ≤ k1) ∧ Drawn0 w w')
              case atStart => exact ⟨(x1_1), (by first | rfl | (simp; done) | (simp [*]; done)), H', ⟨Nat.le_refl _⟩, by repeat (first | exact Drawn0.refl _ | apply Drawn0.step)⟩
              case round =>
                clear H'
                try clear p2
                try clear c3
                try clear c3b0
                try clear c4
                try clear c4b0
                try clear p5
                try clear q5
                try clear hx5
                try clear c6
                try clear p6
                try clear c7
                try clear c8
                try clear p8
                try clear q8
                try clear hx8
                try clear c9
                try clear c9b0
                try clear c9b1
                try clear p2
                try clear p5
                try clear p8
                try clear q5
                try clear q8
                obtain ⟨x1_2, rfl, HA, HK2, ⟨m2, rfl⟩⟩ := hrel
                cases gk with
                | zero => exact absurd HA.out (by simp [customhouseref07_gap.l1])
                | succ k2 =>
                  have H := HA.out
                  clear HA
                  simp only [customhouseref07_gap.l1] at H
                  by_cases c10 : x1_2 < (a0.size : Int)
                  · rw [if_pos c10] at H
                    have c10b0 : decide (x1_2 < (a0.size : Int)) = true := decide_eq_true c10
                    clear c10
                    by_cases c11 : 0 ≤ x1_2
                    · rw [if_pos c11] at H
                      have c11b0 : decide (0 ≤ x1_2) = true := decide_eq_true c11
                      clear c11
                      by_cases c13 : (bt a0 x1_2) = 10
                      · rw [if_pos c13] at H
                        have c13b0 : ((bt a0 x1_2) == 10) = true := beq_iff_eq.mpr c13
                        have c13b1 : ((bt a0 x1_2) != 10) = false := bne_eq_false_iff_eq.mpr c13
                        clear c13
                        have H' := Aside0.mk H
                        clear H
                        have p12 : 0 ≤ (x1_2 : Int) := of_decide_eq_true (by first | (with_reducible assumption) | assumption)
                        have q12 : x1_2 < (a0.size : Int) := of_decide_eq_true (by first | (with_reducible assumption) | assumption)
                        have hx12 := bt_at a0 x1_2
                        replace p12 := eq_true p12
                        replace q12 := eq_true q12
                        go_wp2
                        go_roundg k2
                        case measure => have := HK1.out; have := HK2.out; omega
                        case rel => exact ⟨(x1_2), (by first | rfl | (simp; done) | (simp [*]; done)), H', ⟨by have := HK1.out; have := HK2.out; omega⟩, by repeat (first | exact Drawn0.refl _ | apply Drawn0.step)⟩
                      · rw [if_neg c13] at H
                        have c13b0 : ((bt a0 x1_2) == 10) = false := beq_eq_false_iff_ne.mpr c13
                        have c13b1 : ((bt a0 x1_2) != 10) = true := bne_iff_ne.mpr c13
                        have H' := Aside0.mk H
                        clear H
                        have p12 : 0 ≤ (x1_2 : Int) := of_decide_eq_true (by first | (with_reducible assumption) | assumption)
                        have q12 : x1_2 < (a0.size : Int) := of_decide_eq_true (by first | (with_reducible assumption) | assumption)
                        have hx12 := bt_at a0 x1_2
                        replace p12 := eq_true p12
                        replace q12 := eq_true q12
                        go_wp2
                        go_roundg k2
                        case measure => have := HK1.out; have := HK2.out; omega
                        case rel => exact ⟨(wrap64 (x1_2 + 1)), (by first | rfl | (simp; done) | (simp [*]; done)), H', ⟨by have := HK1.out; have := HK2.out; omega⟩, by repeat (first | exact Drawn0.refl _ | apply Drawn0.step)⟩
                    · rw [if_neg c11] at H
                      exact absurd H (by simp)
                  · rw [if_neg c10] at H
                    have c10b0 : decide (x1_2 < (a0.size : Int)) = false := decide_eq_false c10
                    clear c10
                    have H' := Aside0.mk H
                    clear H
                    go_wp2
                    go_roundg k2
                    case measure => have := HK1.out; have := HK2.out; omega
                    case rel => exact ⟨(x1_2), (by first | rfl | (simp; done) | (simp [*]; done)), H', ⟨by have := HK1.out; have := HK2.out; omega⟩, by repeat (first | exact Drawn0.refl _ | apply Drawn0.step)⟩
            · rw [if_neg c9] at H
              have c9b0 : ((bt a0 x1_1) == 35) = false := beq_eq_false_iff_ne.mpr c9
              have c9b1 : ((bt a0 x1_1) != 35) = true := bne_iff_ne.mpr c9
              obtain rfl := Option.some.inj H
              have p5 : 0 ≤ (x1_1 : Int) := of_decide_eq_true (by first | (with_reducible assumption) | assumption)
              have q5 : x1_1 < (a0.size : Int) := of_decide_eq_true (by first | (with_reducible assumption) | assumption)
              have hx5 := bt_at a0 x1_1
              replace p5 := eq_true p5
              replace q5 := eq_true q5
              go_wp2_with (first | ((with_reducible refine gate_callee (f := 87) rfl ?_); refine goesL_ (some 12) rfl rfl Tryz.func87 (by kernel_rfl) rfl #[.string (⟨#[32, 9, 10]⟩ : ByteArray), .int .u8 (bt a0 x1_1)] rfl (by (try simp only [List.map_toArray, List.map_cons, List.map_nil]); first | done | rfl | (simp only [List.length_drop, List.length_take]; rfl)) ?_; (with_reducible refine (customhouseref07_has.calls k1 (⟨#[32, 9, 10]⟩ : ByteArray) (bt a0 x1_1) false _ A6.out).mono ?_); rintro e w' ⟨rfl, ⟨nd, rfl⟩⟩; refine ⟨_, rfl, ?_⟩; have p8 : 0 ≤ (x1_1 : Int) := of_decide_eq_true (by first | (with_reducible assumption) | assumption); have q8 : x1_1 < (a0.size : Int) := of_decide_eq_true (by first | (with_reducible assumption) | assumption); have hx8 := bt_at a0 x1_1; replace p8 := eq_true p8; replace q8 := eq_true q8))
              go_ret
              exact ⟨by first | rfl | (simp; done) | (simp [*]; done), by repeat (first | exact Drawn0.refl _ | apply Drawn0.step)⟩
        · rw [if_neg c4] at H
          exact absurd H (by simp)
      · rw [if_neg c3] at H
        have c3b0 : decide (x1_1 < (a0.size : Int)) = false := decide_eq_false c3
        clear c3
        obtain rfl := Option.some.inj H
        go_wp2
        go_ret
        exact ⟨by first | rfl | (simp; done) | (simp [*]; done), by repeat (first | exact Drawn0.refl _ | apply Drawn0.step)⟩

/-! ### customhouseref07_Gaps: function 34 -/
def customhouseref07_Gaps.f (k : Nat) (a0 : ByteArray) : Option (Bool) := (customhouseref07_gap.f k a0 0).bind fun t102 => (some (t102 == (a0.size : Int)))
set_option maxHeartbeats 8000000 in
set_option maxRecDepth 100000 in
theorem customhouseref07_Gaps.calls (k : Nat) (a0 : ByteArray) (r : Bool) (w : World) (h : customhouseref07_Gaps.f k a0 = some r) :
    Calls Tryz.prog 34 #[.string a0] w fun e w' => e = .returned (.bool r) ∧ Drawn0 w w' := by
  have H : ((customhouseref07_gap.f k a0 0).bind fun t102 => (some (t102 == (a0.size : Int)))) = some r := h
  clear h
  replace H := Option.bind_eq_some_iff.mp H
  obtain ⟨t102, A20, H⟩ := H
  replace H : (some (t102 == (a0.size : Int))) = some r := H
  have A2 := Aside0.mk A20
  clear A20
  obtain rfl := Option.some.inj H
  go_enter Tryz.func34, Tryz.ntmps34
  go_wp2_with (first | ((with_reducible refine gate_callee (f := 62) rfl ?_); refine goesL_ (some 4) rfl rfl Tryz.func62 (by kernel_rfl) rfl #[.string a0, .int .i64 0] rfl (by (try simp only [List.map_toArray, List.map_cons, List.map_nil]); first | done | rfl | (simp only [List.length_drop, List.length_take]; rfl)) ?_; (with_reducible refine (customhouseref07_gap.calls k a0 0 t102 _ A2.out).mono ?_); rintro e w' ⟨rfl, ⟨nd, rfl⟩⟩; refine ⟨_, rfl, ?_⟩))
  go_ret
  exact ⟨by first | rfl | (simp; done) | (simp [*]; done), by repeat (first | exact Drawn0.refl _ | apply Drawn0.step)⟩

end Go.Proofs.YtkgmempifggajaaGreatDoor.PLawFormulaGaps
-- the text YtkgmempifggajaaGreatDoorGoGaps
/- FormulaGaps, walked. -/
namespace Go.Proofs.YtkgmempifggajaaGreatDoor.PLawFormulaGaps
open Go.RowKit Go.Proofs.YtkgmempifggajaaGreatDoorW.PrintWords Go.Proofs.YtkgmempifggajaaGreatDoorW.PrintLast Go.Proofs.YtkgmempifggajaaGreatDoorW.PrintMore
open Go.Proofs.YtkgmempifggajaaGreatDoor.P
set_option linter.unusedVariables false
set_option linter.unusedSimpArgs false

/-- What the law has in memory: the two formulas. -/
structure GP (w0 w : World) (b1 b2 : Nat) (x y : Fm) (A B : Option Addr) (c d : Nat) : Prop where
  f : w.heap[b1]? = some (.cells #[.int .i64 x.f0, .string x.f1, .int .i64 x.f2, .int .i64 x.f3, .slice A x.f4.length c] 24 (0, 0))
  g : w.heap[b2]? = some (.cells #[.int .i64 y.f0, .string y.f1, .int .i64 y.f2, .int .i64 y.f3, .slice B y.f4.length d] 24 (0, 0))
  fC : Kd.C kFm w A x.f4.length x.f4
  gC : Kd.C kFm w B y.f4.length y.f4
  fl : x.f4.length ≤ c
  gl : y.f4.length ≤ d
  old : Below w0.heap.size w0 w
theorem row_C {w : World} {base : Nat} {ok : Nat → Prop} {A : Option Addr} {n c : Nat} {xs : List Fm} (h : Kd.R kFm 24 w base ok (.slice A n c) xs) : n = xs.length ∧ xs.length ≤ c ∧ Kd.C kFm w A xs.length xs := by
  obtain ⟨_, _, he, hl, hC⟩ := Kd.R_reads h
  injection he with h1 h2 h3
  subst h1
  subst h3
  exact ⟨h2, hl, hC⟩
set_option maxHeartbeats 4000000 in
set_option maxRecDepth 100000 in
theorem gaps_main (t g s1 s2 q s4 s5 s6 s7 z : ByteArray) (k : Nat) (w : World) (ht : (t.size : Int) ≤ 2000) (hg : (g.size : Int) ≤ 200) (hz : z.size ≤ 9223372036854775807)
    (a1 : ∀ W : World, (Op.stringOp .add g { data := #[10, 40] }).run Tryz.prog W = .ok (.string s1) W)
    (a2 : ∀ W : World, (Op.stringOp .add s1 g).run Tryz.prog W = .ok (.string s2) W)
    (a3 : ∀ W : World, (Op.stringOp .add s2 { data := #[10] }).run Tryz.prog W = .ok (.string q) W)
    (a4 : ∀ W : World, (Op.stringOp .add q t).run Tryz.prog W = .ok (.string s4) W)
    (a5 : ∀ W : World, (Op.stringOp .add s4 { data := #[10] }).run Tryz.prog W = .ok (.string s5) W)
    (a6 : ∀ W : World, (Op.stringOp .add s5 g).run Tryz.prog W = .ok (.string s6) W)
    (a7 : ∀ W : World, (Op.stringOp .add s6 { data := #[10, 41] }).run Tryz.prog W = .ok (.string s7) W)
    (a8 : ∀ W : World, (Op.stringOp .add s7 g).run Tryz.prog W = .ok (.string z) W)
    (hG : customhouseref07_Gaps.f k g = some true)
    (hop : (parseF z).2.1 = 0 → (parseF z).1.f0 ≠ 0)
    (hq : (q.size : Int) ≤ 1000)
    (hm : (parseF t).2.1 = 5 ∨ (parseF t).2.1 = 6 ∨ ((parseF z).1 = (parseF t).1 ∧ (parseF z).2.1 = (parseF t).2.1 ∧
      (((parseF t).2.1 = 0 ∧ (parseF z).2.2 = 0) ∨ ((parseF t).2.1 ≠ 0 ∧ (parseF t).2.2 = -1 ∧ (parseF z).2.2 = -1) ∨
        ((parseF t).2.1 ≠ 0 ∧ Pos (parseF t).2.2 ∧ (parseF z).2.2 = (parseF t).2.2 + (q.size : Int))))) :
    Calls Tryz.prog 11 #[.string t, .string g] w fun e w' => e = .returned (.bool true) ∧ Below w.heap.size w w' := by
  have HM := Aside0.mk hm
  have HO := Aside0.mk hop
  have HQ := Aside0.mk hq
  have HZ := Aside0.mk hz
  clear hm hop hq hz
  go_enter Tryz.func11, Tryz.ntmps11
  go_wp2_with fail
  refine (head_calls _).mono ?_
  rintro e w1 ⟨rfl, hb⟩
  have HB := Aside0.mk hb
  clear hb
  go_wp2_with fail
  refine (customhouseref07_Gaps.calls k g true _ hG).mono ?_
  rintro e w2 ⟨rfl, hb0⟩
  have hb := hb0.below
  have HB2 := Aside0.mk (HB.out.trans (hb.mono HB.out.size))
  clear hb0
  clear hb HB
  go_wp2_with fail
  refine (parse_calls t _ (by omega)).mono ?_
  obtain ⟨⟨x, e1, m1⟩, hx⟩ : ∃ r, parseF t = r := ⟨_, rfl⟩
  obtain ⟨⟨y, e2, m2⟩, hy⟩ : ∃ r, parseF z = r := ⟨_, rfl⟩
  rintro e w3 ⟨v3, rfl, hR, hb⟩
  rw [hx] at hR HM ⊢
  rw [hy] at HM HO
  obtain ⟨A, c, rfl⟩ := Kd.R_slice hR
  obtain ⟨_, hl3, hC3⟩ := row_C hR
  have HB3 := Aside0.mk (HB2.out.trans (hb.mono HB2.out.size))
  have HC3 := Aside0.mk hC3
  have HL3 := Aside0.mk hl3
  simp only at HM HO hC3 hl3 ⊢
  clear hb HB2 hR hC3 hl3
  go_wp2_with fail
  have HF := Aside0.mk (show (w3.alloc (.cells #[.int .i64 x.f0, .string x.f1, .int .i64 x.f2, .int .i64 x.f3, .slice A x.f4.length c] 24)).heap[w3.heap.size]? = some (.cells #[.int .i64 x.f0, .string x.f1, .int .i64 x.f2, .int .i64 x.f3, .slice A x.f4.length c] 24 (0, 0)) from blk_new _ _ rfl)
  refine (parse_calls z _ HZ.out).mono ?_
  rintro e w4 ⟨v4, rfl, hR, hb⟩
  rw [hy] at hR ⊢
  obtain ⟨B, d, rfl⟩ := Kd.R_slice hR
  obtain ⟨_, hl4, hC4⟩ := row_C hR
  have hb5 := below_then (below_alloc (Below.refl w3.heap.size w3) (.cells #[.int .i64 x.f0, .string x.f1, .int .i64 x.f2, .int .i64 x.f3, .slice A x.f4.length c] 24)) (by simp) hb
  have HP := Aside0.mk (show GP w (w4.alloc (.cells #[.int .i64 y.f0, .string y.f1, .int .i64 y.f2, .int .i64 y.f3, .slice B y.f4.length d] 24)) w3.heap.size w4.heap.size x y A B c d from
    ⟨blk_alloc_old ((hb.block _ (lt_of_block HF.out)).trans HF.out) _, blk_new _ _ rfl, Kd.C_below HC3.out (below_alloc hb5 _), Kd.C_below hC4 (below_alloc (Below.refl _ _) _), HL3.out, hl4, below_alloc (HB3.out.trans (hb5.mono HB3.out.size)) _⟩)
  simp only at hC4 hl4 ⊢
  clear hb hR hC4 hl4 hb5 HF HB3 HC3 HL3
  have hg0 : (w4.alloc (.cells #[.int .i64 y.f0, .string y.f1, .int .i64 y.f2, .int .i64 y.f3, .slice B y.f4.length d] 24)).cell? ⟨w4.heap.size, 0, none⟩ = some (.int .i64 y.f0) := blk_cell HP.out.g 0
  by_cases k6 : e1 = 6
  · have b6 : (e1 == 6) = true := by rw [k6]; rfl
    by_cases k0 : e2 = 0
    · have b0 : (e2 != 0) = false := by rw [k0]; rfl
      have by0 : (y.f0 != 0) = true := bne_iff_ne.2 (HO.out k0)
      go_wp2
      go_ret
      exact ⟨rfl, HP.out.old⟩
    · have b0 : (e2 != 0) = true := bne_iff_ne.2 k0
      go_wp2
      go_ret
      exact ⟨rfl, HP.out.old⟩
  · have b6 : (e1 == 6) = false := beq_eq_false_iff_ne.2 k6
    by_cases k5 : e1 = 5
    · have b5 : (e1 == 5) = true := by rw [k5]; rfl
      by_cases k0 : e2 = 0
      · have b0 : (e2 != 0) = false := by rw [k0]; rfl
        have by0 : (y.f0 != 0) = true := bne_iff_ne.2 (HO.out k0)
        go_wp2
        go_ret
        exact ⟨rfl, HP.out.old⟩
      · have b0 : (e2 != 0) = true := bne_iff_ne.2 k0
        go_wp2
        go_ret
        exact ⟨rfl, HP.out.old⟩
    · have b5 : (e1 == 5) = false := beq_eq_false_iff_ne.2 k5
      obtain ⟨m1', m2', m3⟩ : y = x ∧ e2 = e1 ∧ ((e1 = 0 ∧ m2 = 0) ∨ (e1 ≠ 0 ∧ m1 = -1 ∧ m2 = -1) ∨ (e1 ≠ 0 ∧ Pos m1 ∧ m2 = m1 + (q.size : Int))) := by
        rcases HM.out with h | h | h
        · exact absurd h k5
        · exact absurd h k6
        · exact h
      subst m2'
      subst m1'
      have be : (e2 == e2) = true := beq_self_eq_true _
      have c0 := blk_cell HP.out.f 0
      have c1 := blk_cell HP.out.f 1
      have c2 := blk_cell HP.out.f 2
      have c3 := blk_cell HP.out.f 3
      have c4 := blk_cell HP.out.f 4
      have d1 := blk_cell HP.out.g 1
      have d2 := blk_cell HP.out.g 2
      have d3 := blk_cell HP.out.g 3
      have d4 := blk_cell HP.out.g 4
      go_wp2_with fail
      refine (same_calls y y A B c d _ HP.out.fC HP.out.gC HP.out.fl HP.out.gl).mono ?_
      rintro e w5 ⟨rfl, hb⟩
      rw [sameB_refl]
      have HB5 := Aside0.mk (HP.out.old.trans (hb.mono HP.out.old.size))
      clear hb c0 c1 c2 c3 c4 d1 d2 d3 d4 hg0
      rcases m3 with ⟨n1, n2⟩ | ⟨n1, n2, n3⟩ | ⟨n1, n2, n3⟩
      · have g1 : (e2 == 0) = true := by rw [n1]; rfl
        have g2 : (m2 == 0) = true := by rw [n2]; rfl
        go_wp2
        go_ret
        exact ⟨rfl, HB5.out⟩
      · have g1 : (e2 == 0) = false := beq_eq_false_iff_ne.2 n1
        have g1' : (e2 != 0) = true := bne_iff_ne.2 n1
        have g2 : (m1 == -1) = true := by rw [n2]; rfl
        have g3 : (m2 == -1) = true := by rw [n3]; rfl
        go_wp2
        go_ret
        exact ⟨rfl, HB5.out⟩
      · have g1 : (e2 == 0) = false := beq_eq_false_iff_ne.2 n1
        have g1' : (e2 != 0) = true := bne_iff_ne.2 n1
        obtain ⟨n4, n5⟩ := n2
        have g2 : (m1 == -1) = false := beq_eq_false_iff_ne.2 (by omega)
        have hq := HQ.out
        have g3 : (m2 == m1 + (q.size : Int)) = true := by rw [n3]; exact beq_self_eq_true _
        go_wp2
        go_ret
        exact ⟨rfl, HB5.out⟩
theorem has_step (a0 : ByteArray) (x : Int) (i : Nat) (hi : i < a0.size) (h8 : a0.size ≤ 1000) (b : Bool)
    (hn : (bt a0 i = x → b = true) ∧ (bt a0 i ≠ x → Tells (fun k => customhouseref07_has.l0 k a0 x ((i + 1 : Nat) : Int)) b)) : Tells (fun k => customhouseref07_has.l0 k a0 x (i : Int)) b := by
  by_cases h : bt a0 i = x
  · rw [hn.1 h]
    refine Tells.step (fun k => ?_) Tells.same
    simp only [customhouseref07_has.l0]
    rw [if_pos (by omega), if_pos (by omega), if_pos h]
  · refine Tells.step (fun k => ?_) (hn.2 h)
    simp only [customhouseref07_has.l0]
    rw [if_pos (by omega), if_pos (by omega), if_neg h]
    have : wrap64 ((i : Int) + 1) = ((i + 1 : Nat) : Int) := by unfold wrap64; omega
    rw [this]
theorem has_tells (c : UInt8) : Tells (fun k => customhouseref07_has.f k (⟨#[32, 9, 10]⟩ : ByteArray) (c.toNat : Int)) (isBlank c) := by
  have hs : (⟨#[32, 9, 10]⟩ : ByteArray).size = 3 := rfl
  have b0 : bt (⟨#[32, 9, 10]⟩ : ByteArray) ((0 : Nat) : Int) = 32 := rfl
  have b1 : bt (⟨#[32, 9, 10]⟩ : ByteArray) ((1 : Nat) : Int) = 9 := rfl
  have b2 : bt (⟨#[32, 9, 10]⟩ : ByteArray) ((2 : Nat) : Int) = 10 := rfl
  have hc : isBlank c = (decide ((32 : Int) = c.toNat) || decide ((9 : Int) = c.toNat) || decide ((10 : Int) = c.toNat)) := by
    have := u8_all (fun c => isBlank c == (decide ((32 : Int) = c.toNat) || decide ((9 : Int) = c.toNat) || decide ((10 : Int) = c.toNat))) (by decide +kernel) c
    simpa using this
  show Tells (fun k => customhouseref07_has.l0 k (⟨#[32, 9, 10]⟩ : ByteArray) (c.toNat : Int) ((0 : Nat) : Int)) (isBlank c)
  refine has_step _ _ 0 (by decide) (by decide) _ ⟨fun h => by rw [hc, ← h, b0]; rfl, fun h0 => ?_⟩
  refine has_step _ _ 1 (by decide) (by decide) _ ⟨fun h => by rw [hc, ← h, b1]; rfl, fun h1 => ?_⟩
  refine has_step _ _ 2 (by decide) (by decide) _ ⟨fun h => by rw [hc, ← h, b2]; rfl, fun h2 => ?_⟩
  have e : isBlank c = false := by
    rw [hc]
    rw [b0] at h0; rw [b1] at h1; rw [b2] at h2
    simp [h0, h1, h2]
  rw [e]
  refine Tells.step (fun k => ?_) Tells.same
  simp only [customhouseref07_has.l0]
  rw [if_neg (by rw [hs]; decide)]
theorem bt_get (s : ByteArray) (i : Nat) (c : UInt8) (r : List UInt8) (h : s.data.toList.drop i = c :: r) : bt s (i : Int) = (c.toNat : Int) ∧ i < s.size ∧ s.data.toList.drop (i + 1) = r := by
  have hlt : i < s.data.toList.length := by
    rcases Nat.lt_or_ge i s.data.toList.length with h2 | h2
    · exact h2
    · rw [List.drop_eq_nil_of_le h2] at h; cases h
  have hs : i < s.size := by rw [Array.length_toList] at hlt; exact hlt
  rw [List.drop_eq_getElem_cons hlt] at h
  injection h with h1 h2
  refine ⟨?_, hs, h2⟩
  have hb := bt_at s (i : Int) (by simpa using hs)
  rw [← hb, ← h1]
  simp only [Int.toNat_natCast]
  congr 1
theorem gap_tells (s : ByteArray) (hs : s.size ≤ 1000) : ∀ (l : List UInt8) (i : Nat), s.data.toList.drop i = l → i ≤ s.size →
    Tells (fun k => customhouseref07_gap.l0 k s i) ((s.size - (skip false l).length : Nat) : Int) ∧ Tells (fun k => customhouseref07_gap.l1 k s i) ((s.size - (skip true l).length : Nat) : Int) := by
  intro l
  induction l with
  | nil =>
    intro i h hi
    have hle : s.size ≤ i := by
      have := congrArg List.length h
      rw [List.length_drop, Array.length_toList] at this
      have e : s.data.size = s.size := rfl
      simp at this
      omega
    obtain rfl : i = s.size := by omega
    have g0 : Tells (fun k => customhouseref07_gap.l0 k s (s.size : Int)) ((s.size - (skip false []).length : Nat) : Int) := by
      refine Tells.step (fun k => ?_) Tells.same
      simp only [customhouseref07_gap.l0]
      rw [if_neg (by omega)]
      simp [skip]
    refine ⟨g0, Tells.step (fun k => ?_) g0⟩
    simp only [customhouseref07_gap.l1]
    rw [if_neg (by omega)]
  | cons c r ih =>
    intro i h hi
    obtain ⟨hb, hlt, hd⟩ := bt_get s i c r h
    obtain ⟨ih0, ih1⟩ := ih (i + 1) hd (by omega)
    have w1 : wrap64 ((i : Int) + 1) = ((i + 1 : Nat) : Int) := by unfold wrap64; omega
    have rl : r.length + 1 ≤ s.size := by
      have := congrArg List.length h
      rw [List.length_drop, Array.length_toList] at this
      have e : s.data.size = s.size := rfl
      simp at this
      omega
    have ri : s.size - (r.length + 1) = i := by
      have := congrArg List.length h
      rw [List.length_drop, Array.length_toList] at this
      have e : s.data.size = s.size := rfl
      simp at this
      omega
    have g0 : Tells (fun k => customhouseref07_gap.l0 k s (i : Int)) ((s.size - (skip false (c :: r)).length : Nat) : Int) := by
      refine Tells.step (h := fun k => (customhouseref07_has.f k (⟨#[32, 9, 10]⟩ : ByteArray) (c.toNat : Int)).bind fun t => if t = true then customhouseref07_gap.l0 k s ((i + 1 : Nat) : Int) else if (c.toNat : Int) = 35 then customhouseref07_gap.l1 k s i else some (i : Int)) (fun k => ?_) ?_
      · simp only [customhouseref07_gap.l0]
        rw [if_pos (by omega), if_pos (by omega), hb, w1]
      · refine Tells.bind (has_tells c) ?_
        cases hbl : isBlank c
        · simp only [Bool.false_eq_true, if_false]
          by_cases h35 : (c.toNat : Int) = 35
          · have hc : c = 35 := by apply UInt8.toNat_inj.1; show c.toNat = 35; omega
            subst hc
            simp only [h35, if_true]
            have e : skip false (35 :: r) = skip true r := by simp [skip, isBlank]
            rw [e]
            refine Tells.step (fun k => ?_) ih1
            simp only [customhouseref07_gap.l1]
            rw [if_pos (by omega), if_pos (by omega), hb, if_neg (by decide), w1]
          · simp only [h35, if_false]
            have hne : (c == 35) = false := by
              rw [beq_eq_false_iff_ne]
              intro hc
              rw [hc] at h35
              exact h35 rfl
            have e : skip false (c :: r) = c :: r := by simp [skip, hbl, hne]
            rw [e]
            refine Tells.of ?_
            rw [List.length_cons, ri]
        · have e : skip false (c :: r) = skip false r := by simp [skip, hbl]
          rw [e]
          exact ih0
    refine ⟨g0, ?_⟩
    by_cases h10 : (c.toNat : Int) = 10
    · have hc : c = 10 := by apply UInt8.toNat_inj.1; show c.toNat = 10; omega
      subst hc
      have e : skip true (10 :: r) = skip false (10 :: r) := by simp [skip, isBlank]
      rw [e]
      refine Tells.step (fun k => ?_) g0
      simp only [customhouseref07_gap.l1]
      rw [if_pos (by omega), if_pos (by omega), hb, if_pos h10]
    · have hne : (c == 10) = false := by
        rw [beq_eq_false_iff_ne]
        intro hc
        rw [hc] at h10
        exact h10 rfl
      have e : skip true (c :: r) = skip true r := by simp [skip, hne]
      rw [e]
      refine Tells.step (fun k => ?_) ih1
      simp only [customhouseref07_gap.l1]
      rw [if_pos (by omega), if_pos (by omega), hb, if_neg h10, w1]
theorem gaps_tells (s : ByteArray) (hs : s.size ≤ 1000) : ∃ b, Tells (fun k => customhouseref07_Gaps.f k s) b ∧ (b = true → skip false s.data.toList = []) := by
  have hg := (gap_tells s hs s.data.toList 0 rfl (Nat.zero_le _)).1
  have hl : (skip false s.data.toList).length ≤ s.data.toList.length := by rw [skip_drop]; simp
  have e : s.data.toList.length = s.size := by rw [Array.length_toList]; rfl
  refine ⟨_, Tells.bind hg Tells.same, fun h => ?_⟩
  rw [beq_iff_eq] at h
  apply List.eq_nil_of_length_eq_zero
  have hpos : s.size ≠ 0 ∨ s.size = 0 := by omega
  rcases hpos with h0 | h0
  · omega
  · omega
set_option maxRecDepth 100000 in
theorem gaps_long (t g : ByteArray) (w : World) (h : 2000 < (t.size : Int)) : Calls Tryz.prog 11 #[.string t, .string g] w fun e w' => e = .returned (.bool true) ∧ Below w.heap.size w w' := by
  go_enter Tryz.func11, Tryz.ntmps11
  go_wp2_with fail
  refine (head_calls _).mono ?_
  rintro e w1 ⟨rfl, hb⟩
  have HB := Aside0.mk hb
  clear hb
  go_wp2
  go_ret
  exact ⟨rfl, HB.out⟩
set_option maxRecDepth 100000 in
theorem gaps_wide (t g : ByteArray) (w : World) (h0 : (t.size : Int) ≤ 2000) (h : 200 < (g.size : Int)) : Calls Tryz.prog 11 #[.string t, .string g] w fun e w' => e = .returned (.bool true) ∧ Below w.heap.size w w' := by
  go_enter Tryz.func11, Tryz.ntmps11
  go_wp2_with fail
  refine (head_calls _).mono ?_
  rintro e w1 ⟨rfl, hb⟩
  have HB := Aside0.mk hb
  clear hb
  go_wp2
  go_ret
  exact ⟨rfl, HB.out⟩
set_option maxRecDepth 100000 in
theorem gaps_none (t g : ByteArray) (k : Nat) (w : World) (h0 : (t.size : Int) ≤ 2000) (h1 : (g.size : Int) ≤ 200) (hG : customhouseref07_Gaps.f k g = some false) : Calls Tryz.prog 11 #[.string t, .string g] w fun e w' => e = .returned (.bool true) ∧ Below w.heap.size w w' := by
  go_enter Tryz.func11, Tryz.ntmps11
  go_wp2_with fail
  refine (head_calls _).mono ?_
  rintro e w1 ⟨rfl, hb⟩
  have HB := Aside0.mk hb
  clear hb
  go_wp2_with fail
  refine (customhouseref07_Gaps.calls k g false _ hG).mono ?_
  rintro e w2 ⟨rfl, hb0⟩
  have hb := hb0.below
  have HB2 := Aside0.mk (HB.out.trans (hb.mono HB.out.size))
  clear hb0 hb HB
  go_wp2
  go_ret
  exact ⟨rfl, HB2.out⟩
theorem size_data (a : ByteArray) : a.data.toList.length = a.size := by rw [Array.length_toList]; rfl
theorem gaps_law (t g : ByteArray) (w : World) : Calls Tryz.prog 11 #[.string t, .string g] w fun e w' => e = .returned (.bool true) ∧ Below w.heap.size w w' := by
  by_cases h1 : 2000 < (t.size : Int)
  · exact gaps_long t g w h1
  by_cases h2 : 200 < (g.size : Int)
  · exact gaps_wide t g w (by omega) h2
  obtain ⟨b, g1, g2⟩ := gaps_tells g (by omega)
  obtain ⟨k, hk⟩ := g1.run
  cases b
  · exact gaps_none t g k w (by omega) (by omega) hk
  · have h3 := g2 rfl
    have s1 : (⟨#[10, 40]⟩ : ByteArray).size = 2 := rfl
    have s2 : (⟨#[10]⟩ : ByteArray).size = 1 := rfl
    have s3 : (⟨#[10, 41]⟩ : ByteArray).size = 2 := rfl
    have hgl : g.data.toList.length = g.size := size_data g
    have hq : (((g ++ (⟨#[10, 40]⟩ : ByteArray)) ++ g) ++ (⟨#[10]⟩ : ByteArray)).size = 2 * g.size + 3 := by simp only [ByteArray.size_append, s1, s2]; omega
    obtain ⟨z, hz⟩ : ∃ z, ((((((((g ++ (⟨#[10, 40]⟩ : ByteArray)) ++ g) ++ (⟨#[10]⟩ : ByteArray)) ++ t) ++ (⟨#[10]⟩ : ByteArray)) ++ g) ++ (⟨#[10, 41]⟩ : ByteArray)) ++ g) = z := ⟨_, rfl⟩
    have hzl : z.data.toList = wrapL g.data.toList t.data.toList := by
      rw [← hz]
      simp only [ByteArray.data_append, Array.toList_append, wrapL]
      simp
    have hm := parse_wrap t z g.data.toList hzl h3 (by rw [hgl]; omega) (by rw [size_data]; omega)
    refine gaps_main t g _ _ _ _ _ _ _ z k w (by omega) (by omega) ?_ (fun W => run_string_add_sum _ _ _ ?_) (fun W => run_string_add_sum _ _ _ ?_) (fun W => run_string_add_sum _ _ _ ?_) (fun W => run_string_add_sum _ _ _ ?_) (fun W => run_string_add_sum _ _ _ ?_) (fun W => run_string_add_sum _ _ _ ?_) (fun W => run_string_add_sum _ _ _ ?_) (fun W => by rw [← hz]; exact run_string_add_sum _ _ _ (by simp only [ByteArray.size_append, s1, s2, s3]; omega)) hk (parse_op z) (by rw [hq]; omega) ?_
    · rw [← hz]; simp only [ByteArray.size_append, s1, s2, s3]; omega
    all_goals first | (simp only [ByteArray.size_append, s1, s2, s3]; omega) | skip
    rw [hq, show 2 * g.size + 3 = 2 * g.data.toList.length + 3 by rw [hgl]]
    exact hm
theorem gaps_walk (t : ByteArray) (_ : t.size ≤ 9223372036854775807) (g : ByteArray) (_ : g.size ≤ 9223372036854775807) (w : World) : Calls Tryz.prog 11 #[.string t, .string g] w fun e w' => e = .returned (.bool true) ∧ Below w.heap.size w w' := gaps_law t g w
end Go.Proofs.YtkgmempifggajaaGreatDoor.PLawFormulaGaps
