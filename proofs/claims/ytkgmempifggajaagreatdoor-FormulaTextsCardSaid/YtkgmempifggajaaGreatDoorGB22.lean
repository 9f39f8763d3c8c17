/- What the statement's proof builds on: GoTexts. -/
import Derived.Test.YtkgmempifggajaaGreatDoorGB19
import Derived.Test.YtkgmempifggajaaGreatDoorGB13
import Derived.Carry
import Derived.Deep.RegionHeld3
import Derived.Great.BuildSlice
import Derived.Laws.EntriesVeiled
import Derived.Laws.Runes
import Derived.Lib.SmallJoins
import Derived.Maps.OwnSet
import Derived.OneCell
import Derived.Scope
import Derived.Shelf.LaysC
import Derived.Shelf.LaysM
import Derived.Shelf.Slices.Turned
import Derived.Shelf.Small.Strs
import Derived.Shelf.Small.Utf8
import Derived.Shelf.Strconv.Atoi
import Derived.Shelf.Strconv.AtoiAll
import Derived.Shelf.Strconv.AtoiErr
import Derived.Shelf.Strconv.AtoiErrFast
import Derived.Shelf.Strconv.AtoiFail
import Derived.Shelf.Strconv.AtoiInnerAll
import Derived.Shelf.Strconv.AtoiLong
import Derived.Shelf.Strconv.Clone
import Derived.Shelf.Strconv.ErrVar
import Derived.Shelf.Strconv.ErrVarAll
import Derived.Shelf.Strconv.Itoa0
import Derived.Shelf.Strconv.Itoa1
import Derived.Shelf.Strconv.Itoa2
import Derived.Shelf.Strconv.Itoa3
import Derived.Shelf.Strconv.Lower
import Derived.Shelf.Strconv.ParseInt10
import Derived.Shelf.Strconv.ParseIntEmpty
import Derived.Shelf.Strconv.ParseUint10
import Derived.Shelf.Strconv.ParseUint10Any
import Derived.Shelf.Strconv.ParseUint10Empty
import Derived.Shelf.Strconv.RangeError
import Derived.Shelf.Strconv.SyntaxError
import Derived.Shelf.Strconv.ToError
import Derived.Shelf.Strconv.ToErrorRange
import Derived.Shelf.Strings.AsciiSet
import Derived.Shelf.Strings.Builder1
import Derived.Shelf.Strings.Builder2
import Derived.Shelf.Strings.BuilderF
import Derived.Shelf.Strings.BuilderK
import Derived.Shelf.Strings.IndexAny
import Derived.Shelf.Strings.IndexAnyAll
import Derived.Shelf.Strings.OnBuilder
import Derived.Shelf.Strings.Prefix
import Derived.Shelf.Strings.Runes
import Derived.Shelf.Strings.Search1
import Derived.StringKeys
import Derived.Test.YtkgmempifggajaaGreatDoorProg
import Derived.Test.YtkgmempifggajaaGreatDoorWMore
import Derived.WalkLawsBesides
import Derived.WalkSpells
import Derived.Test.YtkgmempifggajaaGreatDoorGB21
import Derived.Test.YtkgmempifggajaaGreatDoorGB14
-- the text YtkgmempifggajaaGreatDoorGoTexts
/- FormulaTexts, walked. (Printed by wip/tools/gen_texts.py.) -/
namespace Go.Proofs.YtkgmempifggajaaGreatDoor.PLawFormulaTexts
open Go.RowKit Go.Proofs.YtkgmempifggajaaGreatDoorW.PrintWords Go.Proofs.YtkgmempifggajaaGreatDoorW.PrintLast Go.Proofs.YtkgmempifggajaaGreatDoorW.PrintMore
open Go.Proofs.YtkgmempifggajaaGreatDoor.P
set_option linter.unusedVariables false
set_option linter.unusedSimpArgs false

/-- What the law has in memory: the two formulas; the table. -/
structure TP (w0 w : World) (b1 b2 : Nat) (x y : Fm) (A B : Option Addr) (c d : Nat) : Prop where
  f : w.heap[b1]? = some (.cells #[.int .i64 x.f0, .string x.f1, .int .i64 x.f2, .int .i64 x.f3, .slice A x.f4.length c] 24 (0, 0))
  g : w.heap[b2]? = some (.cells #[.int .i64 y.f0, .string y.f1, .int .i64 y.f2, .int .i64 y.f3, .slice B y.f4.length d] 24 (0, 0))
  fC : Kd.C kFm w A x.f4.length x.f4
  gC : Kd.C kFm w B y.f4.length y.f4
  fl : x.f4.length ≤ c
  gl : y.f4.length ≤ d
  tab : Tab 1000000 w
  old : Below w0.heap.size w0 w
theorem TP.below {w0 w w1 : World} {b1 b2 : Nat} {x y : Fm} {A B : Option Addr} {c d : Nat} (h : TP w0 w b1 b2 x y A B c d) (hb : Below w.heap.size w w1) : TP w0 w1 b1 b2 x y A B c d :=
  ⟨(hb.block _ (lt_of_block h.f)).trans h.f, (hb.block _ (lt_of_block h.g)).trans h.g, Kd.C_below h.fC hb, Kd.C_below h.gC hb, h.fl, h.gl, h.tab.below hb (Nat.le_refl _), h.old.trans (hb.mono h.old.size)⟩
/-- A formula that Parse has returned, in a variable. -/
structure FV (w : World) (b : Nat) (x : Fm) (A : Option Addr) (c : Nat) : Prop where
  f : w.heap[b]? = some (.cells #[.int .i64 x.f0, .string x.f1, .int .i64 x.f2, .int .i64 x.f3, .slice A x.f4.length c] 24 (0, 0))
  fC : Kd.C kFm w A x.f4.length x.f4
  fl : x.f4.length ≤ c
theorem FV.below {w w1 : World} {b : Nat} {x : Fm} {A : Option Addr} {c : Nat} (h : FV w b x A c) (hb : Below w.heap.size w w1) : FV w1 b x A c :=
  ⟨(hb.block _ (lt_of_block h.f)).trans h.f, Kd.C_below h.fC hb, h.fl⟩
theorem row_C {w : World} {base : Nat} {ok : Nat → Prop} {A : Option Addr} {n c : Nat} {xs : List Fm} (h : Kd.R kFm 24 w base ok (.slice A n c) xs) : n = xs.length ∧ xs.length ≤ c ∧ Kd.C kFm w A xs.length xs := by
  obtain ⟨_, _, he, hl, hC⟩ := Kd.R_reads h
  injection he with h1 h2 h3
  subst h1
  subst h3
  exact ⟨h2, hl, hC⟩
theorem FV.made {w : World} {base : Nat} {ok : Nat → Prop} {A : Option Addr} {c : Nat} {x : Fm} (h : Kd.R kFm 24 w base ok (.slice A x.f4.length c) x.f4) : FV (w.alloc (.cells #[.int .i64 x.f0, .string x.f1, .int .i64 x.f2, .int .i64 x.f3, .slice A x.f4.length c] 24)) w.heap.size x A c := by
  obtain ⟨_, hl, hC⟩ := row_C h
  exact ⟨blk_new _ _ rfl, Kd.C_below hC (below_alloc (Below.refl _ _) _), hl⟩

set_option maxHeartbeats 8000000 in
set_option maxRecDepth 100000 in
theorem texts_walk (k : Nat) (x y : Fm) (t : ByteArray) (A B : Option Addr) (c d : Nat) (w : World) (s1 s2 q1 q2 : Bool) (hA : Kd.C kFm w A x.f4.length x.f4) (hc : x.f4.length ≤ c) (hB : Kd.C kFm w B y.f4.length y.f4) (hd : y.f4.length ≤ d) (hT : Tab 1000000 w)
    (hs1 : customhouseref25_Small.f k x.f0 x.f1 x.f2 x.f3 x.f4 300 = some s1) (hs2 : customhouseref25_Small.f k y.f0 y.f1 y.f2 y.f3 y.f4 300 = some s2)
    (hq1 : customhouselaw25_short.f k x.f0 x.f1 x.f2 x.f3 x.f4 = some q1) (hq2 : customhouselaw25_short.f k y.f0 y.f1 y.f2 y.f3 y.f4 = some q2)
    (hx : s1 = true → size x ≤ 300) (hy : s2 = true → size y ≤ 300) :
    Calls Tryz.prog 10 #[.agg #[.int .i64 x.f0, .string x.f1, .int .i64 x.f2, .int .i64 x.f3, .slice A x.f4.length c], .agg #[.int .i64 y.f0, .string y.f1, .int .i64 y.f2, .int .i64 y.f3, .slice B y.f4.length d], .string t] w fun e w' => e = .returned (.bool true) ∧ Below w.heap.size w w' := by
  have HP := Aside0.mk (show TP w ((w.alloc (.cells #[.int .i64 x.f0, .string x.f1, .int .i64 x.f2, .int .i64 x.f3, .slice A x.f4.length c] 24)).alloc (.cells #[.int .i64 y.f0, .string y.f1, .int .i64 y.f2, .int .i64 y.f3, .slice B y.f4.length d] 24)) w.heap.size (w.heap.size + 1) x y A B c d from
    ⟨by (repeat (first | (refine blk_new _ _ ?_; first | rfl | (simp; done)) | refine blk_alloc_old ?_ _ | refine blk_drew_old ?_ | refine blk_drewN_old ?_ _ | assumption)), by (repeat (first | (refine blk_new _ _ ?_; first | rfl | (simp; done)) | refine blk_alloc_old ?_ _ | refine blk_drew_old ?_ | refine blk_drewN_old ?_ _ | assumption)), Kd.C_below hA (below_alloc (below_alloc (Below.refl _ _) _) _), Kd.C_below hB (below_alloc (below_alloc (Below.refl _ _) _) _), hc, hd, hT.below (below_alloc (below_alloc (Below.refl _ _) _) _) (Nat.le_refl _), below_alloc (below_alloc (Below.refl _ _) _) _⟩)
  have S1 := Aside0.mk hs1
  have S2 := Aside0.mk hs2
  have Q1 := Aside0.mk hq1
  have Q2 := Aside0.mk hq2
  clear hA hB hT hs1 hs2 hq1 hq2
  go_enter Tryz.func10, Tryz.ntmps10
  go_wp2_with fail
  refine (head_calls _).mono ?_
  rintro e w1 ⟨rfl, hb⟩
  replace HP := Aside0.mk (HP.out.below hb)
  clear hb
  have c0 := blk_cell HP.out.f 0
  have c1 := blk_cell HP.out.f 1
  have c2 := blk_cell HP.out.f 2
  have c3 := blk_cell HP.out.f 3
  have c4 := blk_cell HP.out.f 4
  go_wp2_with fail
  refine (customhouseref25_Small.calls k x.f0 x.f1 x.f2 x.f3 A c x.f4 300 s1 _ HP.out.fC HP.out.fl S1.out).mono ?_
  rintro e w2 ⟨rfl, hb⟩
  replace HP := Aside0.mk (HP.out.below hb)
  clear hb
  clear c0 c1 c2 c3 c4
  cases s1
  · go_wp2
    go_ret
    exact ⟨rfl, HP.out.old⟩
  replace hx := hx rfl
  have d0 := blk_cell HP.out.g 0
  have d1 := blk_cell HP.out.g 1
  have d2 := blk_cell HP.out.g 2
  have d3 := blk_cell HP.out.g 3
  have d4 := blk_cell HP.out.g 4
  go_wp2_with fail
  refine (customhouseref25_Small.calls k y.f0 y.f1 y.f2 y.f3 B d y.f4 300 s2 _ HP.out.gC HP.out.gl S2.out).mono ?_
  rintro e w2 ⟨rfl, hb⟩
  replace HP := Aside0.mk (HP.out.below hb)
  clear hb
  clear d0 d1 d2 d3 d4
  cases s2
  · go_wp2
    go_ret
    exact ⟨rfl, HP.out.old⟩
  replace hy := hy rfl
  have c0 := blk_cell HP.out.f 0
  have c1 := blk_cell HP.out.f 1
  have c2 := blk_cell HP.out.f 2
  have c3 := blk_cell HP.out.f 3
  have c4 := blk_cell HP.out.f 4
  go_wp2_with fail
  refine (customhouselaw25_short.calls k x.f0 x.f1 x.f2 x.f3 A c x.f4 q1 _ HP.out.fC HP.out.fl Q1.out).mono ?_
  rintro e w2 ⟨rfl, hb⟩
  replace HP := Aside0.mk (HP.out.below hb)
  clear hb
  clear c0 c1 c2 c3 c4
  cases q1
  · go_wp2
    go_ret
    exact ⟨rfl, HP.out.old⟩
  have d0 := blk_cell HP.out.g 0
  have d1 := blk_cell HP.out.g 1
  have d2 := blk_cell HP.out.g 2
  have d3 := blk_cell HP.out.g 3
  have d4 := blk_cell HP.out.g 4
  go_wp2_with fail
  refine (customhouselaw25_short.calls k y.f0 y.f1 y.f2 y.f3 B d y.f4 q2 _ HP.out.gC HP.out.gl Q2.out).mono ?_
  rintro e w2 ⟨rfl, hb⟩
  replace HP := Aside0.mk (HP.out.below hb)
  clear hb
  clear d0 d1 d2 d3 d4
  cases q2
  · go_wp2
    go_ret
    exact ⟨rfl, HP.out.old⟩
  by_cases ht : 3000 < (t.size : Int)
  · go_wp2
    go_ret
    exact ⟨rfl, HP.out.old⟩
  have ht2 : (t.size : Int) ≤ 3000 := by omega
  have c0 := blk_cell HP.out.f 0
  have c1 := blk_cell HP.out.f 1
  have c2 := blk_cell HP.out.f 2
  have c3 := blk_cell HP.out.f 3
  have c4 := blk_cell HP.out.f 4
  go_wp2_with fail
  refine (text_any x A c _ HP.out.fC HP.out.fl (by omega) HP.out.tab).mono ?_
  rintro e w2 ⟨rfl, hb⟩
  replace HP := Aside0.mk (HP.out.below hb)
  clear hb
  clear c0 c1 c2 c3 c4
  have d0 := blk_cell HP.out.g 0
  have d1 := blk_cell HP.out.g 1
  have d2 := blk_cell HP.out.g 2
  have d3 := blk_cell HP.out.g 3
  have d4 := blk_cell HP.out.g 4
  go_wp2_with fail
  refine (text_any y B d _ HP.out.gC HP.out.gl (by omega) HP.out.tab).mono ?_
  rintro e w2 ⟨rfl, hb⟩
  replace HP := Aside0.mk (HP.out.below hb)
  clear hb
  clear d0 d1 d2 d3 d4
  have hl1 := textF_len x
  have PT := Aside0.mk (parse_text x)
  have TS := Aside0.mk (text_same x y)
  have X0 := Aside0.mk (textF_one x)
  have Y0 := Aside0.mk (textF_one y)
  obtain ⟨⟨sx, ex⟩, hfx⟩ : ∃ r, textF x = r := ⟨_, rfl⟩
  obtain ⟨⟨sy, ey⟩, hfy⟩ : ∃ r, textF y = r := ⟨_, rfl⟩
  rw [hfx] at PT TS X0 hl1 ⊢
  rw [hfy] at TS Y0 ⊢
  simp only at PT TS X0 Y0 hl1 ⊢
  have HX := Aside0.mk hfx
  have HY := Aside0.mk hfy
  clear hfx hfy
  by_cases he : ex = 0
  · subst he
    have be : ((0 : Int) == 0) = true := rfl
    go_wp2_with fail
    refine (parse_calls (ba sx) _ (by rw [ba_size]; omega)).mono ?_
    rintro e w3 ⟨v3, rfl, hR, hb⟩
    rw [PT.out (by trivial)] at hR ⊢
    obtain ⟨X3, cx, rfl⟩ := Kd.R_slice hR
    have HU := Aside0.mk (FV.made hR)
    replace HP := Aside0.mk (HP.out.below (below_alloc hb (.cells #[.int .i64 x.f0, .string x.f1, .int .i64 x.f2, .int .i64 x.f3, .slice X3 x.f4.length cx] 24)))
    simp only at HU HP ⊢
    clear hb hR
    have c0 := blk_cell HP.out.f 0
    have u0 := blk_cell HU.out.f 0
    have c1 := blk_cell HP.out.f 1
    have u1 := blk_cell HU.out.f 1
    have c2 := blk_cell HP.out.f 2
    have u2 := blk_cell HU.out.f 2
    have c3 := blk_cell HP.out.f 3
    have u3 := blk_cell HU.out.f 3
    have c4 := blk_cell HP.out.f 4
    have u4 := blk_cell HU.out.f 4
    have b00 : ((0 : Int) != 0) = false := rfl
    go_wp2_with fail
    refine (same_calls x x X3 A cx c _ HU.out.fC HP.out.fC HU.out.fl HP.out.fl).mono ?_
    rintro e w4 ⟨rfl, hb⟩
    rw [sameB_refl]
    replace HP := Aside0.mk (HP.out.below hb)
    clear hb u0 u1 u2 u3 u4 c0 c1 c2 c3 c4 HU
    by_cases hh : ey = 0
    · subst hh
      have c0 := blk_cell HP.out.f 0
      have c1 := blk_cell HP.out.f 1
      have c2 := blk_cell HP.out.f 2
      have c3 := blk_cell HP.out.f 3
      have c4 := blk_cell HP.out.f 4
      have d0 := blk_cell HP.out.g 0
      have d1 := blk_cell HP.out.g 1
      have d2 := blk_cell HP.out.g 2
      have d3 := blk_cell HP.out.g 3
      have d4 := blk_cell HP.out.g 4
      go_wp2_with fail
      refine (same_calls x y A B c d _ HP.out.fC HP.out.gC HP.out.fl HP.out.gl).mono ?_
      rintro e w5 ⟨rfl, hb⟩
      replace HP := Aside0.mk (HP.out.below hb)
      clear hb c0 c1 c2 c3 c4 d0 d1 d2 d3 d4
      have ht3 := TS.out (by trivial) (by trivial)
      rw [← ht3]
      have bne : ∀ b : Bool, (b != b) = false := fun b => by cases b <;> rfl
      go_wp2_with fail
      refine (parse_calls t _ (by omega)).mono ?_
      have PW := Aside0.mk (parse_wf t)
      have PZ := Aside0.mk (parse_zero t)
      obtain ⟨⟨z, i, at1⟩, hz⟩ : ∃ r, parseF t = r := ⟨_, rfl⟩
      rintro e w3 ⟨v3, rfl, hR, hb⟩
      rw [hz] at hR PW PZ ⊢
      obtain ⟨Z, cz, rfl⟩ := Kd.R_slice hR
      have HV := Aside0.mk (FV.made hR)
      replace HP := Aside0.mk (HP.out.below (below_alloc hb (.cells #[.int .i64 z.f0, .string z.f1, .int .i64 z.f2, .int .i64 z.f3, .slice Z z.f4.length cz] 24)))
      simp only at HV HP PW PZ ⊢
      clear hb hR
      by_cases hi : i = 0
      · subst hi
        have bi : ((0 : Int) != 0) = false := rfl
        have v0 := blk_cell HV.out.f 0
        have v1 := blk_cell HV.out.f 1
        have v2 := blk_cell HV.out.f 2
        have v3 := blk_cell HV.out.f 3
        have v4 := blk_cell HV.out.f 4
        have hzs : size z ≤ 300 := by
          have hw := PW.out (by trivial)
          unfold textF at hw
          cases hL : isLarge z
          · unfold isLarge at hL
            simp only [Bool.or_eq_false_iff, decide_eq_false_iff_not] at hL
            omega
          · rw [hL, if_pos rfl] at hw; exact absurd hw (by decide)
        go_wp2_with fail
        refine (text_any z Z cz _ HV.out.fC HV.out.fl (by omega) HP.out.tab).mono ?_
        rintro e w4 ⟨rfl, hb⟩
        replace HP := Aside0.mk (HP.out.below hb)
        replace HV := Aside0.mk (HV.out.below hb)
        clear hb v0 v1 v2 v3 v4
        have hlz := textF_len z
        have PTZ := Aside0.mk (parse_text z (PW.out (by trivial)))
        obtain ⟨⟨sz, ez⟩, hfz⟩ : ∃ r, textF z = r := ⟨_, rfl⟩
        have hez : ez = 0 := by have := PW.out (by trivial); rw [hfz] at this; exact this
        subst hez
        rw [hfz] at PTZ hlz ⊢
        simp only at PTZ hlz ⊢
        go_wp2_with fail
        refine (parse_calls (ba sz) _ (by rw [ba_size]; omega)).mono ?_
        rintro e w5 ⟨v5, rfl, hR, hb⟩
        rw [PTZ.out] at hR ⊢
        obtain ⟨Y5, cy, rfl⟩ := Kd.R_slice hR
        have HU := Aside0.mk (FV.made hR)
        replace HP := Aside0.mk (HP.out.below (below_alloc hb (.cells #[.int .i64 z.f0, .string z.f1, .int .i64 z.f2, .int .i64 z.f3, .slice Y5 z.f4.length cy] 24)))
        replace HV := Aside0.mk (HV.out.below (below_alloc hb (.cells #[.int .i64 z.f0, .string z.f1, .int .i64 z.f2, .int .i64 z.f3, .slice Y5 z.f4.length cy] 24)))
        simp only at HU HP HV ⊢
        clear hb hR
        have v0 := blk_cell HV.out.f 0
        have u0 := blk_cell HU.out.f 0
        have v1 := blk_cell HV.out.f 1
        have u1 := blk_cell HU.out.f 1
        have v2 := blk_cell HV.out.f 2
        have u2 := blk_cell HU.out.f 2
        have v3 := blk_cell HV.out.f 3
        have u3 := blk_cell HU.out.f 3
        have v4 := blk_cell HV.out.f 4
        have u4 := blk_cell HU.out.f 4
        go_wp2_with fail
        refine (same_calls z z Z Y5 cz cy _ HV.out.fC HU.out.fC HV.out.fl HU.out.fl).mono ?_
        rintro e w6 ⟨rfl, hb⟩
        rw [sameB_refl]
        replace HP := Aside0.mk (HP.out.below hb)
        clear hb v0 v1 v2 v3 v4 u0 u1 u2 u3 u4
        go_wp2
        go_ret
        exact ⟨rfl, HP.out.old⟩
      · have bi : (i != 0) = true := bne_iff_ne.2 hi
        obtain rfl : z = z24 := PZ.out hi
        have v0 := blk_cell HV.out.f 0
        have v1 := blk_cell HV.out.f 1
        have v2 := blk_cell HV.out.f 2
        have v3 := blk_cell HV.out.f 3
        have v4 := blk_cell HV.out.f 4
        go_wp2_with fail
        refine (same_calls z24 z24 Z none cz 0 _ HV.out.fC (fms_nil _) HV.out.fl (Nat.le_refl _)).mono ?_
        rintro e w4 ⟨rfl, hb⟩
        rw [sameB_refl]
        replace HP := Aside0.mk (HP.out.below hb)
        clear hb v0 v1 v2 v3 v4
        go_wp2
        go_ret
        exact ⟨rfl, HP.out.old⟩
    · have bh : (ey == 0) = false := beq_eq_false_iff_ne.2 hh
      go_wp2_with fail
      refine (parse_calls t _ (by omega)).mono ?_
      have PW := Aside0.mk (parse_wf t)
      have PZ := Aside0.mk (parse_zero t)
      obtain ⟨⟨z, i, at1⟩, hz⟩ : ∃ r, parseF t = r := ⟨_, rfl⟩
      rintro e w3 ⟨v3, rfl, hR, hb⟩
      rw [hz] at hR PW PZ ⊢
      obtain ⟨Z, cz, rfl⟩ := Kd.R_slice hR
      have HV := Aside0.mk (FV.made hR)
      replace HP := Aside0.mk (HP.out.below (below_alloc hb (.cells #[.int .i64 z.f0, .string z.f1, .int .i64 z.f2, .int .i64 z.f3, .slice Z z.f4.length cz] 24)))
      simp only at HV HP PW PZ ⊢
      clear hb hR
      by_cases hi : i = 0
      · subst hi
        have bi : ((0 : Int) != 0) = false := rfl
        have v0 := blk_cell HV.out.f 0
        have v1 := blk_cell HV.out.f 1
        have v2 := blk_cell HV.out.f 2
        have v3 := blk_cell HV.out.f 3
        have v4 := blk_cell HV.out.f 4
        have hzs : size z ≤ 300 := by
          have hw := PW.out (by trivial)
          unfold textF at hw
          cases hL : isLarge z
          · unfold isLarge at hL
            simp only [Bool.or_eq_false_iff, decide_eq_false_iff_not] at hL
            omega
          · rw [hL, if_pos rfl] at hw; exact absurd hw (by decide)
        go_wp2_with fail
        refine (text_any z Z cz _ HV.out.fC HV.out.fl (by omega) HP.out.tab).mono ?_
        rintro e w4 ⟨rfl, hb⟩
        replace HP := Aside0.mk (HP.out.below hb)
        replace HV := Aside0.mk (HV.out.below hb)
        clear hb v0 v1 v2 v3 v4
        have hlz := textF_len z
        have PTZ := Aside0.mk (parse_text z (PW.out (by trivial)))
        obtain ⟨⟨sz, ez⟩, hfz⟩ : ∃ r, textF z = r := ⟨_, rfl⟩
        have hez : ez = 0 := by have := PW.out (by trivial); rw [hfz] at this; exact this
        subst hez
        rw [hfz] at PTZ hlz ⊢
        simp only at PTZ hlz ⊢
        go_wp2_with fail
        refine (parse_calls (ba sz) _ (by rw [ba_size]; omega)).mono ?_
        rintro e w5 ⟨v5, rfl, hR, hb⟩
        rw [PTZ.out] at hR ⊢
        obtain ⟨Y5, cy, rfl⟩ := Kd.R_slice hR
        have HU := Aside0.mk (FV.made hR)
        replace HP := Aside0.mk (HP.out.below (below_alloc hb (.cells #[.int .i64 z.f0, .string z.f1, .int .i64 z.f2, .int .i64 z.f3, .slice Y5 z.f4.length cy] 24)))
        replace HV := Aside0.mk (HV.out.below (below_alloc hb (.cells #[.int .i64 z.f0, .string z.f1, .int .i64 z.f2, .int .i64 z.f3, .slice Y5 z.f4.length cy] 24)))
        simp only at HU HP HV ⊢
        clear hb hR
        have v0 := blk_cell HV.out.f 0
        have u0 := blk_cell HU.out.f 0
        have v1 := blk_cell HV.out.f 1
        have u1 := blk_cell HU.out.f 1
        have v2 := blk_cell HV.out.f 2
        have u2 := blk_cell HU.out.f 2
        have v3 := blk_cell HV.out.f 3
        have u3 := blk_cell HU.out.f 3
        have v4 := blk_cell HV.out.f 4
        have u4 := blk_cell HU.out.f 4
        go_wp2_with fail
        refine (same_calls z z Z Y5 cz cy _ HV.out.fC HU.out.fC HV.out.fl HU.out.fl).mono ?_
        rintro e w6 ⟨rfl, hb⟩
        rw [sameB_refl]
        replace HP := Aside0.mk (HP.out.below hb)
        clear hb v0 v1 v2 v3 v4 u0 u1 u2 u3 u4
        go_wp2
        go_ret
        exact ⟨rfl, HP.out.old⟩
      · have bi : (i != 0) = true := bne_iff_ne.2 hi
        obtain rfl : z = z24 := PZ.out hi
        have v0 := blk_cell HV.out.f 0
        have v1 := blk_cell HV.out.f 1
        have v2 := blk_cell HV.out.f 2
        have v3 := blk_cell HV.out.f 3
        have v4 := blk_cell HV.out.f 4
        go_wp2_with fail
        refine (same_calls z24 z24 Z none cz 0 _ HV.out.fC (fms_nil _) HV.out.fl (Nat.le_refl _)).mono ?_
        rintro e w4 ⟨rfl, hb⟩
        rw [sameB_refl]
        replace HP := Aside0.mk (HP.out.below hb)
        clear hb v0 v1 v2 v3 v4
        go_wp2
        go_ret
        exact ⟨rfl, HP.out.old⟩
  · have be : (ex == 0) = false := beq_eq_false_iff_ne.2 he
    have hsx : sx = [] := by
      rcases X0.out with h | ⟨_, h⟩
      · exact absurd h he
      · exact h
    subst hsx
    have bs : ((ba []).toList == ([] : List UInt8)) = true := by rw [toList_data]; rfl
    go_wp2_with fail
    refine (parse_calls t _ (by omega)).mono ?_
    have PW := Aside0.mk (parse_wf t)
    have PZ := Aside0.mk (parse_zero t)
    obtain ⟨⟨z, i, at1⟩, hz⟩ : ∃ r, parseF t = r := ⟨_, rfl⟩
    rintro e w3 ⟨v3, rfl, hR, hb⟩
    rw [hz] at hR PW PZ ⊢
    obtain ⟨Z, cz, rfl⟩ := Kd.R_slice hR
    have HV := Aside0.mk (FV.made hR)
    replace HP := Aside0.mk (HP.out.below (below_alloc hb (.cells #[.int .i64 z.f0, .string z.f1, .int .i64 z.f2, .int .i64 z.f3, .slice Z z.f4.length cz] 24)))
    simp only at HV HP PW PZ ⊢
    clear hb hR
    by_cases hi : i = 0
    · subst hi
      have bi : ((0 : Int) != 0) = false := rfl
      have v0 := blk_cell HV.out.f 0
      have v1 := blk_cell HV.out.f 1
      have v2 := blk_cell HV.out.f 2
      have v3 := blk_cell HV.out.f 3
      have v4 := blk_cell HV.out.f 4
      have hzs : size z ≤ 300 := by
        have hw := PW.out (by trivial)
        unfold textF at hw
        cases hL : isLarge z
        · unfold isLarge at hL
          simp only [Bool.or_eq_false_iff, decide_eq_false_iff_not] at hL
          omega
        · rw [hL, if_pos rfl] at hw; exact absurd hw (by decide)
      go_wp2_with fail
      refine (text_any z Z cz _ HV.out.fC HV.out.fl (by omega) HP.out.tab).mono ?_
      rintro e w4 ⟨rfl, hb⟩
      replace HP := Aside0.mk (HP.out.below hb)
      replace HV := Aside0.mk (HV.out.below hb)
      clear hb v0 v1 v2 v3 v4
      have hlz := textF_len z
      have PTZ := Aside0.mk (parse_text z (PW.out (by trivial)))
      obtain ⟨⟨sz, ez⟩, hfz⟩ : ∃ r, textF z = r := ⟨_, rfl⟩
      have hez : ez = 0 := by have := PW.out (by trivial); rw [hfz] at this; exact this
      subst hez
      rw [hfz] at PTZ hlz ⊢
      simp only at PTZ hlz ⊢
      go_wp2_with fail
      refine (parse_calls (ba sz) _ (by rw [ba_size]; omega)).mono ?_
      rintro e w5 ⟨v5, rfl, hR, hb⟩
      rw [PTZ.out] at hR ⊢
      obtain ⟨Y5, cy, rfl⟩ := Kd.R_slice hR
      have HU := Aside0.mk (FV.made hR)
      replace HP := Aside0.mk (HP.out.below (below_alloc hb (.cells #[.int .i64 z.f0, .string z.f1, .int .i64 z.f2, .int .i64 z.f3, .slice Y5 z.f4.length cy] 24)))
      replace HV := Aside0.mk (HV.out.below (below_alloc hb (.cells #[.int .i64 z.f0, .string z.f1, .int .i64 z.f2, .int .i64 z.f3, .slice Y5 z.f4.length cy] 24)))
      simp only at HU HP HV ⊢
      clear hb hR
      have v0 := blk_cell HV.out.f 0
      have u0 := blk_cell HU.out.f 0
      have v1 := blk_cell HV.out.f 1
      have u1 := blk_cell HU.out.f 1
      have v2 := blk_cell HV.out.f 2
      have u2 := blk_cell HU.out.f 2
      have v3 := blk_cell HV.out.f 3
      have u3 := blk_cell HU.out.f 3
      have v4 := blk_cell HV.out.f 4
      have u4 := blk_cell HU.out.f 4
      go_wp2_with fail
      refine (same_calls z z Z Y5 cz cy _ HV.out.fC HU.out.fC HV.out.fl HU.out.fl).mono ?_
      rintro e w6 ⟨rfl, hb⟩
      rw [sameB_refl]
      replace HP := Aside0.mk (HP.out.below hb)
      clear hb v0 v1 v2 v3 v4 u0 u1 u2 u3 u4
      go_wp2
      go_ret
      exact ⟨rfl, HP.out.old⟩
    · have bi : (i != 0) = true := bne_iff_ne.2 hi
      obtain rfl : z = z24 := PZ.out hi
      have v0 := blk_cell HV.out.f 0
      have v1 := blk_cell HV.out.f 1
      have v2 := blk_cell HV.out.f 2
      have v3 := blk_cell HV.out.f 3
      have v4 := blk_cell HV.out.f 4
      go_wp2_with fail
      refine (same_calls z24 z24 Z none cz 0 _ HV.out.fC (fms_nil _) HV.out.fl (Nat.le_refl _)).mono ?_
      rintro e w4 ⟨rfl, hb⟩
      rw [sameB_refl]
      replace HP := Aside0.mk (HP.out.below hb)
      clear hb v0 v1 v2 v3 v4
      go_wp2
      go_ret
      exact ⟨rfl, HP.out.old⟩
theorem texts_law (x : Fm) (hx : Held x) (A : Option Addr) (c : Nat) (y : Fm) (hy : Held y) (B : Option Addr) (d : Nat) (t : ByteArray) (w : World) (hA : Kd.C kFm w A x.f4.length x.f4) (hc : x.f4.length ≤ c) (hB : Kd.C kFm w B y.f4.length y.f4) (hd : y.f4.length ≤ d) (hT : Tab 1000000 w) :
    Calls Tryz.prog 10 #[.agg #[.int .i64 x.f0, .string x.f1, .int .i64 x.f2, .int .i64 x.f3, .slice A x.f4.length c], .agg #[.int .i64 y.f0, .string y.f1, .int .i64 y.f2, .int .i64 y.f3, .slice B y.f4.length d], .string t] w fun e w' => e = .returned (.bool true) ∧ Below w.heap.size w w' := by
  obtain ⟨k1, g1⟩ := small_tells x hx.low 300 (by decide) (by decide)
  obtain ⟨k2, g2⟩ := small_tells y hy.low 300 (by decide) (by decide)
  obtain ⟨k3, q1, g3⟩ := short_all hx.low
  obtain ⟨k4, q2, g4⟩ := short_all hy.low
  have e1 := g1 (max (max k1 k2) (max k3 k4)) (by omega)
  have e2 := g2 (max (max k1 k2) (max k3 k4)) (by omega)
  have e3 := g3 (max (max k1 k2) (max k3 k4)) (by omega)
  have e4 := g4 (max (max k1 k2) (max k3 k4)) (by omega)
  exact texts_walk _ x y t A B c d w _ _ q1 q2 hA hc hB hd hT e1 e2 e3 e4 (fun h => by have := of_decide_eq_true h; omega) (fun h => by have := of_decide_eq_true h; omega)
theorem texts_card {w : World} (x : Fm) (hx : Held x) (A : Option Addr) (c : Nat) (hA : Kd.C kFm w A x.f4.length x.f4) (hc : x.f4.length ≤ c) (y : Fm) (hy : Held y) (B : Option Addr) (d : Nat) (hB : Kd.C kFm w B y.f4.length y.f4) (hd : y.f4.length ≤ d) (t : ByteArray) (_ : t.size ≤ 9223372036854775807) (_ : World) (hT : Tab 1000000 w) :
    Calls Tryz.prog 10 #[.agg #[.int .i64 x.f0, .string x.f1, .int .i64 x.f2, .int .i64 x.f3, .slice A x.f4.length c], .agg #[.int .i64 y.f0, .string y.f1, .int .i64 y.f2, .int .i64 y.f3, .slice B y.f4.length d], .string t] w fun e w' => e = .returned (.bool true) ∧ Below w.heap.size w w' := texts_law x hx A c y hy B d t w hA hc hB hd hT
end Go.Proofs.YtkgmempifggajaaGreatDoor.PLawFormulaTexts
