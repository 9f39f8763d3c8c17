/- What the statement's proof builds on: RdQ, PureText, PureTextB, GoTxR. -/
import Derived.Test.YtkgmempifggajaaGreatDoorGF18
import Derived.Test.YtkgmempifggajaaGreatDoorGF25
import Derived.Test.YtkgmempifggajaaGreatDoorGF26
import Derived.Deep.RegionHeld3
import Derived.Deep.DeepCutAuto
import Derived.Test.YtkgmempifggajaaGreatDoorGF22
import Derived.Test.YtkgmempifggajaaGreatDoorGF24
import Derived.Test.YtkgmempifggajaaGreatDoorGF15
import Derived.ArgAppend
import Derived.Below
import Derived.BigQuiet
import Derived.Carry
import Derived.Deep.AppendLies
import Derived.Deep.CutBlock
import Derived.Deep.Draws
import Derived.Deep.LoopGhost
import Derived.Deep.OwnRows
import Derived.Deep.QuietTactic
import Derived.Great.BuildSlice
import Derived.KernelRfl
import Derived.Laws.BitsLemmas
import Derived.Laws.BytesArg
import Derived.Laws.EntriesVeiled
import Derived.Laws.IdiomCopy
import Derived.Laws.MakeOwn
import Derived.Laws.OwnMore
import Derived.Laws.Rows
import Derived.Laws.Runes
import Derived.Laws.Slices
import Derived.Lib.AppendStr
import Derived.Lib.ConvBytes
import Derived.Lib.SmallJoins
import Derived.Maps.AppendAt
import Derived.Maps.OwnSet
import Derived.OneCell
import Derived.OrdersHeld
import Derived.OwnWalk
import Derived.RowKit
import Derived.RowKit3
import Derived.Scope
import Derived.Shelf.LaysC
import Derived.Shelf.LaysM
import Derived.Shelf.Slices.Turned
import Derived.Shelf.Small.Strs
import Derived.Shelf.Small.Utf8
import Derived.Shelf.Strconv.Atoi
import Derived.Shelf.Strconv.AtoiAll
import Derived.Shelf.Strconv.AtoiErr
import Derived.Shelf.Strconv.AtoiErrFast
import Derived.Shelf.Strconv.AtoiFail
import Derived.Shelf.Strconv.AtoiInnerAll
import Derived.Shelf.Strconv.AtoiLong
import Derived.Shelf.Strconv.Clone
import Derived.Shelf.Strconv.ErrVar
import Derived.Shelf.Strconv.ErrVarAll
import Derived.Shelf.Strconv.Itoa0
import Derived.Shelf.Strconv.Itoa1
import Derived.Shelf.Strconv.Itoa2
import Derived.Shelf.Strconv.Itoa3
import Derived.Shelf.Strconv.Lower
import Derived.Shelf.Strconv.ParseInt10
import Derived.Shelf.Strconv.ParseIntEmpty
import Derived.Shelf.Strconv.ParseUint10
import Derived.Shelf.Strconv.ParseUint10Any
import Derived.Shelf.Strconv.ParseUint10Empty
import Derived.Shelf.Strconv.RangeError
import Derived.Shelf.Strconv.SyntaxError
import Derived.Shelf.Strconv.ToError
import Derived.Shelf.Strconv.ToErrorRange
import Derived.Shelf.Strings.AsciiSet
import Derived.Shelf.Strings.Builder1
import Derived.Shelf.Strings.Builder2
import Derived.Shelf.Strings.BuilderF
import Derived.Shelf.Strings.BuilderK
import Derived.Shelf.Strings.IndexAny
import Derived.Shelf.Strings.IndexAnyAll
import Derived.Shelf.Strings.OnBuilder
import Derived.Shelf.Strings.Prefix
import Derived.Shelf.Strings.Runes
import Derived.Shelf.Strings.Search1
import Derived.StringKeys
import Derived.Tactics
import Derived.Test.YtkgmempifggajaaGreatDoorProg
import Derived.WalkKit
import Derived.WalkLawsBesides
import Derived.WalkSpells
import Derived.WideLaws
/- The reference's Parse computes what the program's does. -/
namespace Go.Proofs.YtkgmempifggajaaGreatDoor.P
open Go.RowKit Go.Proofs.YtkgmempifggajaaGreatDoorW.PrintWords Go.Proofs.YtkgmempifggajaaGreatDoorW.PrintLast Go.Proofs.YtkgmempifggajaaGreatDoorW.PrintMore
set_option linter.unusedVariables false
set_option linter.unusedSimpArgs false
variable {Z : RZ}
structure QR (Z : RZ) (w0 w : World) (b g : Nat) (n : Int) (s : PS) (y : Fm) (A : Option Addr) (c : Nat) : Prop where
 res : w.heap[w0.heap.size]? = some (.cells zFm 24 (0, 0))
 par : IsR Z w b n s
 box : w.heap[g]? = some (.cells #[.int .i64 y.f0, .string y.f1, .int .i64 y.f2, .int .i64 y.f3, .slice A y.f4.length c] 24 (0, 0))
 row : Kd.R kFm 24 w (b + 1) (fun _ => True) (.slice A y.f4.length c) y.f4
 old : Below w0.heap.size w0 w
 hb : w0.heap.size < b
 hg : b < g
theorem QR.step {w0 w w1 : World} {b g : Nat} {n : Int} {s s' : PS} {y : Fm} {A : Option Addr} {c : Nat} (h : QR Z w0 w b g n s y A c) (hp : IsR Z w1 b n s') (hs : Same (OnlyP b) w w1) : QR Z w0 w1 b g n s' y A c := by
 have h1 := h.hb
 have h2 := h.hg
 have hz := h.old.size
 refine ⟨(hs.block _ (lt_of_block h.res) (by unfold OnlyP; omega)).trans h.res, hp, (hs.block _ (lt_of_block h.box) (by unfold OnlyP; omega)).trans h.box, R_same h.row hs (fun k hk => by unfold OnlyP; omega), ?_, h1, h2⟩
 exact ⟨hs.os.trans h.old.os, hs.tape.trans h.old.tape, hs.output.trans h.old.output, Nat.le_trans hz hs.size, fun k hk => (hs.block k (by omega) (by unfold OnlyP; omega)).trans (h.old.block k hk)⟩
theorem QR.below {w0 w w1 : World} {b g : Nat} {n : Int} {s : PS} {y : Fm} {A : Option Addr} {c : Nat} (h : QR Z w0 w b g n s y A c) (hb : Below w.heap.size w w1) : QR Z w0 w1 b g n s y A c :=
 h.step (h.par.below hb) (Same.of_below hb)
theorem lex_fine (l : List UInt8) : ∀ t ∈ (lex l).1, t.f0 = 1 → t.f3.toList ≠ [] := by
 intro t ht h1 h0
 have hg := (lex_good l t ht).1 h1
 rw [← ByteArray.toList_eq, h0] at hg
 cases hg
theorem low_of_size : ∀ (n : Nat) (x : Fm), size x ≤ n → n ≤ 9223372036854775807 → Low x := by
 intro n
 induction n with
 | zero => intro x h _; have := size_pos x; omega
 | succ n ih =>
  intro x h hn
  have hs := size_eq x
  have hl := sizes_len x.f4
  refine Low.mk x (by omega) (fun j hj => ih _ ?_ (by omega))
  have := size_mem x.f4 j hj
  omega
theorem rparse_eq (s : ByteArray) (toks : List Tok) (err off : Int) (h : lex s.data.toList = (toks, err, off)) (he : err = 0) :
  (eitherP (rnotP s.size (toks.length + 1)) ⟨toks, 0, 0⟩).2 = (eitherP (oneP s.size (toks.length + 1)) ⟨toks, 0, 0⟩).2 ∧
  ((eitherP (oneP s.size (toks.length + 1)) ⟨toks, 0, 0⟩).2.err = 0 → (eitherP (rnotP s.size (toks.length + 1)) ⟨toks, 0, 0⟩).1 = (eitherP (oneP s.size (toks.length + 1)) ⟨toks, 0, 0⟩).1) ∧
  OkS (eitherP (oneP s.size (toks.length + 1)) ⟨toks, 0, 0⟩).2 := by
 have hf := lex_fine s.data.toList
 rw [h] at hf
 obtain ⟨e1, e2, e3, e4⟩ := eitherP_alike (rnotP_alike s.size (toks.length + 1)) ⟨toks, 0, 0⟩ ⟨fun h0 => absurd rfl h0, hf⟩
 exact ⟨e1, e4, e2⟩
set_option maxHeartbeats 8000000 in
set_option maxRecDepth 100000 in
theorem rparse_calls (s : ByteArray) (w : World) (hsz : s.size ≤ 9223372036854775807) : Calls Tryz.prog 27 #[.string s] w (ParsePost s w) := by
 have HLN := Aside0.mk (lex_len s.data.toList)
 have HFN := Aside0.mk (lex_fine s.data.toList)
 obtain ⟨lx, hlx⟩ : ∃ lx, lex s.data.toList = lx := ⟨_, rfl⟩
 have HPF := Aside0.mk (show parseF s = if lx.2.1 = 0 then (fun p : Fm × PS => endP p.1 (tooP p.1 (restP p.2))) (eitherP (oneP s.size (lx.1.length + 1)) ⟨lx.1, 0, 0⟩) else (z24, lx.2.1, lx.2.2) by rw [← hlx]; rfl)
 have HLX := Aside0.mk hlx
 rw [hlx] at HLN HFN
 obtain ⟨toks, err, off⟩ := lx
 clear hlx
 go_enter Tryz.func27, Tryz.ntmps27
 go_wp2_with fail
 refine (rlex_calls s _).mono ?_
 rintro e w2 ⟨v, rfl, hR, hb⟩
 rw [HLX.out] at hR ⊢
 obtain ⟨A, c, rfl⟩ := Kd.R_slice hR
 have hz2 : w.heap.size < w2.heap.size := by have := hb.size; simp at this; omega
 have HRES := Aside0.mk (show w2.heap[w.heap.size]? = some (.cells zFm 24 (0, 0)) from (hb.block _ (by simp)).trans (by (repeat (first | (refine blk_new _ _ ?_; first | rfl | (simp; done)) | refine blk_alloc_old ?_ _ | refine blk_drew_old ?_ | refine blk_drewN_old ?_ _ | assumption))))
 have HB2 := Aside0.mk (below_then (below_alloc (Below.refl w.heap.size w) _) (by simp) hb)
 have HR2 := Aside0.mk hR
 clear hR hb
 by_cases he : err = 0
 ·have b0 : (err != 0) = false := by simp [he]
  have HPF2 := Aside0.mk (HPF.out.trans (if_pos he))
  have HEQ := Aside0.mk (rparse_eq s toks err off HLX.out he)
  clear HPF he
  have hlen : toks.length ≤ 5000 := HLN.out
  have hRd := Kd.R_reads' HR2.out
  have HI := Aside0.mk (show IsR ⟨toks, A, c⟩ (w2.alloc (.cells #[.slice A toks.length c, .int .i64 0, .int .i64 s.size, .int .i64 0, .int .i64 0] 78)) w2.heap.size s.size ⟨toks, 0, 0⟩ from
   ⟨toks, A, c, 0, blk_new _ _ rfl, Nat.zero_le _, by rw [if_pos rfl]; rfl, Kd.F_alloc (Kd.F_mono (Kd.R_F (Kd.R_bound HR2.out)) (fun q hq => by first | exact hq.2.2.1 | exact hq.2.2 | exact hq.2.1 | omega)) _, hRd.2.1, HFN.out, rfl, rfl, rfl⟩)
  have HCC := Aside0.mk hRd
  clear hRd
  go_wp2_with fail
  refine (rformula_all toks.length (toks.length + 1) (by omega) (by omega) w2.heap.size s.size ⟨toks, 0, 0⟩ _ (Nat.le_refl _) HI.out).mono ?_
  rintro e w4 ⟨v4, rfl, hR, hI, hS⟩
  obtain ⟨A4, c4, rfl⟩ := Kd.R_slice hR
  have hsm := eitherP_small (rnotP_small s.size (toks.length + 1)) ⟨toks, 0, 0⟩
  have HPF3 := Aside0.mk (show parseF s = (fun p : Fm × PS => endP p.1 (tooP p.1 (restP p.2))) (eitherP (oneP s.size (toks.length + 1)) ⟨toks, 0, 0⟩) from HPF2.out)
  obtain ⟨⟨y, st⟩, hy⟩ : ∃ p, eitherP (rnotP s.size (toks.length + 1)) ⟨toks, 0, 0⟩ = p := ⟨_, rfl⟩
  obtain ⟨⟨y1, st1⟩, hy1⟩ : ∃ p, eitherP (oneP s.size (toks.length + 1)) ⟨toks, 0, 0⟩ = p := ⟨_, rfl⟩
  have hq := HEQ.out
  rw [hy, hy1] at hq
  obtain ⟨hq1, hq2, hq3⟩ := hq
  simp only at hq1 hq2 hq3
  subst hq1
  rw [hy] at hR hI hsm ⊢
  rw [hy1] at HPF3
  have HPF4 := Aside0.mk (show parseF s = endP y1 (tooP y1 (restP st)) from HPF3.out)
  have HQ2 := Aside0.mk hq2
  have HQ3 := Aside0.mk hq3
  have hys : size y ≤ 100000000 := by simp only at hsm; omega
  have hz4 : w2.heap.size < w4.heap.size := by have := hS.size; simp at this; omega
  have hQ : QR ⟨toks, A, c⟩ w (w4.alloc (.cells #[.int .i64 y.f0, .string y.f1, .int .i64 y.f2, .int .i64 y.f3, .slice A4 y.f4.length c4] 24)) w2.heap.size w4.heap.size s.size st y A4 c4 := by
   refine ⟨blk_alloc_old ((hS.block _ (by simp; omega) (by unfold OnlyP; omega)).trans (blk_alloc_old HRES.out _)) _, hI.below (below_alloc (Below.refl _ _) _), blk_new _ _ rfl, Kd.R_alloc (Kd.R_lower hR (by simp)) _, ?_, hz2, hz4⟩
   have h3 := below_alloc HB2.out (.cells #[.slice A toks.length c, .int .i64 0, .int .i64 s.size, .int .i64 0, .int .i64 0] 78)
   exact below_alloc ⟨hS.os.trans h3.os, hS.tape.trans h3.tape, hS.output.trans h3.output, Nat.le_trans h3.size hS.size, fun k hk => (hS.block k (by simp; omega) (by unfold OnlyP; omega)).trans (h3.block k hk)⟩ _
  have HQ := Aside0.mk hQ
  have HYS := Aside0.mk hys
  clear hR hI hS hy hy1 HPF2 HPF3 hsm hys hQ HI HR2 HRES HB2 hq2 hq3 HEQ HCC HLX
  go_upto_region 6 with fail
  obtain ⟨W6, hW6⟩ : ∃ W, w4.alloc (.cells #[.int .i64 y.f0, .string y.f1, .int .i64 y.f2, .int .i64 y.f3, .slice A4 y.f4.length c4] 24) = W := ⟨_, rfl⟩
  obtain ⟨g, hg⟩ : ∃ g, w4.heap.size = g := ⟨_, rfl⟩
  obtain ⟨b, hb⟩ : ∃ b, w2.heap.size = b := ⟨_, rfl⟩
  rw [hW6, hg, hb] at HQ
  rw [hW6]
  simp only [hg, hb] at hz2 hz4 ⊢
  clear hW6 hg hb
  obtain ⟨L', A', c', I, hpb, hIL, h3, hFt, hct, h6, hL', hA', hc'⟩ := HQ.out.par.blk
  simp only at hL' hA' hc'
  have hL2 : toks = L' := hL'.symm
  have hA2 : A = A' := hA'.symm
  have hc2 : c = c' := hc'.symm
  subst hL2 hA2 hc2
  have hp0 := blk_cell hpb 0
  have hp1 := blk_cell hpb 1
  have hm := Kd.F_max hFt
  have H3 := Aside0.mk h3
  clear h3 hpb hct h6
  go_upto_if 34 with fail
  go_cut [] (fun wx => Aside0 (QR ⟨toks, A, c⟩ w wx b g s.size (restP st) y A4 c4))
  case first =>
   by_cases hI : I < toks.length
   ·have bI : decide (I < toks.length) = true := decide_eq_true hI
    obtain ⟨ad, rfl, hok, k0, k1, k2, k3⟩ := tok_atF hFt I hI
    have i1 : (0 : Int) ≤ (I : Int) := by omega
    have i2 : (I : Int) < (toks.length : Int) := by omega
    obtain ⟨a5, ha5⟩ : ∃ a, toks[I].f1 = a := ⟨_, rfl⟩
    rw [ha5] at k1
    have HF := Aside0.mk (show failP 5 a5 st = restP st by
     have h3 := H3.out
     unfold restP
     by_cases h0 : st.err = 0
     ·rw [if_pos h0, List.drop_eq_getElem_cons hI] at h3
      rw [h3]
      simp only
      rw [ha5]
     ·rw [if_neg h0] at h3
      rw [h3]
      simp only
      exact if_neg h0)
    clear ha5 k0 k2 k3 hFt hok H3
    go_wp2_with fail
    refine (rfail_calls b s.size st 5 a5 (by decide) _ HQ.out.par).mono ?_
    rintro e w7 ⟨rfl, hI7, hS7⟩
    rw [HF.out] at hI7
    go_wp2_with fail
    go_meet
    exact ⟨HQ.out.step hI7 hS7⟩
   ·have bI : decide (I < toks.length) = false := decide_eq_false hI
    have HF := Aside0.mk (show st = restP st by
     have h3 := H3.out
     have ht : st.toks = [] := by
      by_cases h0 : st.err = 0
      ·rw [if_pos h0, List.drop_eq_nil_of_le (by omega)] at h3; exact h3
      ·rw [if_neg h0] at h3; exact h3
     unfold restP
     rw [ht])
    clear hFt H3
    go_wp2_with fail
    go_meet
    exact ⟨by rw [← HF.out]; exact HQ.out⟩
  replace HQ := hcut
  clear hcut hp0 hp1 hFt H3 hm hIL
  obtain ⟨L', A', c', I', hpb, _⟩ := HQ.out.par.blk
  have hp3 := blk_cell hpb 3
  have hp4 := blk_cell hpb 4
  obtain ⟨sr, hsr⟩ : ∃ sr, restP st = sr := ⟨_, rfl⟩
  have hst : sr.err = 0 → st.err = 0 := by
   intro h0
   rw [← hsr] at h0
   unfold restP at h0
   split at h0
   ·exact h0
   ·exact absurd h0 (failP_bad 5 _ (by decide) _)
  have HST := Aside0.mk hst
  have HPF5 := Aside0.mk (show parseF s = endP y1 (tooP y1 sr) from hsr ▸ HPF4.out)
  rw [hsr] at HQ hp3 hp4
  obtain ⟨tr, er, of⟩ := sr
  simp only at hp3 hp4
  clear hpb hst hsr HPF4
  have hbne : b ≠ w.heap.size := by omega
  by_cases h0 : er = 0
  ·have e1 : (er != 0) = false := by simp [h0]
   have HY := Aside0.mk (HQ2.out (HST.out h0))
   have HX := Aside0.mk (show parseF s = if isLarge y = true then (z24, 2, -1) else (y, 0, 0) by
    rw [HPF5.out, ← HY.out]
    by_cases hL : isLarge y = true
    ·have e : tooP y ⟨tr, er, of⟩ = failP 2 (-1) ⟨tr, er, of⟩ := if_pos ⟨h0, hL⟩
     have e2 : failP 2 (-1) ⟨tr, er, of⟩ = ⟨[], 2, -1⟩ := if_pos h0
     rw [e, e2, if_pos hL]
     rfl
    ·have e : tooP y ⟨tr, er, of⟩ = ⟨tr, er, of⟩ := if_neg (fun h => hL h.2)
     rw [e, if_neg hL]
     exact if_pos h0)
   obtain ⟨kl, hkl⟩ := (PLawFormulaTextsAsReference.large_tells (low_of_size 100000000 y HYS.out (by decide)) HYS.out).run
   have HKL := Aside0.mk hkl
   clear h0 hkl
   have hk0 := blk_cell HQ.out.box 0
   have hk1 := blk_cell HQ.out.box 1
   have hk2 := blk_cell HQ.out.box 2
   have hk3 := blk_cell HQ.out.box 3
   have hk4 := blk_cell HQ.out.box 4
   have HC := Aside0.mk (Kd.R_reads' HQ.out.row).2
   go_wp2_with fail
   refine (PLawFormulaTextsAsReference.customhouseref25_Large.calls kl y.f0 y.f1 y.f2 y.f3 A4 c4 y.f4 (isLarge y) _ HC.out.2 HC.out.1 HKL.out).mono ?_
   rintro e w8 ⟨rfl, hb⟩
   replace HQ := Aside0.mk (HQ.out.below hb)
   clear hb hk0 hk1 hk2 hk3 hk4 hp3 hp4 HC HKL
   have hf0 := blk_cell HQ.out.res 0
   have hg0 := blk_frozen HQ.out.res 0
   have hf1 := blk_cell HQ.out.res 1
   have hg1 := blk_frozen HQ.out.res 1
   have hf2 := blk_cell HQ.out.res 2
   have hg2 := blk_frozen HQ.out.res 2
   have hf3 := blk_cell HQ.out.res 3
   have hg3 := blk_frozen HQ.out.res 3
   have hf4 := blk_cell HQ.out.res 4
   have hg4 := blk_frozen HQ.out.res 4
   have hk0 := blk_cell HQ.out.box 0
   have hk1 := blk_cell HQ.out.box 1
   have hk2 := blk_cell HQ.out.box 2
   have hk3 := blk_cell HQ.out.box 3
   have hk4 := blk_cell HQ.out.box 4
   have hgb := HQ.out.hg
   cases hL : isLarge y
   ·have HX2 := Aside0.mk (HX.out.trans (if_neg (by rw [hL]; decide)))
    clear hL
    go_wp2
    refine bodyPost_ret (results_ctt rfl _ _ w.heap.size 24 #[.int .i64 y.f0, .string y.f1, .int .i64 y.f2, .int .i64 y.f3, .slice A4 y.f4.length c4] (0, 0) _ rfl (put5 HQ.out.res _ _ _ _ _) Tryz.underlying24 rfl (by kernel_rfl)) rfl ?_
    refine ⟨.slice A4 y.f4.length c4, by rw [HX2.out]; rfl, ?_, (((((HQ.out.old.setCell (p := ⟨w.heap.size, 0, none⟩) (Nat.le_refl _) _).setCell (p := ⟨w.heap.size, 1, none⟩) (Nat.le_refl _) _).setCell (p := ⟨w.heap.size, 2, none⟩) (Nat.le_refl _) _).setCell (p := ⟨w.heap.size, 3, none⟩) (Nat.le_refl _) _).setCell (p := ⟨w.heap.size, 4, none⟩) (Nat.le_refl _) _)⟩
    rw [HX2.out]
    exact Kd.R_lower (Kd.R_mono (Kd.R_step (Kd.R_bound HQ.out.row) (fun k hk _ => put5_other _ _ _ _ _ _ _ (by have := hk.2.1; omega))) (fun _ _ => trivial)) (by omega)
   ·have HX2 := Aside0.mk (HX.out.trans (if_pos hL))
    clear hL
    go_wp2
    refine bodyPost_ret (results_ctt rfl _ _ w.heap.size 24 zFm (0, 0) _ rfl (put5 HQ.out.res _ _ _ _ _) Tryz.underlying24 rfl (by kernel_rfl)) rfl ?_
    refine ⟨.slice none 0 0, by rw [HX2.out]; rfl, by rw [HX2.out]; exact Kd.R_nil _ _ _ _ _, (((((HQ.out.old.setCell (p := ⟨w.heap.size, 0, none⟩) (Nat.le_refl _) _).setCell (p := ⟨w.heap.size, 1, none⟩) (Nat.le_refl _) _).setCell (p := ⟨w.heap.size, 2, none⟩) (Nat.le_refl _) _).setCell (p := ⟨w.heap.size, 3, none⟩) (Nat.le_refl _) _).setCell (p := ⟨w.heap.size, 4, none⟩) (Nat.le_refl _) _)⟩
  ·have e1 : (er != 0) = true := by simpa using h0
   have HX := Aside0.mk (show parseF s = (z24, er, of) by rw [HPF5.out, tooP, if_neg (fun h => h0 h.1), endP, if_neg h0])
   clear h0
   have hf0 := blk_cell HQ.out.res 0
   have hg0 := blk_frozen HQ.out.res 0
   have hf1 := blk_cell HQ.out.res 1
   have hg1 := blk_frozen HQ.out.res 1
   have hf2 := blk_cell HQ.out.res 2
   have hg2 := blk_frozen HQ.out.res 2
   have hf3 := blk_cell HQ.out.res 3
   have hg3 := blk_frozen HQ.out.res 3
   have hf4 := blk_cell HQ.out.res 4
   have hg4 := blk_frozen HQ.out.res 4
   go_wp2_with fail
   have hq2 : wc.drew.cell? ⟨b, 3, none⟩ = some (.int .i64 er) := hp3
   have hq3 : wc.drew.cell? ⟨b, 4, none⟩ = some (.int .i64 of) := hp4
   have hs2 : (((((wc.setCell ⟨w.heap.size, 0, none⟩ (.int .i64 0)).setCell ⟨w.heap.size, 1, none⟩ (.string ⟨#[]⟩)).setCell ⟨w.heap.size, 2, none⟩ (.int .i64 0)).setCell ⟨w.heap.size, 3, none⟩ (.int .i64 0)).setCell ⟨w.heap.size, 4, none⟩ (.slice none 0 0)).drew.cell? ⟨b, 3, none⟩ = some (.int .i64 er) := put5_cell wc _ _ _ _ _ _ hbne hp3
   have hs3 : (((((wc.setCell ⟨w.heap.size, 0, none⟩ (.int .i64 0)).setCell ⟨w.heap.size, 1, none⟩ (.string ⟨#[]⟩)).setCell ⟨w.heap.size, 2, none⟩ (.int .i64 0)).setCell ⟨w.heap.size, 3, none⟩ (.int .i64 0)).setCell ⟨w.heap.size, 4, none⟩ (.slice none 0 0)).drew.cell? ⟨b, 4, none⟩ = some (.int .i64 of) := put5_cell wc _ _ _ _ _ _ hbne hp4
   go_region_held3 (fun w' => w'.cell? ⟨b, 3, none⟩ = some (.int .i64 er) ∧ w'.cell? ⟨b, 4, none⟩ = some (.int .i64 of))
    (refine ⟨?_, ?_⟩ <;> with_reducible assumption) (fail)
   all_goals
    clear hq2 hq3 hs2 hs3
    try go_wp2
    refine bodyPost_ret (results_ctt rfl _ _ w.heap.size 24 zFm (0, 0) _ rfl (blk_drew_old (put5 HQ.out.res _ _ _ _ _)) Tryz.underlying24 rfl (by kernel_rfl)) rfl ?_
    refine ⟨.slice none 0 0, ?_, by rw [HX.out]; exact Kd.R_nil _ _ _ _ _, below_drew (((((HQ.out.old.setCell (p := ⟨w.heap.size, 0, none⟩) (Nat.le_refl _) _).setCell (p := ⟨w.heap.size, 1, none⟩) (Nat.le_refl _) _).setCell (p := ⟨w.heap.size, 2, none⟩) (Nat.le_refl _) _).setCell (p := ⟨w.heap.size, 3, none⟩) (Nat.le_refl _) _).setCell (p := ⟨w.heap.size, 4, none⟩) (Nat.le_refl _) _)⟩
    rw [HX.out]; rfl
 ·have b0 : (err != 0) = true := by simpa using he
  have HX := Aside0.mk (HPF.out.trans (if_neg he))
  clear he HPF
  have hf0 := blk_cell HRES.out 0
  have hg0 := blk_frozen HRES.out 0
  have hf1 := blk_cell HRES.out 1
  have hg1 := blk_frozen HRES.out 1
  have hf2 := blk_cell HRES.out 2
  have hg2 := blk_frozen HRES.out 2
  have hf3 := blk_cell HRES.out 3
  have hg3 := blk_frozen HRES.out 3
  have hf4 := blk_cell HRES.out 4
  have hg4 := blk_frozen HRES.out 4
  go_wp2
  refine bodyPost_ret (results_ctt rfl _ _ w.heap.size 24 zFm (0, 0) _ rfl (put5 HRES.out _ _ _ _ _) Tryz.underlying24 rfl (by kernel_rfl)) rfl ?_
  refine ⟨.slice none 0 0, by rw [HX.out]; rfl, by rw [HX.out]; exact Kd.R_nil _ _ _ _ _, (((((HB2.out.setCell (p := ⟨w.heap.size, 0, none⟩) (Nat.le_refl _) _).setCell (p := ⟨w.heap.size, 1, none⟩) (Nat.le_refl _) _).setCell (p := ⟨w.heap.size, 2, none⟩) (Nat.le_refl _) _).setCell (p := ⟨w.heap.size, 3, none⟩) (Nat.le_refl _) _).setCell (p := ⟨w.heap.size, 4, none⟩) (Nat.le_refl _) _)⟩
end Go.Proofs.YtkgmempifggajaaGreatDoor.P
/- The reference's Text computes what the program's does. -/
namespace Go.Proofs.YtkgmempifggajaaGreatDoor.PLawFormulaTextsAsReference
open Go.RowKit Go.Proofs.YtkgmempifggajaaGreatDoorW.PrintWords Go.Proofs.YtkgmempifggajaaGreatDoorW.PrintLast Go.Proofs.YtkgmempifggajaaGreatDoorW.PrintMore
open Go.Proofs.YtkgmempifggajaaGreatDoor.P
set_option linter.unusedVariables false
set_option linter.unusedSimpArgs false
theorem ba_join (a b : List UInt8) : ba a ++ ba b = ba (a ++ b) := by
 apply ByteArray.ext
 rw [ByteArray.data_append]
 simp [ba]
theorem ba_size (a : List UInt8) : (ba a).size = a.length := by show (a.toArray).size = _; simp
theorem dig_one (d : Nat) (h : d < 10) : (⟨#[48, 49, 50, 51, 52, 53, 54, 55, 56, 57]⟩ : ByteArray).extract d (d + 1) = ba [UInt8.ofNat (48 + d)] := by
 match d, h with
 | 0, _ => rfl
 | 1, _ => rfl
 | 2, _ => rfl
 | 3, _ => rfl
 | 4, _ => rfl
 | 5, _ => rfl
 | 6, _ => rfl
 | 7, _ => rfl
 | 8, _ => rfl
 | 9, _ => rfl
theorem tmod_ten (n : Nat) : Int.tmod (n : Int) 10 = ((n % 10 : Nat) : Int) := by rw [Int.tmod_eq_emod_of_nonneg (by omega)]; omega
theorem tdiv_ten (n : Nat) : Int.tdiv (n : Int) 10 = ((n / 10 : Nat) : Int) := by rw [Int.tdiv_eq_ediv_of_nonneg (by omega)]; omega
theorem u64_id (n : Nat) (h : n ≤ 9223372036854775807) : IntKind.u64.wrap ((n : Nat) : Int) = (n : Int) := by rw [IntKind.wrap_u64]; omega
theorem dig_step (n : Nat) : IntKind.u64.wrap (((n % 10 : Nat) : Int) + 1) = ((n % 10 + 1 : Nat) : Int) := by rw [IntKind.wrap_u64]; omega
theorem dec_small (n : Nat) (h : n < 10) : Lib.decDigits n = [UInt8.ofNat (48 + n)] := by rw [Lib.decDigits, dif_pos h]
theorem dec_big (n : Nat) (h : ¬ n < 10) : Lib.decDigits n = Lib.decDigits (n / 10) ++ [UInt8.ofNat (48 + n % 10)] := by rw [Lib.decDigits, dif_neg h]
theorem digits_loop (q : Nat) : ∀ acc : List UInt8, acc.length + q ≤ 9223372036854775807 → Tells (fun k => customhouseref01_digits.l0 k (q : Int) (ba acc)) (ba (if q = 0 then acc else Lib.decDigits q ++ acc)) := by
 induction q using Nat.strongRecOn with
 | _ q ih =>
  intro acc hb
  by_cases h0 : q = 0
  ·rw [if_pos h0]
   refine Tells.step (fun k => ?_) Tells.same
   simp only [customhouseref01_digits.l0]
   rw [if_neg (by omega)]
  ·rw [if_neg h0]
   have g := ih (q / 10) (by omega) (UInt8.ofNat (48 + q % 10) :: acc) (by simp only [List.length_cons]; omega)
   have e : (if q / 10 = 0 then UInt8.ofNat (48 + q % 10) :: acc else Lib.decDigits (q / 10) ++ (UInt8.ofNat (48 + q % 10) :: acc)) = Lib.decDigits q ++ acc := by
    by_cases h9 : q < 10
    ·rw [if_pos (by omega), dec_small q h9, show q % 10 = q by omega]; rfl
    ·rw [if_neg (by omega), dec_big q h9, List.append_assoc]; rfl
   rw [e] at g
   refine Tells.step (fun k => ?_) g
   simp only [customhouseref01_digits.l0]
   rw [tmod_ten, tdiv_ten, dig_step, u64_id (q / 10) (by omega)]
   simp only [Int.toNat_natCast]
   rw [dig_one (q % 10) (by omega), ba_join, ba_size, ba_size, if_pos (by omega), if_pos (by omega), if_pos (by omega), if_pos (by omega), if_pos (by simp only [List.length_singleton]; omega)]
   rfl
theorem decimal_tells (n : Nat) (h : n ≤ 1000000) : Tells (fun k => customhouseref01_Decimal.f k (n : Int)) (ba (Lib.itoa (n : Int))) := by
 have hi : Lib.itoa (n : Int) = Lib.decDigits n := by unfold Lib.itoa; rw [if_neg (by omega)]; simp
 have g := digits_loop (n / 10) [UInt8.ofNat (48 + n % 10)] (by simp only [List.length_singleton]; omega)
 have e : (if n / 10 = 0 then [UInt8.ofNat (48 + n % 10)] else Lib.decDigits (n / 10) ++ [UInt8.ofNat (48 + n % 10)]) = Lib.decDigits n := by
  by_cases h9 : n < 10
  ·rw [if_pos (by omega), dec_small n h9, show n % 10 = n by omega]
  ·rw [if_neg (by omega), dec_big n h9]
 rw [e] at g
 rw [hi]
 refine Tells.eq (h := fun k => (customhouseref01_digits.f k (n : Int)).bind fun t => some t) (fun k => ?_) (Tells.bind (a := ba (Lib.decDigits n)) ?_ Tells.same)
 ·unfold customhouseref01_Decimal.f
  rw [if_neg (by omega), u64_id n (by omega)]
 ·refine Tells.eq (fun k => ?_) g
  unfold customhouseref01_digits.f
  rw [tmod_ten, tdiv_ten, dig_step, u64_id (n / 10) (by omega)]
  simp only [Int.toNat_natCast]
  rw [dig_one (n % 10) (by omega), if_pos (by omega), if_pos (by omega), if_pos (by omega)]
theorem bad_zero (x : Fm) : (badNode x = 0) ↔ (formedB x = true ∧ (x.f0 = 3 → 0 ≤ x.f3 ∧ x.f3 ≤ 1000000)) := by
 unfold badNode
 cases hf : formedB x
 ·rw [if_pos rfl]; simp
 ·rw [if_neg (by decide)]
  by_cases h3 : x.f0 = 3
  ·have hk : isKey x.f1 = false := by
    unfold formedB at hf
    rw [if_pos h3] at hf
    simp only [Bool.and_eq_true, Bool.not_eq_true'] at hf
    exact hf.2
   by_cases hc : x.f0 = 3 ∧ (x.f3 < 0 ∨ 1000000 < x.f3 ∨ isKey x.f1 = true)
   ·rw [if_pos hc]
    refine ⟨fun h => absurd h (by decide), fun h => ?_⟩
    have := h.2 h3
    rcases hc.2 with h4 | h4 | h4
    ·omega
    ·omega
    ·rw [hk] at h4; cases h4
   ·rw [if_neg hc]
    refine ⟨fun _ => ⟨rfl, fun _ => ?_⟩, fun _ => rfl⟩
    have h4 : ¬ x.f3 < 0 := fun h => hc ⟨h3, .inl h⟩
    have h5 : ¬ 1000000 < x.f3 := fun h => hc ⟨h3, .inr (.inl h)⟩
    omega
  ·rw [if_neg (fun h => h3 h.1)]
   exact ⟨fun _ => ⟨rfl, fun h => absurd h h3⟩, fun _ => rfl⟩
theorem firstEs_drop (look : Fm → Int) (ks : List Fm) (i : Nat) (h : i < ks.length) : (firstEs look (ks.drop i) = 0) ↔ (firstE look ks[i] = 0 ∧ firstEs look (ks.drop (i + 1)) = 0) := by
 rw [List.drop_eq_getElem_cons h, firstEs]
 by_cases h0 : firstE look ks[i] = 0
 ·rw [if_pos h0]; simp [h0]
 ·rw [if_neg h0]; simp [h0]
theorem writable_loop (op : Int) (nm : ByteArray) (c n : Int) (ks : List Fm) (hk : ks.length ≤ 9223372036854775807)
  (ih : ∀ j (hj : j < ks.length), Tells (fun k => customhouseref25_writable.f k ks[j].f0 ks[j].f1 ks[j].f2 ks[j].f3 ks[j].f4) (decide (firstE badNode ks[j] = 0))) :
  ∀ d i : Nat, i + d = ks.length → Tells (fun k => customhouseref25_writable.l0 k i op nm c n ks) (decide (firstEs badNode (ks.drop i) = 0)) := by
 intro d
 induction d with
 | zero =>
  intro i hi
  rw [List.drop_eq_nil_of_le (by omega)]
  refine Tells.step (fun k => ?_) Tells.same
  simp only [customhouseref25_writable.l0]
  rw [if_neg (by omega)]
  rfl
 | succ d ihd =>
  intro i hi
  have hlt : i < ks.length := by omega
  have w1 : wrap64 ((i : Int) + 1) = ((i + 1 : Nat) : Int) := by unfold wrap64; omega
  have hd := firstEs_drop badNode ks i hlt
  refine Tells.step (h := fun k => (customhouseref25_writable.f k ks[i].f0 ks[i].f1 ks[i].f2 ks[i].f3 ks[i].f4).bind fun t => if t = true then customhouseref25_writable.l0 k ((i + 1 : Nat) : Int) op nm c n ks else some false) (fun k => ?_) ?_
  ·simp only [customhouseref25_writable.l0]
   rw [if_pos (by omega), if_pos (by omega), rd_at ks i hlt, w1]
  ·refine Tells.bind (ih i hlt) ?_
   by_cases h0 : firstE badNode ks[i] = 0
   ·have e : decide (firstEs badNode (ks.drop i) = 0) = decide (firstEs badNode (ks.drop (i + 1)) = 0) := decide_eq_decide.2 (hd.trans ⟨fun h => h.2, fun h => ⟨h0, h⟩⟩)
    rw [e]
    refine Tells.eq (fun k => ?_) (ihd (i + 1) (by omega))
    rw [decide_eq_true h0, if_pos rfl]
   ·have e : decide (firstEs badNode (ks.drop i) = 0) = false := decide_eq_false (fun h => h0 (hd.1 h).1)
    rw [e]
    refine Tells.eq (h := fun _ => some false) (fun k => ?_) Tells.same
    rw [decide_eq_false h0, if_neg (by decide)]
theorem writable_tells {x : Fm} (h : Held x) : Tells (fun k => customhouseref25_writable.f k x.f0 x.f1 x.f2 x.f3 x.f4) (decide (firstE badNode x = 0)) := by
 induction h with
 | mk x _ h1 _ _ hk _ ih =>
  have hb := bad_zero x
  have hfe : (firstE badNode x = 0) ↔ (badNode x = 0 ∧ firstEs badNode x.f4 = 0) := by
   rw [firstE_eq]
   by_cases h0 : badNode x = 0
   ·rw [if_pos h0]; simp [h0]
   ·rw [if_neg h0]; simp [h0]
  have jt : Tells (fun k => customhouseref25_writable.j0 k true x.f0 x.f1 x.f2 x.f3 x.f4) false := by
   refine Tells.step (fun k => ?_) Tells.same
   simp only [customhouseref25_writable.j0]
   rw [if_pos trivial]
  have jf : Tells (fun k => customhouseref25_writable.j0 k false x.f0 x.f1 x.f2 x.f3 x.f4) (decide (firstEs badNode x.f4 = 0)) := by
   have g := writable_loop x.f0 x.f1 x.f2 x.f3 x.f4 hk (fun j hj => ih j hj) x.f4.length 0 (by omega)
   rw [List.drop_zero] at g
   refine Tells.step (fun k => ?_) g
   simp only [customhouseref25_writable.j0]
   rw [if_neg (by decide)]
   rfl
  refine Tells.step (h := fun k => (customhouseref25_formed.f k x.f0 x.f1 x.f2 x.f3 x.f4).bind fun t129 => (if t129 = true then (if x.f0 = 3 then (if x.f3 < 0 then (customhouseref25_writable.j0 k true x.f0 x.f1 x.f2 x.f3 x.f4) else (customhouseref25_writable.j0 k (decide (x.f3 > 1000000)) x.f0 x.f1 x.f2 x.f3 x.f4)) else (customhouseref25_writable.j0 k false x.f0 x.f1 x.f2 x.f3 x.f4)) else (customhouseref25_writable.j0 k true x.f0 x.f1 x.f2 x.f3 x.f4))) (fun k => ?_) ?_
  ·simp only [customhouseref25_writable.f]
  ·refine Tells.bind (formed_tells x h1) ?_
   have bad : ¬ badNode x = 0 → decide (firstE badNode x = 0) = false := fun h0 => decide_eq_false (fun h => h0 (hfe.1 h).1)
   have good : badNode x = 0 → decide (firstE badNode x = 0) = decide (firstEs badNode x.f4 = 0) := fun h0 => decide_eq_decide.2 (hfe.trans ⟨fun h => h.2, fun h => ⟨h0, h⟩⟩)
   cases hf : formedB x
   ·rw [bad (fun h0 => by have := (hb.1 h0).1; rw [hf] at this; cases this)]
    exact Tells.eq (fun k => if_neg (by decide)) jt
   ·by_cases h3 : x.f0 = 3
    ·by_cases h4 : x.f3 < 0
     ·rw [bad (fun h0 => by have := (hb.1 h0).2 h3; omega)]
      exact Tells.eq (fun k => by rw [if_pos rfl, if_pos h3, if_pos h4]) jt
     ·by_cases h5 : x.f3 > 1000000
      ·rw [bad (fun h0 => by have := (hb.1 h0).2 h3; omega)]
       exact Tells.eq (fun k => by rw [if_pos rfl, if_pos h3, if_neg h4, decide_eq_true h5]) jt
      ·rw [good (hb.2 ⟨hf, fun _ => by omega⟩)]
       exact Tells.eq (fun k => by rw [if_pos rfl, if_pos h3, if_neg h4, decide_eq_false h5]) jf
    ·rw [good (hb.2 ⟨hf, fun h => absurd h h3⟩)]
     exact Tells.eq (fun k => by rw [if_pos rfl, if_neg h3]) jf
end Go.Proofs.YtkgmempifggajaaGreatDoor.PLawFormulaTextsAsReference
/- The reference's Text computes what the program's does: the text itself. -/
namespace Go.Proofs.YtkgmempifggajaaGreatDoor.PLawFormulaTextsAsReference
open Go.RowKit Go.Proofs.YtkgmempifggajaaGreatDoorW.PrintWords Go.Proofs.YtkgmempifggajaaGreatDoorW.PrintLast Go.Proofs.YtkgmempifggajaaGreatDoorW.PrintMore
open Go.Proofs.YtkgmempifggajaaGreatDoor.P
set_option linter.unusedVariables false
set_option linter.unusedSimpArgs false
def preT (op : Int) (i : Nat) (s : List UInt8) : List UInt8 := if op = 4 then tNot ++ s else if i = 0 then s else if op = 5 then tAnd ++ s else tOr ++ s
def restT (op : Int) : Nat → List Fm → List UInt8
 | _, [] => []
 | i, k :: r => preT op i (wrap op k (textL k)) ++ restT op (i + 1) r
theorem restT_tail (op : Int) (h : op = 5 ∨ op = 6) : ∀ (r : List Fm) (i : Nat), i ≠ 0 → restT op i r = Lib.joinTail (if op = 5 then tAnd else tOr) (textsL op r) := by
 intro r
 induction r with
 | nil => intro i _; rfl
 | cons k r ih =>
  intro i hi
  rw [restT, ih (i + 1) (by omega), textsL]
  unfold Lib.joinTail
  rw [List.map_cons, List.flatten_cons]
  congr 1
  unfold preT
  rcases h with rfl | rfl
  ·rw [if_neg (by decide), if_neg hi, if_pos rfl, if_pos rfl]
  ·rw [if_neg (by decide), if_neg hi, if_neg (by decide), if_neg (by decide)]
theorem restT_join (op : Int) (h : op = 5 ∨ op = 6) (k : Fm) (r : List Fm) : restT op 0 (k :: r) = Lib.join (textsL op (k :: r)) (if op = 5 then tAnd else tOr) := by
 rw [textsL, Lib.join_cons, restT, restT_tail op h r 1 (by decide)]
 congr 1
 unfold preT
 rcases h with rfl | rfl
 ·rw [if_neg (by decide), if_pos rfl]
 ·rw [if_neg (by decide), if_pos rfl]
theorem lit_ba1 : (⟨#[40]⟩ : ByteArray) = ba [40] := rfl
theorem lit_ba2 : (⟨#[41]⟩ : ByteArray) = ba [41] := rfl
theorem lit_not : (⟨#[110, 111, 116, 32]⟩ : ByteArray) = ba tNot := rfl
theorem lit_and : (⟨#[32, 97, 110, 100, 32]⟩ : ByteArray) = ba tAnd := rfl
theorem lit_or : (⟨#[32, 111, 114, 32]⟩ : ByteArray) = ba tOr := rfl
theorem len_not : tNot.length = 4 := rfl
theorem len_and : tAnd.length = 5 := rfl
theorem len_or : tOr.length = 4 := rfl
theorem written_j3 (op : Int) (nm : ByteArray) (c n : Int) (ks : List Fm) (i : Nat) (acc s : List UInt8) (r : ByteArray) (hop : op ≠ 4) (hlen : acc.length + (preT op i s).length ≤ 9000000000) (hi : i < 9000000000)
  (h : Tells (fun k => customhouseref25_written.l0 k (ba (acc ++ preT op i s)) ((i + 1 : Nat) : Int) op nm c n ks) r) :
  Tells (fun k => customhouseref25_written.j2 k (ba acc) i (ba s) op nm c n ks) r := by
 have w1 : wrap64 ((i : Int) + 1) = ((i + 1 : Nat) : Int) := by unfold wrap64; omega
 unfold preT at hlen h
 rw [if_neg hop] at hlen h
 by_cases h0 : i = 0
 ·rw [if_pos h0] at hlen h
  refine Tells.step (h := fun k => customhouseref25_written.j3 k (ba acc) i (ba s) false op nm c n ks) (fun k => ?_) ?_
  ·simp only [customhouseref25_written.j2]
   rw [if_neg hop, if_neg (by omega)]
  ·refine Tells.step (fun k => ?_) h
   simp only [customhouseref25_written.j3]
   rw [if_neg (by decide), if_neg (by omega), ba_size, ba_size, if_pos (by omega), w1, ba_join]
 ·rw [if_neg h0] at hlen h
  refine Tells.step (h := fun k => customhouseref25_written.j3 k (ba acc) i (ba s) (op == 5) op nm c n ks) (fun k => ?_) ?_
  ·simp only [customhouseref25_written.j2]
   rw [if_neg hop, if_pos (by omega)]
  ·by_cases h5 : op = 5
   ·rw [if_pos h5] at hlen h
    rw [List.length_append, len_and] at hlen
    refine Tells.step (fun k => ?_) h
    simp only [customhouseref25_written.j3]
    rw [if_pos (by simpa using h5), lit_and, ba_size, ba_join, ba_size, ba_size, List.length_append, len_and, if_pos (by omega), if_pos (by omega), w1, ba_join]
   ·rw [if_neg h5] at hlen h
    rw [List.length_append, len_or] at hlen
    refine Tells.step (fun k => ?_) h
    simp only [customhouseref25_written.j3]
    rw [if_neg (by simpa using h5), if_pos (by omega), lit_or, ba_size, ba_join, ba_size, ba_size, List.length_append, len_or, if_pos (by omega), if_pos (by omega), w1, ba_join]
theorem written_j2 (op : Int) (nm : ByteArray) (c n : Int) (ks : List Fm) (i : Nat) (acc s : List UInt8) (r : ByteArray) (hlen : acc.length + (preT op i s).length ≤ 9000000000) (hi : i < 9000000000)
  (h : Tells (fun k => customhouseref25_written.l0 k (ba (acc ++ preT op i s)) ((i + 1 : Nat) : Int) op nm c n ks) r) :
  Tells (fun k => customhouseref25_written.j2 k (ba acc) i (ba s) op nm c n ks) r := by
 by_cases h4 : op = 4
 ·have w1 : wrap64 ((i : Int) + 1) = ((i + 1 : Nat) : Int) := by unfold wrap64; omega
  unfold preT at hlen h
  rw [if_pos h4] at hlen h
  rw [List.length_append, len_not] at hlen
  refine Tells.step (fun k => ?_) h
  simp only [customhouseref25_written.j2]
  rw [if_pos h4, lit_not, ba_size, ba_join, ba_size, ba_size, List.length_append, len_not, if_pos (by omega), if_pos (by omega), w1, ba_join]
 ·exact written_j3 op nm c n ks i acc s r h4 hlen hi h
theorem written_j1 (op : Int) (nm : ByteArray) (c n : Int) (ks : List Fm) (i : Nat) (acc : List UInt8) (kid : Fm) (s : List UInt8) (r : ByteArray) (b : Bool) (hb : b = decide (kid.f0 = 6 ∨ (kid.f0 = 5 ∧ op ≠ 6))) (hlen : acc.length + (preT op i (wrap op kid s)).length ≤ 9000000000) (hs : s.length ≤ 9000000000) (hi : i < 9000000000)
  (h : Tells (fun k => customhouseref25_written.l0 k (ba (acc ++ preT op i (wrap op kid s))) ((i + 1 : Nat) : Int) op nm c n ks) r) :
  Tells (fun k => customhouseref25_written.j1 k (ba acc) i (ba s) b op nm c n ks) r := by
 have g := written_j2 op nm c n ks i acc (wrap op kid s) r hlen hi h
 by_cases hw : kid.f0 = 6 ∨ (kid.f0 = 5 ∧ op ≠ 6)
 ·have e : wrap op kid s = 40 :: s ++ [41] := if_pos hw
  rw [e] at g
  refine Tells.step (fun k => ?_) g
  simp only [customhouseref25_written.j1]
  rw [if_pos (by rw [hb]; exact decide_eq_true hw), lit_ba1, lit_ba2, ba_size, ba_join, ba_size, ba_join, if_pos (by omega), if_pos (by simp only [List.length_append, List.length_singleton]; omega)]
  rfl
 ·have e : wrap op kid s = s := if_neg hw
  rw [e] at g
  refine Tells.step (fun k => ?_) g
  simp only [customhouseref25_written.j1]
  rw [if_neg (by rw [hb, decide_eq_false hw]; decide)]
theorem wrap_len (op : Int) (k : Fm) (s : List UInt8) : s.length ≤ (wrap op k s).length := by unfold wrap; split <;> simp <;> omega
theorem preT_len (op : Int) (i : Nat) (s : List UInt8) : s.length ≤ (preT op i s).length := by
 unfold preT
 split
 ·simp
 ·split
  ·exact Nat.le_refl _
  ·split <;> simp
theorem written_loop (op : Int) (nm : ByteArray) (c n : Int) (ks : List Fm) (hk : ks.length ≤ 1000000000)
  (ih : ∀ j (hj : j < ks.length), Tells (fun k => customhouseref25_written.f k ks[j].f0 ks[j].f1 ks[j].f2 ks[j].f3 ks[j].f4) (ba (textL ks[j]))) :
  ∀ d i : Nat, ∀ acc : List UInt8, i + d = ks.length → acc.length + (restT op i (ks.drop i)).length ≤ 9000000000 → Tells (fun k => customhouseref25_written.l0 k (ba acc) i op nm c n ks) (ba (acc ++ restT op i (ks.drop i))) := by
 intro d
 induction d with
 | zero =>
  intro i acc hi hl
  rw [List.drop_eq_nil_of_le (by omega)]
  simp only [restT, List.append_nil]
  refine Tells.step (fun k => ?_) Tells.same
  simp only [customhouseref25_written.l0]
  rw [if_neg (by omega)]
 | succ d ihd =>
  intro i acc hi hl
  have hlt : i < ks.length := by omega
  rw [List.drop_eq_getElem_cons hlt, restT] at hl ⊢
  rw [List.length_append] at hl
  rw [← List.append_assoc]
  have g := ihd (i + 1) (acc ++ preT op i (wrap op ks[i] (textL ks[i]))) (by omega) (by rw [List.length_append]; omega)
  have l1 := wrap_len op ks[i] (textL ks[i])
  have l2 := preT_len op i (wrap op ks[i] (textL ks[i]))
  have j := fun (b : Bool) (hb : b = decide (ks[i].f0 = 6 ∨ (ks[i].f0 = 5 ∧ op ≠ 6))) => written_j1 op nm c n ks i acc ks[i] (textL ks[i]) _ b hb (by omega) (by omega) (by omega) g
  refine Tells.step (h := fun k => (customhouseref25_written.f k ks[i].f0 ks[i].f1 ks[i].f2 ks[i].f3 ks[i].f4).bind fun t => if ks[i].f0 = 6 then customhouseref25_written.j1 k (ba acc) i t true op nm c n ks else if ks[i].f0 = 5 then customhouseref25_written.j1 k (ba acc) i t (op != 6) op nm c n ks else customhouseref25_written.j1 k (ba acc) i t false op nm c n ks) (fun k => ?_) ?_
  ·simp only [customhouseref25_written.l0]
   rw [if_pos (by omega), if_pos (by omega), rd_at ks i hlt]
  ·refine Tells.bind (ih i hlt) ?_
   by_cases h6 : ks[i].f0 = 6
   ·exact Tells.eq (fun k => if_pos h6) (j true (decide_eq_true (.inl h6)).symm)
   ·by_cases h5 : ks[i].f0 = 5
    ·refine Tells.eq (fun k => by rw [if_neg h6, if_pos h5]) (j (op != 6) ?_)
     by_cases h : op = 6
     ·rw [decide_eq_false (fun hh => hh.elim h6 (fun hh => hh.2 h))]; simp [h]
     ·rw [decide_eq_true (.inr ⟨h5, h⟩)]; simpa using h
    ·exact Tells.eq (fun k => by rw [if_neg h6, if_neg h5]) (j false (decide_eq_false (fun hh => hh.elim h6 (fun hh => h5 hh.1))).symm)
theorem written_tells (N : Nat) : ∀ x : Fm, size x ≤ N → N ≤ 10000000 → firstE badNode x = 0 → Tells (fun k => customhouseref25_written.f k x.f0 x.f1 x.f2 x.f3 x.f4) (ba (textL x)) := by
 induction N with
 | zero => intro x h; have := size_pos x; omega
 | succ N ih =>
  intro x hN hM hb
  have hlen := (lens_of (size x) x (Nat.le_refl _) hb).1
  obtain ⟨b1, b2⟩ := bad_of x hb
  obtain ⟨b3, b4⟩ := bad_node_of x b1
  have hs := size_eq x
  have hsl := sizes_len x.f4
  rw [textL_eq] at hlen ⊢
  by_cases h1 : x.f0 = 1
  ·rw [if_pos h1]
   refine Tells.step (h := fun _ => some (ba tTrue)) (fun k => ?_) Tells.same
   simp only [customhouseref25_written.f]
   rw [if_pos h1]
   rfl
  rw [if_neg h1] at hlen ⊢
  by_cases h2 : x.f0 = 2
  ·rw [if_pos h2]
   refine Tells.step (h := fun _ => some (ba tFalse)) (fun k => ?_) Tells.same
   simp only [customhouseref25_written.f]
   rw [if_neg h1, if_pos h2]
   rfl
  rw [if_neg h2] at hlen ⊢
  by_cases h3 : x.f0 = 3
  ·rw [if_pos h3] at hlen ⊢
   obtain ⟨n0, n1, _⟩ := b4 h3
   obtain ⟨q, hq⟩ : ∃ q : Nat, x.f3 = q := ⟨x.f3.toNat, by omega⟩
   have hc : 1 ≤ x.f2 ∧ x.f2 ≤ 6 := by
    unfold formedB at b3
    rw [if_pos h3] at b3
    simp only [Bool.and_eq_true, decide_eq_true_eq] at b3
    omega
   have hname : x.f1 = ba x.f1.data.toList := bytes_of rfl
   have hz : x.f1.size = x.f1.data.toList.length := by rw [Array.length_toList]; rfl
   obtain ⟨l, hl⟩ : ∃ l, x.f1.data.toList = l := ⟨_, rfl⟩
   rw [hl] at hname hz hlen ⊢
   have hcmp : customhouseref25_comparisons.f = some symB := rfl
   have hsy : rdOf ByteArray.empty symB x.f2 = ba (sym x.f2) := by
    have : x.f2 = 1 ∨ x.f2 = 2 ∨ x.f2 = 3 ∨ x.f2 = 4 ∨ x.f2 = 5 ∨ x.f2 = 6 := by omega
    rcases this with h | h | h | h | h | h <;> rw [h] <;> rfl
   have hdec := decimal_tells q (by omega)
   have hdl := Lib.itoa_length_le (q : Int) (by omega) (by omega)
   have sp : (⟨#[32]⟩ : ByteArray) = ba [32] := rfl
   rw [hq] at hlen ⊢
   simp only [List.length_append, List.length_cons] at hlen
   have e : ba (l ++ 32 :: sym x.f2 ++ 32 :: Lib.itoa (q : Int)) = ((((ba l ++ ba [32]) ++ ba (sym x.f2)) ++ ba [32]) ++ ba (Lib.itoa (q : Int))) := by
    rw [ba_join, ba_join, ba_join, ba_join]
    congr 1
    simp
   rw [e]
   refine Tells.step (h := fun k => (customhouseref01_Decimal.f k (q : Int)).bind fun t142 => if (((ba l ++ ba [32]) ++ ba (sym x.f2)) ++ ba [32]).size + t142.size ≤ 9223372036854775807 then some ((((ba l ++ ba [32]) ++ ba (sym x.f2)) ++ ba [32]) ++ t142) else none) (fun k => ?_) ?_
   ·simp only [customhouseref25_written.f]
    rw [if_neg h1, if_neg h2, if_pos h3, hname, ba_size, if_pos (by omega), hcmp]
    simp only [Option.bind_some]
    rw [if_pos (by omega), if_pos (show x.f2 < ((symB.length : Nat) : Int) by show x.f2 < ((7 : Nat) : Int); omega), hsy, sp]
    rw [ba_join, ba_size, ba_size, if_pos (by simp only [List.length_append, List.length_singleton]; omega), ba_join, ba_size, if_pos (by simp only [List.length_append, List.length_singleton]; omega)]
   ·refine Tells.bind hdec ?_
    refine Tells.eq (fun k => if_pos ?_) Tells.same
    rw [ba_join, ba_join, ba_join, ba_size, ba_size]
    simp only [List.length_append, List.length_singleton]
    omega
  rw [if_neg h3] at hlen ⊢
  have hsh : (x.f0 = 4 ∧ x.f4.length = 1) ∨ ((x.f0 = 5 ∨ x.f0 = 6) ∧ 2 ≤ x.f4.length) := by
   unfold formedB at b3
   rw [if_neg h3, if_neg (fun h => h.elim h1 h2)] at b3
   simp only [Bool.and_eq_true] at b3
   obtain ⟨_, b5⟩ := b3
   by_cases h4 : x.f0 = 4
   ·rw [if_pos h4] at b5
    exact .inl ⟨h4, by simpa using b5⟩
   ·rw [if_neg h4] at b5
    simp only [Bool.and_eq_true, Bool.or_eq_true, decide_eq_true_eq, beq_iff_eq] at b5
    exact .inr b5
  have hres : restT x.f0 0 x.f4 = (if x.f0 = 4 then tNot ++ (textsL x.f0 x.f4).headD [] else if x.f0 = 5 then Lib.join (textsL x.f0 x.f4) tAnd else Lib.join (textsL x.f0 x.f4) tOr) := by
   rcases hsh with ⟨h4, hl1⟩ | ⟨h56, hl2⟩
   ·rw [if_pos h4]
    obtain ⟨k, hk⟩ := List.length_eq_one_iff.1 hl1
    rw [hk, restT, restT, textsL, List.append_nil]
    unfold preT
    rw [if_pos h4]
    rfl
   ·obtain ⟨k, r, hk⟩ : ∃ k r, x.f4 = k :: r := by
     cases hq : x.f4 with
     | nil => rw [hq] at hl2; simp at hl2
     | cons k r => exact ⟨k, r, rfl⟩
    have h4 : ¬ x.f0 = 4 := by omega
    rw [hk, restT_join x.f0 h56 k r, if_neg h4]
    by_cases h5 : x.f0 = 5
    ·rw [if_pos h5, if_pos h5]
    ·rw [if_neg h5, if_neg h5]
  rw [← hres] at hlen ⊢
  have g := written_loop x.f0 x.f1 x.f2 x.f3 x.f4 (by omega) (fun j hj => ih _ (by have := size_mem x.f4 j hj; omega) (by omega) (firstEs_mem badNode x.f4 b2 j hj)) x.f4.length 0 [] (by omega) (by rw [List.drop_zero]; simp only [List.length_nil]; omega)
  rw [List.drop_zero, List.nil_append] at g
  refine Tells.step (fun k => ?_) g
  simp only [customhouseref25_written.f]
  rw [if_neg h1, if_neg h2, if_neg h3]
  rfl
theorem text_tells {x : Fm} (h : Held x) (hs : size x ≤ 10000000) : Tells (fun k => customhouseref25_Text.f k x.f0 x.f1 x.f2 x.f3 x.f4) (ba (textF x).1, (textF x).2) := by
 unfold textF
 refine Tells.eq (h := fun k => (customhouseref25_Large.f k x.f0 x.f1 x.f2 x.f3 x.f4).bind fun t148 => (if t148 = true then (some ((⟨#[]⟩ : ByteArray), (1 : Int))) else ((customhouseref25_writable.f k x.f0 x.f1 x.f2 x.f3 x.f4).bind fun t149 => (if t149 = true then ((customhouseref25_written.f k x.f0 x.f1 x.f2 x.f3 x.f4).bind fun t150 => (some (t150, 0))) else (some ((⟨#[]⟩ : ByteArray), 1)))))) (fun k => rfl) ?_
 refine Tells.bind (large_tells h.low (by omega)) ?_
 cases hL : isLarge x
 ·rw [if_neg (by decide)]
  refine Tells.eq (fun k => if_neg (by decide)) (Tells.bind (writable_tells h) ?_)
  by_cases h0 : firstE badNode x = 0
  ·rw [if_pos h0]
   exact Tells.eq (fun k => by rw [decide_eq_true h0, if_pos rfl]) (Tells.bind (written_tells (size x) x (Nat.le_refl _) hs h0) Tells.same)
  ·rw [if_neg h0]
   exact Tells.eq (fun k => by rw [decide_eq_false h0, if_neg (by decide)]; rfl) Tells.same
 ·rw [if_pos rfl]
  exact Tells.eq (fun k => if_pos rfl) Tells.same
end Go.Proofs.YtkgmempifggajaaGreatDoor.PLawFormulaTextsAsReference
/- FormulaTextsAsReference, walked. -/
namespace Go.Proofs.YtkgmempifggajaaGreatDoor.PLawFormulaTextsAsReference
open Go.RowKit Go.Proofs.YtkgmempifggajaaGreatDoorW.PrintWords Go.Proofs.YtkgmempifggajaaGreatDoorW.PrintLast Go.Proofs.YtkgmempifggajaaGreatDoorW.PrintMore
open Go.Proofs.YtkgmempifggajaaGreatDoor.P
set_option linter.unusedVariables false
set_option linter.unusedSimpArgs false
theorem parseF_low (s : ByteArray) : Low (parseF s).1 := by
 refine low_of_size 100000 _ ?_ (by decide)
 unfold parseF
 split
 ·have h := eitherP_small (oneP_small s.size ((lex s.data.toList).1.length + 1)) ⟨(lex s.data.toList).1, 0, 0⟩
  have hl := lex_len s.data.toList
  simp only [endP]
  split
  ·simp only at h ⊢; omega
  ·show size z24 ≤ _; rw [size_eq]; simp [z24, sizes]
 ·show size z24 ≤ _; rw [size_eq]; simp [z24, sizes]
abbrev fmC (x : Fm) (A : Option Addr) (c : Nat) : Array Value := #[.int .i64 x.f0, .string x.f1, .int .i64 x.f2, .int .i64 x.f3, .slice A x.f4.length c]
structure XP (w0 w : World) (b1 : Nat) (x : Fm) (A : Option Addr) (c : Nat) : Prop where
 f : w.heap[b1]? = some (.cells (fmC x A c) 24 (0, 0))
 fC : Kd.C kFm w A x.f4.length x.f4
 fl : x.f4.length ≤ c
 tab : Tab 1000000 w
 old : Below w0.heap.size w0 w
theorem XP.below {w0 w w1 : World} {b1 : Nat} {x : Fm} {A : Option Addr} {c : Nat} (h : XP w0 w b1 x A c) (hb : Below w.heap.size w w1) : XP w0 w1 b1 x A c :=
 ⟨(hb.block _ (lt_of_block h.f)).trans h.f, Kd.C_below h.fC hb, h.fl, h.tab.below hb (Nat.le_refl _), h.old.trans (hb.mono h.old.size)⟩
set_option maxHeartbeats 8000000 in
set_option maxRecDepth 100000 in
theorem txr_walk (k : Nat) (x : Fm) (t : ByteArray) (A : Option Addr) (c : Nat) (w : World) (s1 s2 : Bool) (hA : Kd.C kFm w A x.f4.length x.f4) (hc : x.f4.length ≤ c) (hT : Tab 1000000 w) (htz : t.size ≤ 9223372036854775807)
  (h1 : customhouseref25_Small.f k x.f0 x.f1 x.f2 x.f3 x.f4 300 = some s1) (h2 : customhouselaw25_short.f k x.f0 x.f1 x.f2 x.f3 x.f4 = some s2)
  (g1 : s1 = true → size x ≤ 300 ∧ ∃ q, customhouseref25_Text.f q x.f0 x.f1 x.f2 x.f3 x.f4 = some (ba (textF x).1, (textF x).2))
  (g2 : ∃ q, customhouseref25_Same.f q (parseF t).1.f0 (parseF t).1.f1 (parseF t).1.f2 (parseF t).1.f3 (parseF t).1.f4 (parseF t).1.f0 (parseF t).1.f1 (parseF t).1.f2 (parseF t).1.f3 (parseF t).1.f4 = some true) :
  Calls Tryz.prog 4 #[.agg (fmC x A c), .string t] w fun e w' => e = .returned (.bool true) ∧ Below w.heap.size w w' := by
 have HP := Aside0.mk (show XP w (w.alloc (.cells (fmC x A c) 24)) w.heap.size x A c from
  ⟨by (repeat (first | (refine blk_new _ _ ?_; first | rfl | (simp; done)) | refine blk_alloc_old ?_ _ | refine blk_drew_old ?_ | refine blk_drewN_old ?_ _ | assumption)), Kd.C_below hA (below_alloc (Below.refl _ _) _), hc, hT.below (below_alloc (Below.refl _ _) _) (Nat.le_refl _), below_alloc (Below.refl _ _) _⟩)
 have H1 := Aside0.mk h1
 have H2 := Aside0.mk h2
 have G1 := Aside0.mk g1
 have G2 := Aside0.mk g2
 have HTZ := Aside0.mk htz
 clear hA hT h1 h2 g1 g2 htz
 go_enter Tryz.func4, Tryz.ntmps4
 go_wp2_with fail
 refine (head_calls _).mono ?_
 rintro e w1 ⟨rfl, hb⟩
 replace HP := Aside0.mk (HP.out.below hb)
 clear hb
 have c0 := blk_cell HP.out.f 0
 have c1 := blk_cell HP.out.f 1
 have c2 := blk_cell HP.out.f 2
 have c3 := blk_cell HP.out.f 3
 have c4 := blk_cell HP.out.f 4
 go_wp2_with fail
 refine (customhouseref25_Small.calls k x.f0 x.f1 x.f2 x.f3 A c x.f4 300 s1 _ HP.out.fC HP.out.fl H1.out).mono ?_
 rintro e w2 ⟨rfl, hb⟩
 replace HP := Aside0.mk (HP.out.below hb)
 clear hb c0 c1 c2 c3 c4
 cases s1
 ·go_wp2
  go_ret
  exact ⟨rfl, HP.out.old⟩
 obtain ⟨hsz, kt, hkt⟩ := G1.out (by trivial)
 have HSZ := Aside0.mk hsz
 have HKT := Aside0.mk hkt
 clear hsz hkt G1
 have c0 := blk_cell HP.out.f 0
 have c1 := blk_cell HP.out.f 1
 have c2 := blk_cell HP.out.f 2
 have c3 := blk_cell HP.out.f 3
 have c4 := blk_cell HP.out.f 4
 go_wp2_with fail
 refine (customhouselaw25_short.calls k x.f0 x.f1 x.f2 x.f3 A c x.f4 s2 _ HP.out.fC HP.out.fl H2.out).mono ?_
 rintro e w3 ⟨rfl, hb⟩
 replace HP := Aside0.mk (HP.out.below hb)
 clear hb c0 c1 c2 c3 c4
 cases s2
 ·go_wp2
  go_ret
  exact ⟨rfl, HP.out.old⟩
 by_cases h3 : 3000 < t.size
 ·have b3 : decide ((3000 : Int) < (t.size : Int)) = true := decide_eq_true (by omega)
  go_wp2
  go_ret
  exact ⟨rfl, HP.out.old⟩
 have b3 : decide ((3000 : Int) < (t.size : Int)) = false := decide_eq_false (by omega)
 have c0 := blk_cell HP.out.f 0
 have c1 := blk_cell HP.out.f 1
 have c2 := blk_cell HP.out.f 2
 have c3 := blk_cell HP.out.f 3
 have c4 := blk_cell HP.out.f 4
 go_wp2_with fail
 refine (text_any x A c _ HP.out.fC HP.out.fl (Nat.le_trans HSZ.out (by decide)) HP.out.tab).mono ?_
 rintro e w4 ⟨rfl, hb⟩
 replace HP := Aside0.mk (HP.out.below hb)
 clear hb c0 c1 c2 c3 c4
 obtain ⟨q, hq⟩ : ∃ q, textF x = q := ⟨_, rfl⟩
 rw [hq] at HKT ⊢
 clear hq
 obtain ⟨tx, te⟩ := q
 obtain ⟨bt_, hbt⟩ : ∃ b, ba tx = b := ⟨_, rfl⟩
 simp only at HKT ⊢
 rw [hbt] at HKT ⊢
 clear hbt
 have c0 := blk_cell HP.out.f 0
 have c1 := blk_cell HP.out.f 1
 have c2 := blk_cell HP.out.f 2
 have c3 := blk_cell HP.out.f 3
 have c4 := blk_cell HP.out.f 4
 go_wp2_with fail
 refine (customhouseref25_Text.calls kt x.f0 x.f1 x.f2 x.f3 A c x.f4 bt_ te _ HP.out.fC HP.out.fl HKT.out).mono ?_
 rintro e w5 ⟨rfl, hb⟩
 replace HP := Aside0.mk (HP.out.below hb)
 clear hb c0 c1 c2 c3 c4
 go_wp2_with fail
 refine (parse_calls t _ HTZ.out).mono ?_
 rintro e w6 ⟨v6, rfl, hR, hb⟩
 obtain ⟨A6, c6, rfl⟩ := Kd.R_slice hR
 obtain ⟨q, hq⟩ : ∃ q, parseF t = q := ⟨_, rfl⟩
 have HQQ := Aside0.mk hq
 rw [hq] at hR G2 ⊢
 clear hq
 obtain ⟨z, i, m⟩ := q
 simp only at hR G2 ⊢
 replace HP := Aside0.mk (HP.out.below (below_alloc hb (.cells (fmC z A6 c6) 24)))
 have HC6 := Aside0.mk (Kd.R_reads' (Kd.R_alloc hR (.cells (fmC z A6 c6) 24))).2
 have HZ6 := Aside0.mk (blk_new w6 (.cells (fmC z A6 c6) 24) rfl)
 clear hR hb
 go_wp2_with fail
 refine (rparse_calls t _ HTZ.out).mono ?_
 rintro e w7 ⟨v7, he7, hR, hb⟩
 rw [HQQ.out] at he7 hR
 subst he7
 simp only at hR ⊢
 obtain ⟨A7, c7, rfl⟩ := Kd.R_slice hR
 have hz : w6.heap.size < w7.heap.size := by have := hb.size; simp at this; omega
 replace HP := Aside0.mk (HP.out.below (below_alloc hb (.cells (fmC z A7 c7) 24)))
 replace HC6 := Aside0.mk (And.intro HC6.out.1 (Kd.C_below HC6.out.2 (below_alloc hb (.cells (fmC z A7 c7) 24))))
 have HC7 := Aside0.mk (Kd.R_reads' (Kd.R_alloc hR (.cells (fmC z A7 c7) 24))).2
 have HZ7 := Aside0.mk (blk_new w7 (.cells (fmC z A7 c7) 24) rfl)
 replace HZ6 := Aside0.mk (blk_alloc_old ((hb.block _ (by simp)).trans HZ6.out) (.cells (fmC z A7 c7) 24))
 clear hR hb
 obtain ⟨ks, hks⟩ := G2.out
 have HKS := Aside0.mk hks
 clear hks G2
 have u0 := blk_cell HZ6.out 0
 have u1 := blk_cell HZ6.out 1
 have u2 := blk_cell HZ6.out 2
 have u3 := blk_cell HZ6.out 3
 have u4 := blk_cell HZ6.out 4
 have v0 := blk_cell HZ7.out 0
 have v1 := blk_cell HZ7.out 1
 have v2 := blk_cell HZ7.out 2
 have v3 := blk_cell HZ7.out 3
 have v4 := blk_cell HZ7.out 4
 go_wp2_with fail
 refine (customhouseref25_Same.calls ks z.f0 z.f1 z.f2 z.f3 A6 c6 z.f4 z.f0 z.f1 z.f2 z.f3 A7 c7 z.f4 true _ HC6.out.2 HC6.out.1 HC7.out.2 HC7.out.1 HKS.out).mono ?_
 rintro e w8 ⟨rfl, hb⟩
 replace HP := Aside0.mk (HP.out.below hb)
 clear hb u0 u1 u2 u3 u4 v0 v1 v2 v3 v4
 go_wp2
 go_ret
 exact ⟨rfl, HP.out.old⟩
theorem txr_card {w : World} (x : Fm) (hx : Held x) (A : Option Addr) (c : Nat) (hA : Kd.C kFm w A x.f4.length x.f4) (hc : x.f4.length ≤ c) (t : ByteArray) (htz : t.size ≤ 9223372036854775807) (_ : World) (hT : Tab 1000000 w) :
  Calls Tryz.prog 4 #[.agg #[.int .i64 x.f0, .string x.f1, .int .i64 x.f2, .int .i64 x.f3, .slice A x.f4.length c], .string t] w fun e w' => e = .returned (.bool true) ∧ Below w.heap.size w w' := by
 obtain ⟨k1, g1⟩ := small_tells x hx.low 300 (by decide) (by decide)
 obtain ⟨k3, q1, g3⟩ := short_all hx.low
 have e1 := g1 (max k1 k3) (by omega)
 have e3 := g3 (max k1 k3) (by omega)
 refine txr_walk _ x t A c w _ q1 hA hc hT htz e1 e3 (fun h => ?_) ?_
 ·have h2 := of_decide_eq_true h
  exact ⟨by omega, (text_tells hx (by omega)).run⟩
 ·have g := (same_tells (parseF_low t) (parseF t).1).run
  rw [sameB_refl] at g
  exact g
end Go.Proofs.YtkgmempifggajaaGreatDoor.PLawFormulaTextsAsReference
