/- What the statement's proof builds on: RdB, RdN, Parse, HeadA, HeadB, HeadC, Head, SimLaw. -/
import Derived.Test.YtkgmempifggajaaGreatDoorGF14
import Derived.Deep.RegionHeld3
import Derived.Test.YtkgmempifggajaaGreatDoorGF11
/- The reference's (*Reader).and and (*Reader).Formula. (Printed by wip/tools/gen_rlist.py.) -/
namespace Go.Proofs.YtkgmempifggajaaGreatDoor.P
open Go.RowKit Go.Proofs.YtkgmempifggajaaGreatDoorW.PrintWords Go.Proofs.YtkgmempifggajaaGreatDoorW.PrintLast Go.Proofs.YtkgmempifggajaaGreatDoorW.PrintMore
set_option linter.unusedVariables false
set_option linter.unusedSimpArgs false
variable {Z : RZ}
def RPost (Z : RZ) (b : Nat) (n : Int) (w : World) (x : Fm) (s : PS) (e : Ending) (w' : World) : Prop :=
 ∃ v, e = .returned (.agg #[.int .i64 x.f0, .string x.f1, .int .i64 x.f2, .int .i64 x.f3, v]) ∧ Kd.R kFm 24 w' w.heap.size (fun _ => True) v x.f4 ∧ IsR Z w' b n s ∧ Same (OnlyP b) w w'
def At_rnot (Z : RZ) (L : Nat) (b : Nat) (n : Int) (part : PS → Fm × PS) : Prop := ∀ (s : PS) (w : World), s.toks.length ≤ L → IsR Z w b n s → Calls Tryz.prog 107 #[.pointer (some ⟨b, 0, none⟩)] w (RPost Z b n w (part s).1 (part s).2)
def At_rand (Z : RZ) (L : Nat) (b : Nat) (n : Int) (part : PS → Fm × PS) : Prop := ∀ (s : PS) (w : World), s.toks.length ≤ L → IsR Z w b n s → Calls Tryz.prog 84 #[.pointer (some ⟨b, 0, none⟩)] w (RPost Z b n w (part s).1 (part s).2)
def At_rformula (Z : RZ) (L : Nat) (b : Nat) (n : Int) (part : PS → Fm × PS) : Prop := ∀ (s : PS) (w : World), s.toks.length ≤ L → IsR Z w b n s → Calls Tryz.prog 59 #[.pointer (some ⟨b, 0, none⟩)] w (RPost Z b n w (part s).1 (part s).2)
theorem seesP_yes {word : ByteArray} {s : PS} (h : seesP word s = true) : ∃ t r, s.toks = t :: r ∧ t.f0 = 1 ∧ (t.f3.toList == word.toList) = true := by
 unfold seesP at h
 split at h
 ·cases h
 ·rename_i t r hq
  rw [Bool.and_eq_true] at h
  exact ⟨t, r, hq, by simpa using h.1, h.2⟩
theorem seesP_no {word : ByteArray} {s : PS} (h : seesP word s = false) : ∀ t r, s.toks = t :: r → ¬ (t.f0 = 1 ∧ (t.f3.toList == word.toList) = true) := by
 intro t r hq hh
 unfold seesP at h
 rw [hq] at h
 simp only [hh.1, hh.2] at h
 cases h
set_option maxHeartbeats 4000000 in
set_option maxRecDepth 100000 in
theorem rand_calls (L : Nat) (hL : L ≤ 100000) (b : Nat) (n : Int) (part : PS → Fm × PS) (hp : At_rnot Z L b n part) (hsh : Shrinks part) : At_rand Z L b n (listP part 5 wAnd) := by
 intro s w hs h
 have hlt := h.lt
 have H := Aside0.mk h
 have HP := Aside0.mk hp
 have HSH := Aside0.mk hsh
 have HSL := Aside0.mk hs
 have HLL := Aside0.mk hL
 obtain ⟨out, hout⟩ : ∃ out, listP part 5 wAnd s = out := ⟨_, rfl⟩
 have HOUT := Aside0.mk (show listP part 5 wAnd s = out from hout)
 rw [hout]
 clear h hp hsh hs hL hout
 go_enter Tryz.func84, Tryz.ntmps84
 go_wp2_with fail
 refine (HP.out s _ HSL.out (H.out.below (below_alloc (Below.refl _ _) _))).mono ?_
 rintro e w1 ⟨v1, rfl, hR, hI, hS⟩
 have hz : w.heap.size < w1.heap.size := by have := hS.size; simp at this; omega
 have HI := Aside0.mk hI
 have HS := Aside0.mk (show Same (OnlyP b) w w1 from ((Same.refl (OnlyP b) w).alloc _).trans hS)
 have HRES := Aside0.mk (show w1.heap[w.heap.size]? = some (.cells #[.int .i64 0, .string ⟨#[]⟩, .int .i64 0, .int .i64 0, .slice none 0 0] 24 (0, 0)) from (hS.block _ (by simp) (by unfold OnlyP; omega)).trans (by (repeat (first | (refine blk_new _ _ ?_; first | rfl | (simp; done)) | refine blk_alloc_old ?_ _ | refine blk_drew_old ?_ | refine blk_drewN_old ?_ _ | assumption))))
 have hsz0 : (w.alloc (.cells #[.int .i64 0, .string ⟨#[]⟩, .int .i64 0, .int .i64 0, .slice none 0 0] 24)).heap.size = w.heap.size + 1 := by simp
 have HR := Aside0.mk (show Kd.R kFm 24 w1 w.heap.size (fun q => q ≠ w.heap.size) v1 (part s).1.f4 from R_new_ok (base := w.heap.size + 1) (by rw [← hsz0]; exact hR) (by omega) (fun k hk => by omega))
 clear hR hI hS hsz0
 have HSN := Aside0.mk (HSH.out s)
 have HOUT2 := Aside0.mk (show out = (if (listLoop part wAnd (part s).2.toks.length [(part s).1] (part s).2).1.length = 1 then (listLoop part wAnd (part s).2.toks.length [(part s).1] (part s).2).1.headD z24 else ⟨5, ⟨#[]⟩, 0, 0, (listLoop part wAnd (part s).2.toks.length [(part s).1] (part s).2).1⟩, (listLoop part wAnd (part s).2.toks.length [(part s).1] (part s).2).2) from HOUT.out.symm)
 obtain ⟨p0, hp0⟩ : ∃ p0, part s = p0 := ⟨_, rfl⟩
 rw [hp0] at HI HR HSN HOUT2 ⊢
 clear hp0 HOUT
 go_wp2
 have hbd : p0.2.toks.length ≤ L := Nat.le_trans HSN.out HSL.out
 have hLL := HLL.out
 go_loopw [3] (fun v9 wr => ∃ (f : Nat) (acc : List Fm) (st : PS), Aside0 (Kd.R kFm 24 wr w.heap.size (fun q => q ≠ w.heap.size) v9 acc) ∧ Aside0 (IsR Z wr b n st) ∧ Aside0 (Same (OnlyP b) w wr) ∧ Aside0 (wr.heap[w.heap.size]? = some (.cells #[.int .i64 0, .string ⟨#[]⟩, .int .i64 0, .int .i64 0, .slice none 0 0] 24 (0, 0))) ∧
   Aside0 (listLoop part wAnd p0.2.toks.length [p0.1] p0.2 = listLoop part wAnd f acc st) ∧ Aside0 (st.toks.length ≤ f) ∧ acc.length + st.toks.length ≤ L + 1) (fun v9 _ => L + 2 - sliceLen v9)
 case atStart =>
  refine ⟨p0.2.toks.length, [p0.1], p0.2, ⟨?_⟩, ⟨HI.out.below (below_alloc (Below.refl _ _) _)⟩, ⟨HS.out.alloc _⟩, ⟨blk_alloc_old HRES.out _⟩, ⟨rfl⟩, ⟨Nat.le_refl _⟩, by simp; omega⟩
  exact R_lit1 (okp := fun q => q ≠ w.heap.size) (kFm_mkM_ _ _ _ p0.1 HR.out) (fun k hk => hk) (by omega) (by omega)
 case round =>
  obtain ⟨f, acc, st, HR2, HI2, HS2, HRES2, HQ, HF, hacc⟩ := hrel
  clear HR HI HS HRES
  obtain ⟨A0, c0, rfl⟩ := Kd.R_slice HR2.out
  have hltr := lt_of_block HRES2.out
  have hstop : ∀ (q : listLoop part wAnd f acc st = (acc, st)), out = (if acc.length = 1 then acc.headD z24 else ⟨5, ⟨#[]⟩, 0, 0, acc⟩, st) := fun q => by
   rw [HOUT2.out, HQ.out, q]
  have HSTOP := Aside0.mk hstop
  clear hstop
  have hacl : acc.length ≤ 100001 := by omega
  go_wp2_with fail
  refine (rsees_calls b n st wAnd wr HI2.out).mono ?_
  rintro e w2 ⟨rfl, hI, hS⟩
  have HI3 := Aside0.mk hI
  have HS3 := Aside0.mk (HS2.out.trans hS)
  have HR3 := Aside0.mk (R_same HR2.out hS (fun k hk => by unfold OnlyP; omega))
  have hz2 : wr.heap.size ≤ w2.heap.size := hS.size
  have HRES3 := Aside0.mk ((hS.block _ hltr (by unfold OnlyP; omega)).trans HRES2.out)
  have hltr3 := lt_of_block HRES3.out
  clear hI hS HI2 HS2 HR2 HRES2
  cases hse : seesP wAnd st
  ·have HO := Aside0.mk (HSTOP.out (listLoop_stop part wAnd f acc _ (seesP_no hse)))
   clear HSTOP hse
   have hf0 := blk_cell HRES3.out 0
   have hg0 := blk_frozen HRES3.out 0
   have hf1 := blk_cell HRES3.out 1
   have hg1 := blk_frozen HRES3.out 1
   have hf2 := blk_cell HRES3.out 2
   have hg2 := blk_frozen HRES3.out 2
   have hf3 := blk_cell HRES3.out 3
   have hg3 := blk_frozen HRES3.out 3
   have hf4 := blk_cell HRES3.out 4
   have hg4 := blk_frozen HRES3.out 4
   have hbw : ∀ k, k ≤ b → k ≠ w.heap.size := fun k hk => by omega
   have HBW := Aside0.mk hbw
   clear hbw
   by_cases hl1 : acc.length = 1
   ·obtain ⟨x, rfl⟩ : ∃ x, acc = [x] := List.length_eq_one_iff.1 hl1
    obtain ⟨g, c1, v4, hg, q0, q1, q2, q3, q4, HR4⟩ := R_first HR3.out
    obtain ⟨A4, c4, rfl⟩ := Kd.R_slice HR4
    injection hg with hgA _ hgc
    subst hgA
    have HO1 := Aside0.mk (HO.out.trans (congrArg (fun y => (y, _)) (if_pos hl1)))
    clear hl1 HO hgc
    have hglt : g < w2.heap.size := lt_of_cell q0
    have HR5 := Aside0.mk HR4
    clear HR4
    go_wp2
    refine bodyPost_ret (results_cell_row rfl _ _ w.heap.size 24 #[.int .i64 x.f0, .string x.f1, .int .i64 x.f2, .int .i64 x.f3, .slice A4 x.f4.length c4] (0, 0) _ rfl (put5 HRES3.out _ _ _ _ _) Tryz.underlying24 rfl (by kernel_rfl)) rfl ?_
    rw [HO1.out]
    refine ⟨.slice A4 x.f4.length c4, rfl, Kd.R_mono (Kd.R_step HR5.out (fun k hk _ => put5_other _ _ _ _ _ _ _ hk)) (fun _ _ => trivial), HI3.out.keep (fun k hk => put5_other _ _ _ _ _ _ _ (HBW.out k hk)), ?_⟩
    exact (((((HS3.out.setNew (p := ⟨w.heap.size, 0, none⟩) (Nat.le_refl _) _).setNew (p := ⟨w.heap.size, 1, none⟩) (Nat.le_refl _) _).setNew (p := ⟨w.heap.size, 2, none⟩) (Nat.le_refl _) _).setNew (p := ⟨w.heap.size, 3, none⟩) (Nat.le_refl _) _).setNew (p := ⟨w.heap.size, 4, none⟩) (Nat.le_refl _) _)
   ·have bl : ((acc.length : Int) == 1) = false := by simpa using by omega
    have HO1 := Aside0.mk (HO.out.trans (congrArg (fun y => (y, _)) (if_neg hl1)))
    clear hl1 HO
    go_wp2
    refine bodyPost_ret (results_cell_row rfl _ _ w.heap.size 24 #[.int .i64 5, .string ⟨#[]⟩, .int .i64 0, .int .i64 0, .slice A0 acc.length c0] (0, 0) _ rfl (put5 HRES3.out _ _ _ _ _) Tryz.underlying24 rfl (by kernel_rfl)) rfl ?_
    rw [HO1.out]
    refine ⟨.slice A0 acc.length c0, rfl, Kd.R_mono (Kd.R_step HR3.out (fun k hk _ => put5_other _ _ _ _ _ _ _ hk)) (fun _ _ => trivial), HI3.out.keep (fun k hk => put5_other _ _ _ _ _ _ _ (HBW.out k hk)), ?_⟩
    exact (((((HS3.out.setNew (p := ⟨w.heap.size, 0, none⟩) (Nat.le_refl _) _).setNew (p := ⟨w.heap.size, 1, none⟩) (Nat.le_refl _) _).setNew (p := ⟨w.heap.size, 2, none⟩) (Nat.le_refl _) _).setNew (p := ⟨w.heap.size, 3, none⟩) (Nat.le_refl _) _).setNew (p := ⟨w.heap.size, 4, none⟩) (Nat.le_refl _) _)
  ·obtain ⟨t, r, hq, h1, h2⟩ := seesP_yes hse
   obtain ⟨toks, err, at_⟩ := st
   simp only at hq hacc
   subst hq
   obtain ⟨I, hI1, hI2, hc1, hf1, HN, HNS⟩ := HI3.out.next
   have HN2 := Aside0.mk HN
   have HNS2 := Aside0.mk HNS
   clear HN HNS hse
   obtain ⟨f, rfl⟩ : ∃ g, f = g + 1 := ⟨f - 1, by have := HF.out; simp only [List.length_cons] at this; omega⟩
   have HQ2 := Aside0.mk (show listLoop part wAnd p0.2.toks.length [p0.1] p0.2 = listLoop part wAnd f (acc ++ [(part ⟨r, err, at_⟩).1]) (part ⟨r, err, at_⟩).2 by
    rw [HQ.out, listLoop_go part wAnd f acc t r err at_ h1 h2])
   have HF2 := Aside0.mk (show (part ⟨r, err, at_⟩).2.toks.length ≤ f by
    have := HF.out; have := HSH.out ⟨r, err, at_⟩; simp only [List.length_cons] at *; omega)
   have hsh := HSH.out ⟨r, err, at_⟩
   simp only [List.length_cons] at hsh hacc
   clear HSTOP HQ HF h1 h2
   go_wp2_with fail
   refine (HP.out ⟨r, err, at_⟩ _ (by show r.length ≤ L; omega) HN2.out).mono ?_
   rintro e w4 ⟨v2, rfl, hR, hI, hS⟩
   obtain ⟨A2, c2, rfl⟩ := Kd.R_slice hR
   have hzs : (w2.setCell ⟨b, 1, none⟩ (.int .i64 ((I : Int) + 1))).heap.size = w2.heap.size := by simp [World.setCell]
   have hz3 : w2.heap.size ≤ w4.heap.size := by have := hS.size; omega
   have HSr := Aside0.mk (HNS2.out.trans hS)
   have HS4 := Aside0.mk (HS3.out.trans HSr.out)
   have HI4 := Aside0.mk hI
   have HR4 := Aside0.mk (R_new_ok (base' := w.heap.size) (ok := fun q => w2.heap.size ≤ q) hR (by omega) (fun k hk => by omega))
   have HR5 := Aside0.mk (R_same HR3.out HSr.out (fun k hk => by unfold OnlyP; omega))
   have HOW := Aside0.mk (show ∀ k, (Value.slice A0 acc.length c0).ownBlock = some k → k < w2.heap.size from fun k hk => by
    obtain ⟨inner, ho⟩ := Kd.R_own HR3.out
    exact own_lt ho k hk)
   have HRES4 := Aside0.mk ((HSr.out.block _ hltr3 (by unfold OnlyP; omega)).trans HRES3.out)
   obtain ⟨p, hp⟩ : ∃ p, part ⟨r, err, at_⟩ = p := ⟨_, rfl⟩
   rw [hp] at HI4 HR4 HQ2 HF2 hsh ⊢
   clear hp hR hI hS hc1 hf1 HN2 HNS2 hzs
   go_wp2_with (at_builtin; go_loud (refine Kd.R_append kFm (w0 := w4) w.heap.size rfl _ _ 22 24 _ 64 rfl Tryz.underlying22 info_fm rfl (by decide) (by decide) (.slice A0 acc.length c0) acc p.1 [.int .i64 p.1.f0, .string p.1.f1, .int .i64 p.1.f2, .int .i64 p.1.f3, .slice A2 p.1.f4.length c2] (fun q => q ≠ w.heap.size) (fun q => w2.heap.size ≤ q) rfl (by simp [Act.eval]) (kFm_mkM_ _ _ _ p.1 HR4.out) (fun k hk => ⟨by omega, fun he => by have := HOW.out k he.symm; omega⟩) (fun q hq => by omega) HR5.out (Below.refl _ _) (by omega) (by omega) ?_); intro v5 w5 hR hBB hG hat)
   have HR6 := Aside0.mk hR
   have HB6 := Aside0.mk hBB
   have HRES6 := Aside0.mk ((hG.block _ (by omega) (fun e => HR5.out.1 _ e.symm rfl)).trans HRES4.out)
   clear hR hBB hG hat
   go_wp2
   go_roundw
   case rel =>
    exact ⟨f, acc ++ [p.1], p.2, HR6, ⟨HI4.out.keep (fun k hk => HB6.out.block k (by omega))⟩, ⟨same_base HS4.out HB6.out⟩, HRES6, HQ2, HF2, by simp; omega⟩
   case measure =>
    obtain ⟨A5, c5, rfl⟩ := Kd.R_slice HR6.out
    simp [sliceLen]; omega
set_option maxHeartbeats 4000000 in
set_option maxRecDepth 100000 in
theorem rformula_calls (L : Nat) (hL : L ≤ 100000) (b : Nat) (n : Int) (part : PS → Fm × PS) (hp : At_rand Z L b n part) (hsh : Shrinks part) : At_rformula Z L b n (listP part 6 wOr) := by
 intro s w hs h
 have hlt := h.lt
 have H := Aside0.mk h
 have HP := Aside0.mk hp
 have HSH := Aside0.mk hsh
 have HSL := Aside0.mk hs
 have HLL := Aside0.mk hL
 obtain ⟨out, hout⟩ : ∃ out, listP part 6 wOr s = out := ⟨_, rfl⟩
 have HOUT := Aside0.mk (show listP part 6 wOr s = out from hout)
 rw [hout]
 clear h hp hsh hs hL hout
 go_enter Tryz.func59, Tryz.ntmps59
 go_wp2_with fail
 refine (HP.out s _ HSL.out (H.out.below (below_alloc (Below.refl _ _) _))).mono ?_
 rintro e w1 ⟨v1, rfl, hR, hI, hS⟩
 have hz : w.heap.size < w1.heap.size := by have := hS.size; simp at this; omega
 have HI := Aside0.mk hI
 have HS := Aside0.mk (show Same (OnlyP b) w w1 from ((Same.refl (OnlyP b) w).alloc _).trans hS)
 have HRES := Aside0.mk (show w1.heap[w.heap.size]? = some (.cells #[.int .i64 0, .string ⟨#[]⟩, .int .i64 0, .int .i64 0, .slice none 0 0] 24 (0, 0)) from (hS.block _ (by simp) (by unfold OnlyP; omega)).trans (by (repeat (first | (refine blk_new _ _ ?_; first | rfl | (simp; done)) | refine blk_alloc_old ?_ _ | refine blk_drew_old ?_ | refine blk_drewN_old ?_ _ | assumption))))
 have hsz0 : (w.alloc (.cells #[.int .i64 0, .string ⟨#[]⟩, .int .i64 0, .int .i64 0, .slice none 0 0] 24)).heap.size = w.heap.size + 1 := by simp
 have HR := Aside0.mk (show Kd.R kFm 24 w1 w.heap.size (fun q => q ≠ w.heap.size) v1 (part s).1.f4 from R_new_ok (base := w.heap.size + 1) (by rw [← hsz0]; exact hR) (by omega) (fun k hk => by omega))
 clear hR hI hS hsz0
 have HSN := Aside0.mk (HSH.out s)
 have HOUT2 := Aside0.mk (show out = (if (listLoop part wOr (part s).2.toks.length [(part s).1] (part s).2).1.length = 1 then (listLoop part wOr (part s).2.toks.length [(part s).1] (part s).2).1.headD z24 else ⟨6, ⟨#[]⟩, 0, 0, (listLoop part wOr (part s).2.toks.length [(part s).1] (part s).2).1⟩, (listLoop part wOr (part s).2.toks.length [(part s).1] (part s).2).2) from HOUT.out.symm)
 obtain ⟨p0, hp0⟩ : ∃ p0, part s = p0 := ⟨_, rfl⟩
 rw [hp0] at HI HR HSN HOUT2 ⊢
 clear hp0 HOUT
 go_wp2
 have hbd : p0.2.toks.length ≤ L := Nat.le_trans HSN.out HSL.out
 have hLL := HLL.out
 go_loopw [3] (fun v9 wr => ∃ (f : Nat) (acc : List Fm) (st : PS), Aside0 (Kd.R kFm 24 wr w.heap.size (fun q => q ≠ w.heap.size) v9 acc) ∧ Aside0 (IsR Z wr b n st) ∧ Aside0 (Same (OnlyP b) w wr) ∧ Aside0 (wr.heap[w.heap.size]? = some (.cells #[.int .i64 0, .string ⟨#[]⟩, .int .i64 0, .int .i64 0, .slice none 0 0] 24 (0, 0))) ∧
   Aside0 (listLoop part wOr p0.2.toks.length [p0.1] p0.2 = listLoop part wOr f acc st) ∧ Aside0 (st.toks.length ≤ f) ∧ acc.length + st.toks.length ≤ L + 1) (fun v9 _ => L + 2 - sliceLen v9)
 case atStart =>
  refine ⟨p0.2.toks.length, [p0.1], p0.2, ⟨?_⟩, ⟨HI.out.below (below_alloc (Below.refl _ _) _)⟩, ⟨HS.out.alloc _⟩, ⟨blk_alloc_old HRES.out _⟩, ⟨rfl⟩, ⟨Nat.le_refl _⟩, by simp; omega⟩
  exact R_lit1 (okp := fun q => q ≠ w.heap.size) (kFm_mkM_ _ _ _ p0.1 HR.out) (fun k hk => hk) (by omega) (by omega)
 case round =>
  obtain ⟨f, acc, st, HR2, HI2, HS2, HRES2, HQ, HF, hacc⟩ := hrel
  clear HR HI HS HRES
  obtain ⟨A0, c0, rfl⟩ := Kd.R_slice HR2.out
  have hltr := lt_of_block HRES2.out
  have hstop : ∀ (q : listLoop part wOr f acc st = (acc, st)), out = (if acc.length = 1 then acc.headD z24 else ⟨6, ⟨#[]⟩, 0, 0, acc⟩, st) := fun q => by
   rw [HOUT2.out, HQ.out, q]
  have HSTOP := Aside0.mk hstop
  clear hstop
  have hacl : acc.length ≤ 100001 := by omega
  go_wp2_with fail
  refine (rsees_calls b n st wOr wr HI2.out).mono ?_
  rintro e w2 ⟨rfl, hI, hS⟩
  have HI3 := Aside0.mk hI
  have HS3 := Aside0.mk (HS2.out.trans hS)
  have HR3 := Aside0.mk (R_same HR2.out hS (fun k hk => by unfold OnlyP; omega))
  have hz2 : wr.heap.size ≤ w2.heap.size := hS.size
  have HRES3 := Aside0.mk ((hS.block _ hltr (by unfold OnlyP; omega)).trans HRES2.out)
  have hltr3 := lt_of_block HRES3.out
  clear hI hS HI2 HS2 HR2 HRES2
  cases hse : seesP wOr st
  ·have HO := Aside0.mk (HSTOP.out (listLoop_stop part wOr f acc _ (seesP_no hse)))
   clear HSTOP hse
   have hf0 := blk_cell HRES3.out 0
   have hg0 := blk_frozen HRES3.out 0
   have hf1 := blk_cell HRES3.out 1
   have hg1 := blk_frozen HRES3.out 1
   have hf2 := blk_cell HRES3.out 2
   have hg2 := blk_frozen HRES3.out 2
   have hf3 := blk_cell HRES3.out 3
   have hg3 := blk_frozen HRES3.out 3
   have hf4 := blk_cell HRES3.out 4
   have hg4 := blk_frozen HRES3.out 4
   have hbw : ∀ k, k ≤ b → k ≠ w.heap.size := fun k hk => by omega
   have HBW := Aside0.mk hbw
   clear hbw
   by_cases hl1 : acc.length = 1
   ·obtain ⟨x, rfl⟩ : ∃ x, acc = [x] := List.length_eq_one_iff.1 hl1
    obtain ⟨g, c1, v4, hg, q0, q1, q2, q3, q4, HR4⟩ := R_first HR3.out
    obtain ⟨A4, c4, rfl⟩ := Kd.R_slice HR4
    injection hg with hgA _ hgc
    subst hgA
    have HO1 := Aside0.mk (HO.out.trans (congrArg (fun y => (y, _)) (if_pos hl1)))
    clear hl1 HO hgc
    have hglt : g < w2.heap.size := lt_of_cell q0
    have HR5 := Aside0.mk HR4
    clear HR4
    go_wp2
    refine bodyPost_ret (results_cell_row rfl _ _ w.heap.size 24 #[.int .i64 x.f0, .string x.f1, .int .i64 x.f2, .int .i64 x.f3, .slice A4 x.f4.length c4] (0, 0) _ rfl (put5 HRES3.out _ _ _ _ _) Tryz.underlying24 rfl (by kernel_rfl)) rfl ?_
    rw [HO1.out]
    refine ⟨.slice A4 x.f4.length c4, rfl, Kd.R_mono (Kd.R_step HR5.out (fun k hk _ => put5_other _ _ _ _ _ _ _ hk)) (fun _ _ => trivial), HI3.out.keep (fun k hk => put5_other _ _ _ _ _ _ _ (HBW.out k hk)), ?_⟩
    exact (((((HS3.out.setNew (p := ⟨w.heap.size, 0, none⟩) (Nat.le_refl _) _).setNew (p := ⟨w.heap.size, 1, none⟩) (Nat.le_refl _) _).setNew (p := ⟨w.heap.size, 2, none⟩) (Nat.le_refl _) _).setNew (p := ⟨w.heap.size, 3, none⟩) (Nat.le_refl _) _).setNew (p := ⟨w.heap.size, 4, none⟩) (Nat.le_refl _) _)
   ·have bl : ((acc.length : Int) == 1) = false := by simpa using by omega
    have HO1 := Aside0.mk (HO.out.trans (congrArg (fun y => (y, _)) (if_neg hl1)))
    clear hl1 HO
    go_wp2
    refine bodyPost_ret (results_cell_row rfl _ _ w.heap.size 24 #[.int .i64 6, .string ⟨#[]⟩, .int .i64 0, .int .i64 0, .slice A0 acc.length c0] (0, 0) _ rfl (put5 HRES3.out _ _ _ _ _) Tryz.underlying24 rfl (by kernel_rfl)) rfl ?_
    rw [HO1.out]
    refine ⟨.slice A0 acc.length c0, rfl, Kd.R_mono (Kd.R_step HR3.out (fun k hk _ => put5_other _ _ _ _ _ _ _ hk)) (fun _ _ => trivial), HI3.out.keep (fun k hk => put5_other _ _ _ _ _ _ _ (HBW.out k hk)), ?_⟩
    exact (((((HS3.out.setNew (p := ⟨w.heap.size, 0, none⟩) (Nat.le_refl _) _).setNew (p := ⟨w.heap.size, 1, none⟩) (Nat.le_refl _) _).setNew (p := ⟨w.heap.size, 2, none⟩) (Nat.le_refl _) _).setNew (p := ⟨w.heap.size, 3, none⟩) (Nat.le_refl _) _).setNew (p := ⟨w.heap.size, 4, none⟩) (Nat.le_refl _) _)
  ·obtain ⟨t, r, hq, h1, h2⟩ := seesP_yes hse
   obtain ⟨toks, err, at_⟩ := st
   simp only at hq hacc
   subst hq
   obtain ⟨I, hI1, hI2, hc1, hf1, HN, HNS⟩ := HI3.out.next
   have HN2 := Aside0.mk HN
   have HNS2 := Aside0.mk HNS
   clear HN HNS hse
   obtain ⟨f, rfl⟩ : ∃ g, f = g + 1 := ⟨f - 1, by have := HF.out; simp only [List.length_cons] at this; omega⟩
   have HQ2 := Aside0.mk (show listLoop part wOr p0.2.toks.length [p0.1] p0.2 = listLoop part wOr f (acc ++ [(part ⟨r, err, at_⟩).1]) (part ⟨r, err, at_⟩).2 by
    rw [HQ.out, listLoop_go part wOr f acc t r err at_ h1 h2])
   have HF2 := Aside0.mk (show (part ⟨r, err, at_⟩).2.toks.length ≤ f by
    have := HF.out; have := HSH.out ⟨r, err, at_⟩; simp only [List.length_cons] at *; omega)
   have hsh := HSH.out ⟨r, err, at_⟩
   simp only [List.length_cons] at hsh hacc
   clear HSTOP HQ HF h1 h2
   go_wp2_with fail
   refine (HP.out ⟨r, err, at_⟩ _ (by show r.length ≤ L; omega) HN2.out).mono ?_
   rintro e w4 ⟨v2, rfl, hR, hI, hS⟩
   obtain ⟨A2, c2, rfl⟩ := Kd.R_slice hR
   have hzs : (w2.setCell ⟨b, 1, none⟩ (.int .i64 ((I : Int) + 1))).heap.size = w2.heap.size := by simp [World.setCell]
   have hz3 : w2.heap.size ≤ w4.heap.size := by have := hS.size; omega
   have HSr := Aside0.mk (HNS2.out.trans hS)
   have HS4 := Aside0.mk (HS3.out.trans HSr.out)
   have HI4 := Aside0.mk hI
   have HR4 := Aside0.mk (R_new_ok (base' := w.heap.size) (ok := fun q => w2.heap.size ≤ q) hR (by omega) (fun k hk => by omega))
   have HR5 := Aside0.mk (R_same HR3.out HSr.out (fun k hk => by unfold OnlyP; omega))
   have HOW := Aside0.mk (show ∀ k, (Value.slice A0 acc.length c0).ownBlock = some k → k < w2.heap.size from fun k hk => by
    obtain ⟨inner, ho⟩ := Kd.R_own HR3.out
    exact own_lt ho k hk)
   have HRES4 := Aside0.mk ((HSr.out.block _ hltr3 (by unfold OnlyP; omega)).trans HRES3.out)
   obtain ⟨p, hp⟩ : ∃ p, part ⟨r, err, at_⟩ = p := ⟨_, rfl⟩
   rw [hp] at HI4 HR4 HQ2 HF2 hsh ⊢
   clear hp hR hI hS hc1 hf1 HN2 HNS2 hzs
   go_wp2_with (at_builtin; go_loud (refine Kd.R_append kFm (w0 := w4) w.heap.size rfl _ _ 22 24 _ 64 rfl Tryz.underlying22 info_fm rfl (by decide) (by decide) (.slice A0 acc.length c0) acc p.1 [.int .i64 p.1.f0, .string p.1.f1, .int .i64 p.1.f2, .int .i64 p.1.f3, .slice A2 p.1.f4.length c2] (fun q => q ≠ w.heap.size) (fun q => w2.heap.size ≤ q) rfl (by simp [Act.eval]) (kFm_mkM_ _ _ _ p.1 HR4.out) (fun k hk => ⟨by omega, fun he => by have := HOW.out k he.symm; omega⟩) (fun q hq => by omega) HR5.out (Below.refl _ _) (by omega) (by omega) ?_); intro v5 w5 hR hBB hG hat)
   have HR6 := Aside0.mk hR
   have HB6 := Aside0.mk hBB
   have HRES6 := Aside0.mk ((hG.block _ (by omega) (fun e => HR5.out.1 _ e.symm rfl)).trans HRES4.out)
   clear hR hBB hG hat
   go_wp2
   go_roundw
   case rel =>
    exact ⟨f, acc ++ [p.1], p.2, HR6, ⟨HI4.out.keep (fun k hk => HB6.out.block k (by omega))⟩, ⟨same_base HS4.out HB6.out⟩, HRES6, HQ2, HF2, by simp; omega⟩
   case measure =>
    obtain ⟨A5, c5, rfl⟩ := Kd.R_slice HR6.out
    simp [sliceLen]; omega
end Go.Proofs.YtkgmempifggajaaGreatDoor.P
/- The reference's (*Reader).not: what it computes; the short cases. -/
namespace Go.Proofs.YtkgmempifggajaaGreatDoor.P
open Go.RowKit Go.Proofs.YtkgmempifggajaaGreatDoorW.PrintWords Go.Proofs.YtkgmempifggajaaGreatDoorW.PrintLast Go.Proofs.YtkgmempifggajaaGreatDoorW.PrintMore
set_option linter.unusedVariables false
set_option linter.unusedSimpArgs false
variable {Z : RZ}
def cmpTo (tx : ByteArray) : Nat → Int
 | 0 => 0
 | k + 1 => if k ≠ 0 ∧ (tx.toList == (symB.getD k ⟨#[]⟩).toList) = true then (k : Int) else cmpTo tx k
def cmpR (u : Tok) : Int := if u.f0 = 4 then cmpTo u.f3 7 else 0
def rtestP (n : Int) (name : ByteArray) (s : PS) : Fm × PS :=
 (fun (u : Tok) (s2 : PS) => (fun (v : Tok) (s4 : PS) => ((⟨3, name, cmpR u, v.f2, []⟩ : Fm),
   (fun s5 => if 1000000 < v.f2 then failP 10 v.f1 s5 else s5) (if v.f0 ≠ 2 then failP 5 v.f1 s4 else s4)))
  (takeP n (if cmpR u = 0 then failP 5 u.f1 s2 else s2)).1 (takeP n (if cmpR u = 0 then failP 5 u.f1 s2 else s2)).2) (takeP n s).1 (takeP n s).2
def rnotP (n : Int) : Nat → PS → Fm × PS
 | 0, s => (z24, s)
 | f + 1, s =>
  if (takeP n s).1.f0 = 1 ∧ (takeP n s).1.f3.toList = lNot then (eFm 4 [(rnotP n f (takeP n s).2).1], (rnotP n f (takeP n s).2).2)
  else if (takeP n s).1.f0 = 4 ∧ (takeP n s).1.f3.toList = [40] then closeP n (eitherP (rnotP n f) (takeP n s).2)
  else if (takeP n s).1.f0 = 1 ∧ (takeP n s).1.f3.toList = lTrue then (eFm 1 [], (takeP n s).2)
  else if (takeP n s).1.f0 = 1 ∧ (takeP n s).1.f3.toList = lFalse then (eFm 2 [], (takeP n s).2)
  else rtestP n (takeP n s).1.f3 (if (takeP n s).1.f0 ≠ 1 ∨ isKey (takeP n s).1.f3 = true then failP 5 (takeP n s).1.f1 (takeP n s).2 else (takeP n s).2)
structure RN (Z : RZ) (w0 w : World) (b : Nat) (n : Int) (s : PS) (g : Nat) (t : Tok) : Prop where
 res : w.heap[w0.heap.size]? = some (.cells zFm 24 (0, 0))
 par : IsR Z w b n s
 old : Same (OnlyP b) w0 w
 ahead : b < w0.heap.size
 hg : w0.heap.size < g
 tok : w.heap[g]? = some (.cells #[.int .i64 t.f0, .int .i64 t.f1, .int .i64 t.f2, .string t.f3] 75 (0, 0))
namespace RN
variable {w0 w w1 : World} {b g : Nat} {n : Int} {s s' : PS} {t : Tok}
theorem lt (h : RN Z w0 w b n s g t) : w0.heap.size < w.heap.size := lt_of_block h.res
theorem glt (h : RN Z w0 w b n s g t) : g < w.heap.size := lt_of_block h.tok
theorem below (h : RN Z w0 w b n s g t) (hb : Below w.heap.size w w1) : RN Z w0 w1 b n s g t := ⟨(hb.block _ h.lt).trans h.res, h.par.below hb, h.old.thenB hb, h.ahead, h.hg, (hb.block _ h.glt).trans h.tok⟩
theorem alloc (h : RN Z w0 w b n s g t) (o : Obj) : RN Z w0 (w.alloc o) b n s g t := h.below (below_alloc (Below.refl _ _) o)
theorem step (h : RN Z w0 w b n s g t) (hp : IsR Z w1 b n s') (hs : Same (OnlyP b) w w1) : RN Z w0 w1 b n s' g t :=
 ⟨(hs.block _ h.lt (by have := h.ahead; unfold OnlyP; omega)).trans h.res, hp, h.old.trans hs, h.ahead, h.hg, (hs.block _ h.glt (by have := h.ahead; have := h.hg; unfold OnlyP; omega)).trans h.tok⟩
theorem settok (h : RN Z w0 w b n s g t) (u : Tok) : RN Z w0 ((((w.setCell ⟨g, 0, none⟩ (.int .i64 u.f0)).setCell ⟨g, 1, none⟩ (.int .i64 u.f1)).setCell ⟨g, 2, none⟩ (.int .i64 u.f2)).setCell ⟨g, 3, none⟩ (.string u.f3)) b n s g u := by
 have h1 := h.ahead
 have h2 := h.hg
 refine ⟨(put4_other _ _ _ _ _ _ (by omega)).trans h.res, h.par.keep (fun k hk => put4_other _ _ _ _ _ _ (by omega)), ?_, h1, h2, put4 h.tok _ _ _ _⟩
 exact (((h.old.setNew (p := ⟨g, 0, none⟩) (Nat.le_of_lt h2) _).setNew (p := ⟨g, 1, none⟩) (Nat.le_of_lt h2) _).setNew (p := ⟨g, 2, none⟩) (Nat.le_of_lt h2) _).setNew (p := ⟨g, 3, none⟩) (Nat.le_of_lt h2) _
theorem done (h : RN Z w0 w b n s g t) (x : Fm) (A : Option Addr) (c : Nat) (hR : Kd.R kFm 24 w w0.heap.size (fun q => q ≠ w0.heap.size) (.slice A x.f4.length c) x.f4) :
  (((((w.setCell ⟨w0.heap.size, 0, none⟩ (.int .i64 x.f0)).setCell ⟨w0.heap.size, 1, none⟩ (.string x.f1)).setCell ⟨w0.heap.size, 2, none⟩ (.int .i64 x.f2)).setCell ⟨w0.heap.size, 3, none⟩ (.int .i64 x.f3)).setCell ⟨w0.heap.size, 4, none⟩ (.slice A x.f4.length c)).heap[w0.heap.size]? = some (.cells #[.int .i64 x.f0, .string x.f1, .int .i64 x.f2, .int .i64 x.f3, .slice A x.f4.length c] 24 (0, 0)) ∧
  RPost Z b n w0 x s (.returned (.agg #[.int .i64 x.f0, .string x.f1, .int .i64 x.f2, .int .i64 x.f3, .slice A x.f4.length c])) (((((w.setCell ⟨w0.heap.size, 0, none⟩ (.int .i64 x.f0)).setCell ⟨w0.heap.size, 1, none⟩ (.string x.f1)).setCell ⟨w0.heap.size, 2, none⟩ (.int .i64 x.f2)).setCell ⟨w0.heap.size, 3, none⟩ (.int .i64 x.f3)).setCell ⟨w0.heap.size, 4, none⟩ (.slice A x.f4.length c)) :=
 ⟨put5 h.res _ _ _ _ _, .slice A x.f4.length c, rfl, Kd.R_mono (Kd.R_step hR (fun k hk _ => put5_other _ _ _ _ _ _ _ hk)) (fun _ _ => trivial), h.par.keep (fun k hk => put5_other _ _ _ _ _ _ _ (by have := h.ahead; omega)),
  (((((h.old.setNew (p := ⟨w0.heap.size, 0, none⟩) (Nat.le_refl _) _).setNew (p := ⟨w0.heap.size, 1, none⟩) (Nat.le_refl _) _).setNew (p := ⟨w0.heap.size, 2, none⟩) (Nat.le_refl _) _).setNew (p := ⟨w0.heap.size, 3, none⟩) (Nat.le_refl _) _).setNew (p := ⟨w0.heap.size, 4, none⟩) (Nat.le_refl _) _)⟩
end RN
theorem rn_start {w w1 : World} {b : Nat} {n : Int} {s s1 : PS} (t : Tok) (h : IsR Z w b n s) (hI : IsR Z w1 b n s1) (hS : Same (OnlyP b) (w.alloc (.cells zFm 24)) w1) :
  RN Z w (w1.alloc (.cells #[.int .i64 t.f0, .int .i64 t.f1, .int .i64 t.f2, .string t.f3] 75)) b n s1 w1.heap.size t := by
 have hlt := h.lt
 have hz := hS.size
 simp at hz
 refine ⟨blk_alloc_old ((hS.block _ (by simp) (by unfold OnlyP; omega)).trans (by (repeat (first | (refine blk_new _ _ ?_; first | rfl | (simp; done)) | refine blk_alloc_old ?_ _ | refine blk_drew_old ?_ | refine blk_drewN_old ?_ _ | assumption)))) _, hI.below (below_alloc (Below.refl _ _) _), (((Same.refl _ _).alloc _).trans hS).alloc _, hlt, by omega, blk_new _ _ rfl⟩
theorem RN.doneN {w0 w : World} {b : Nat} {n : Int} {s : PS} {g : Nat} {t : Tok} (h : RN Z w0 w b n s g t) (y : Fm) (A : Option Addr) (c : Nat) (hR : Kd.R kFm 24 w w0.heap.size (fun q => q ≠ w0.heap.size) (.slice A y.f4.length c) y.f4) :
  ((((((w.setCell ⟨w0.heap.size, 0, none⟩ (.int .i64 4)).setCell ⟨w0.heap.size, 1, none⟩ (.string ⟨#[]⟩)).setCell ⟨w0.heap.size, 2, none⟩ (.int .i64 0)).setCell ⟨w0.heap.size, 3, none⟩ (.int .i64 0)).setCell ⟨w0.heap.size, 4, none⟩ (.slice (some ⟨w.heap.size, 0, none⟩) 1 1)).alloc (.cells #[.int .i64 y.f0, .string y.f1, .int .i64 y.f2, .int .i64 y.f3, .slice A y.f4.length c] 24)).heap[w0.heap.size]? = some (.cells #[.int .i64 4, .string ⟨#[]⟩, .int .i64 0, .int .i64 0, .slice (some ⟨w.heap.size, 0, none⟩) 1 1] 24 (0, 0)) ∧
  RPost Z b n w0 (eFm 4 [y]) s (.returned (.agg #[.int .i64 4, .string ⟨#[]⟩, .int .i64 0, .int .i64 0, .slice (some ⟨w.heap.size, 0, none⟩) 1 1])) ((((((w.setCell ⟨w0.heap.size, 0, none⟩ (.int .i64 4)).setCell ⟨w0.heap.size, 1, none⟩ (.string ⟨#[]⟩)).setCell ⟨w0.heap.size, 2, none⟩ (.int .i64 0)).setCell ⟨w0.heap.size, 3, none⟩ (.int .i64 0)).setCell ⟨w0.heap.size, 4, none⟩ (.slice (some ⟨w.heap.size, 0, none⟩) 1 1)).alloc (.cells #[.int .i64 y.f0, .string y.f1, .int .i64 y.f2, .int .i64 y.f3, .slice A y.f4.length c] 24)) := by
 have hlt := h.lt
 have hR5 : Kd.R kFm 24 (((((w.setCell ⟨w0.heap.size, 0, none⟩ (.int .i64 4)).setCell ⟨w0.heap.size, 1, none⟩ (.string ⟨#[]⟩)).setCell ⟨w0.heap.size, 2, none⟩ (.int .i64 0)).setCell ⟨w0.heap.size, 3, none⟩ (.int .i64 0)).setCell ⟨w0.heap.size, 4, none⟩ (.slice (some ⟨w.heap.size, 0, none⟩) 1 1)) w0.heap.size (fun q => q ≠ w0.heap.size) (.slice A y.f4.length c) y.f4 := Kd.R_step hR (fun k hk _ => put5_other _ _ _ _ _ _ _ hk)
 have hz : (((((w.setCell ⟨w0.heap.size, 0, none⟩ (.int .i64 4)).setCell ⟨w0.heap.size, 1, none⟩ (.string ⟨#[]⟩)).setCell ⟨w0.heap.size, 2, none⟩ (.int .i64 0)).setCell ⟨w0.heap.size, 3, none⟩ (.int .i64 0)).setCell ⟨w0.heap.size, 4, none⟩ (.slice (some ⟨w.heap.size, 0, none⟩) 1 1)).heap.size = w.heap.size := by simp only [size_set]
 have hl := R_lit1 (okp := fun q => q ≠ w0.heap.size) (ok := fun _ => True) (kFm_mkM_ _ _ _ y hR5) (fun _ _ => trivial) trivial (by rw [hz]; omega)
 rw [hz] at hl
 refine ⟨blk_alloc_old (put5 h.res _ _ _ _ _) _, .slice (some ⟨w.heap.size, 0, none⟩) 1 1, rfl, hl, IsR.below (h.par.keep (fun k hk => put5_other _ _ _ _ _ _ _ (by have := h.ahead; omega))) (below_alloc (Below.refl _ _) _), ?_⟩
 exact (((((h.old.setNew (p := ⟨w0.heap.size, 0, none⟩) (Nat.le_refl _) _).setNew (p := ⟨w0.heap.size, 1, none⟩) (Nat.le_refl _) _).setNew (p := ⟨w0.heap.size, 2, none⟩) (Nat.le_refl _) _).setNew (p := ⟨w0.heap.size, 3, none⟩) (Nat.le_refl _) _).setNew (p := ⟨w0.heap.size, 4, none⟩) (Nat.le_refl _) _).alloc _
set_option maxHeartbeats 4000000 in
set_option maxRecDepth 100000 in
theorem rnot_true (b : Nat) (n : Int) (s : PS) (t : Tok) (s1 : PS) (ht : takeP n s = (t, s1)) (h1 : t.f0 = 1) (h2 : t.f3.toList = lTrue) (w : World) (h : IsR Z w b n s) :
  Calls Tryz.prog 107 #[.pointer (some ⟨b, 0, none⟩)] w (RPost Z b n w (eFm 1 []) s1) := by
 have hlt := h.lt
 have HT := Aside0.mk ht
 have H := Aside0.mk h
 obtain ⟨kd, at_, num, tx⟩ := t
 simp only at h1 h2
 clear h ht
 have c1 : (kd == 1) = true := by simp [h1]
 have c4 : (kd == 4) = false := by simp [h1]
 have d1 : (tx.toList == [110, 111, 116]) = false := by rw [h2]; rfl
 have d2 : (tx.toList == [116, 114, 117, 101]) = true := by rw [h2]; rfl
 clear h1 h2
 go_enter Tryz.func107, Tryz.ntmps107
 go_wp2_with fail
 refine (rtoken_calls b n s _ (H.out.below (below_alloc (Below.refl _ _) _))).mono ?_
 rintro e w1 ⟨rfl, hI, hS⟩
 rw [HT.out] at hI ⊢
 have HO := Aside0.mk (rn_start ⟨kd, at_, num, tx⟩ H.out hI hS)
 have hz1 : w.heap.size < w1.heap.size := HO.out.hg
 clear hI hS
 go_upto_region 2 with fail
 obtain ⟨W1, hW1⟩ : ∃ W, w1.alloc (.cells #[.int .i64 kd, .int .i64 at_, .int .i64 num, .string tx] 75) = W := ⟨_, rfl⟩
 obtain ⟨g, hg⟩ : ∃ g, w1.heap.size = g := ⟨_, rfl⟩
 rw [hW1, hg] at HO
 rw [hW1]
 simp only [hg] at hz1 ⊢
 clear hW1 hg
 have ht0 := blk_cell HO.out.tok 0
 have ht1 := blk_cell HO.out.tok 1
 have ht3 := blk_cell HO.out.tok 3
 have hf0 := blk_cell HO.out.res 0
 have hg0 := blk_frozen HO.out.res 0
 have hf1 := blk_cell HO.out.res 1
 have hg1 := blk_frozen HO.out.res 1
 have hf2 := blk_cell HO.out.res 2
 have hg2 := blk_frozen HO.out.res 2
 have hf3 := blk_cell HO.out.res 3
 have hg3 := blk_frozen HO.out.res 3
 have hf4 := blk_cell HO.out.res 4
 have hg4 := blk_frozen HO.out.res 4
 go_wp2
 refine bodyPost_ret (results_cell_row rfl _ _ w.heap.size 24 #[.int .i64 (1), .string ⟨#[]⟩, .int .i64 0, .int .i64 0, .slice none 0 0] (0, 0) _ rfl (HO.out.done (eFm (1) []) none 0 (Kd.R_nil _ _ _ _ _)).1 Tryz.underlying24 rfl (by kernel_rfl)) rfl ?_
 exact (HO.out.done (eFm (1) []) none 0 (Kd.R_nil _ _ _ _ _)).2
set_option maxHeartbeats 4000000 in
set_option maxRecDepth 100000 in
theorem rnot_false (b : Nat) (n : Int) (s : PS) (t : Tok) (s1 : PS) (ht : takeP n s = (t, s1)) (h1 : t.f0 = 1) (h2 : t.f3.toList = lFalse) (w : World) (h : IsR Z w b n s) :
  Calls Tryz.prog 107 #[.pointer (some ⟨b, 0, none⟩)] w (RPost Z b n w (eFm 2 []) s1) := by
 have hlt := h.lt
 have HT := Aside0.mk ht
 have H := Aside0.mk h
 obtain ⟨kd, at_, num, tx⟩ := t
 simp only at h1 h2
 clear h ht
 have c1 : (kd == 1) = true := by simp [h1]
 have c4 : (kd == 4) = false := by simp [h1]
 have d1 : (tx.toList == [110, 111, 116]) = false := by rw [h2]; rfl
 have d2 : (tx.toList == [116, 114, 117, 101]) = false := by rw [h2]; rfl
 have d3 : (tx.toList == [102, 97, 108, 115, 101]) = true := by rw [h2]; rfl
 clear h1 h2
 go_enter Tryz.func107, Tryz.ntmps107
 go_wp2_with fail
 refine (rtoken_calls b n s _ (H.out.below (below_alloc (Below.refl _ _) _))).mono ?_
 rintro e w1 ⟨rfl, hI, hS⟩
 rw [HT.out] at hI ⊢
 have HO := Aside0.mk (rn_start ⟨kd, at_, num, tx⟩ H.out hI hS)
 have hz1 : w.heap.size < w1.heap.size := HO.out.hg
 clear hI hS
 go_upto_region 2 with fail
 obtain ⟨W1, hW1⟩ : ∃ W, w1.alloc (.cells #[.int .i64 kd, .int .i64 at_, .int .i64 num, .string tx] 75) = W := ⟨_, rfl⟩
 obtain ⟨g, hg⟩ : ∃ g, w1.heap.size = g := ⟨_, rfl⟩
 rw [hW1, hg] at HO
 rw [hW1]
 simp only [hg] at hz1 ⊢
 clear hW1 hg
 have ht0 := blk_cell HO.out.tok 0
 have ht1 := blk_cell HO.out.tok 1
 have ht3 := blk_cell HO.out.tok 3
 have hf0 := blk_cell HO.out.res 0
 have hg0 := blk_frozen HO.out.res 0
 have hf1 := blk_cell HO.out.res 1
 have hg1 := blk_frozen HO.out.res 1
 have hf2 := blk_cell HO.out.res 2
 have hg2 := blk_frozen HO.out.res 2
 have hf3 := blk_cell HO.out.res 3
 have hg3 := blk_frozen HO.out.res 3
 have hf4 := blk_cell HO.out.res 4
 have hg4 := blk_frozen HO.out.res 4
 go_wp2
 refine bodyPost_ret (results_cell_row rfl _ _ w.heap.size 24 #[.int .i64 (2), .string ⟨#[]⟩, .int .i64 0, .int .i64 0, .slice none 0 0] (0, 0) _ rfl (HO.out.done (eFm (2) []) none 0 (Kd.R_nil _ _ _ _ _)).1 Tryz.underlying24 rfl (by kernel_rfl)) rfl ?_
 exact (HO.out.done (eFm (2) []) none 0 (Kd.R_nil _ _ _ _ _)).2
set_option maxHeartbeats 4000000 in
set_option maxRecDepth 100000 in
theorem rnot_not (b : Nat) (n : Int) (s : PS) (t : Tok) (s1 : PS) (ht : takeP n s = (t, s1)) (h1 : t.f0 = 1) (h2 : t.f3.toList = lNot) (part : PS → Fm × PS) (hp : ∀ w, IsR Z w b n s1 → Calls Tryz.prog 107 #[.pointer (some ⟨b, 0, none⟩)] w (RPost Z b n w (part s1).1 (part s1).2)) (w : World) (h : IsR Z w b n s) :
  Calls Tryz.prog 107 #[.pointer (some ⟨b, 0, none⟩)] w (RPost Z b n w (eFm 4 [(part s1).1]) (part s1).2) := by
 have hlt := h.lt
 have HT := Aside0.mk ht
 have H := Aside0.mk h
 obtain ⟨kd, at_, num, tx⟩ := t
 simp only at h1 h2
 clear h ht
 have c1 : (kd == 1) = true := by simp [h1]
 have c4 : (kd == 4) = false := by simp [h1]
 have d1 : (tx.toList == [110, 111, 116]) = true := by rw [h2]; rfl
 clear h1 h2
 have HP := Aside0.mk hp
 obtain ⟨⟨y, st⟩, hy⟩ : ∃ x, part s1 = x := ⟨_, rfl⟩
 have HY := Aside0.mk hy
 rw [hy]
 clear hp hy
 go_enter Tryz.func107, Tryz.ntmps107
 go_wp2_with fail
 refine (rtoken_calls b n s _ (H.out.below (below_alloc (Below.refl _ _) _))).mono ?_
 rintro e w1 ⟨rfl, hI, hS⟩
 rw [HT.out] at hI ⊢
 have HO := Aside0.mk (rn_start ⟨kd, at_, num, tx⟩ H.out hI hS)
 have hz1 : w.heap.size < w1.heap.size := HO.out.hg
 clear hI hS
 go_upto_region 2 with fail
 obtain ⟨W1, hW1⟩ : ∃ W, w1.alloc (.cells #[.int .i64 kd, .int .i64 at_, .int .i64 num, .string tx] 75) = W := ⟨_, rfl⟩
 obtain ⟨g, hg⟩ : ∃ g, w1.heap.size = g := ⟨_, rfl⟩
 rw [hW1, hg] at HO
 rw [hW1]
 simp only [hg] at hz1 ⊢
 clear hW1 hg
 have ht0 := blk_cell HO.out.tok 0
 have ht1 := blk_cell HO.out.tok 1
 have ht3 := blk_cell HO.out.tok 3
 go_wp2_with fail
 refine (HP.out _ HO.out.par).mono ?_
 rintro e w3 ⟨v3, rfl, hR, hI, hS⟩
 obtain ⟨A3, c3, rfl⟩ := Kd.R_slice hR
 rw [HY.out] at hR hI ⊢
 have HO3 := Aside0.mk (HO.out.step hI hS)
 have hz3 : W1.heap.size ≤ w3.heap.size := hS.size
 have hz2 := HO.out.lt
 have HR3 := Aside0.mk (R_new_ok (base' := w.heap.size) (ok := fun q => q ≠ w.heap.size) hR (by omega) (fun k hk => by omega))
 have hz4 := HO3.out.lt
 clear hR hI hS HO ht0 ht1 ht3
 have hf0 := blk_cell HO3.out.res 0
 have hg0 := blk_frozen HO3.out.res 0
 have hf1 := blk_cell HO3.out.res 1
 have hg1 := blk_frozen HO3.out.res 1
 have hf2 := blk_cell HO3.out.res 2
 have hg2 := blk_frozen HO3.out.res 2
 have hf3 := blk_cell HO3.out.res 3
 have hg3 := blk_frozen HO3.out.res 3
 have hf4 := blk_cell HO3.out.res 4
 have hg4 := blk_frozen HO3.out.res 4
 go_wp2
 refine bodyPost_ret (results_cell_row rfl _ _ w.heap.size 24 #[.int .i64 4, .string ⟨#[]⟩, .int .i64 0, .int .i64 0, .slice (some ⟨w3.heap.size, 0, none⟩) 1 1] (0, 0) _ rfl (HO3.out.doneN y A3 c3 HR3.out).1 Tryz.underlying24 rfl (by kernel_rfl)) rfl ?_
 exact (HO3.out.doneN y A3 c3 HR3.out).2
set_option maxHeartbeats 4000000 in
set_option maxRecDepth 100000 in
theorem rnot_paren (b : Nat) (n : Int) (s : PS) (t : Tok) (s1 : PS) (ht : takeP n s = (t, s1)) (h1 : t.f0 = 4) (h2 : t.f3.toList = [40]) (part : PS → Fm × PS) (hp : ∀ w, IsR Z w b n s1 → Calls Tryz.prog 59 #[.pointer (some ⟨b, 0, none⟩)] w (RPost Z b n w (part s1).1 (part s1).2)) (w : World) (h : IsR Z w b n s) :
  Calls Tryz.prog 107 #[.pointer (some ⟨b, 0, none⟩)] w (RPost Z b n w (closeP n (part s1)).1 (closeP n (part s1)).2) := by
 have hlt := h.lt
 have HT := Aside0.mk ht
 have H := Aside0.mk h
 obtain ⟨kd, at_, num, tx⟩ := t
 simp only at h1 h2
 clear h ht
 have c1 : (kd == 1) = false := by simp [h1]
 have c4 : (kd == 4) = true := by simp [h1]
 have d4 : (tx.toList == [40]) = true := by rw [h2]; rfl
 clear h1 h2
 have HP := Aside0.mk hp
 obtain ⟨⟨y, st⟩, hy⟩ : ∃ x, part s1 = x := ⟨_, rfl⟩
 have HY := Aside0.mk hy
 rw [hy]
 clear hp hy
 go_enter Tryz.func107, Tryz.ntmps107
 go_wp2_with fail
 refine (rtoken_calls b n s _ (H.out.below (below_alloc (Below.refl _ _) _))).mono ?_
 rintro e w1 ⟨rfl, hI, hS⟩
 rw [HT.out] at hI ⊢
 have HO := Aside0.mk (rn_start ⟨kd, at_, num, tx⟩ H.out hI hS)
 have hz1 : w.heap.size < w1.heap.size := HO.out.hg
 clear hI hS
 go_upto_region 2 with fail
 obtain ⟨W1, hW1⟩ : ∃ W, w1.alloc (.cells #[.int .i64 kd, .int .i64 at_, .int .i64 num, .string tx] 75) = W := ⟨_, rfl⟩
 obtain ⟨g, hg⟩ : ∃ g, w1.heap.size = g := ⟨_, rfl⟩
 rw [hW1, hg] at HO
 rw [hW1]
 simp only [hg] at hz1 ⊢
 clear hW1 hg
 have ht0 := blk_cell HO.out.tok 0
 have ht1 := blk_cell HO.out.tok 1
 have ht3 := blk_cell HO.out.tok 3
 go_wp2_with fail
 refine (HP.out _ HO.out.par).mono ?_
 rintro e w3 ⟨v3, rfl, hR, hI, hS⟩
 obtain ⟨A3, c3, rfl⟩ := Kd.R_slice hR
 rw [HY.out] at hR hI ⊢
 have hgl := HO.out.glt
 have hz3 : W1.heap.size ≤ w3.heap.size := hS.size
 have hz2 := HO.out.lt
 have HO3 := Aside0.mk (HO.out.step hI hS)
 have HR3 := Aside0.mk (R_new_ok (base' := w.heap.size) (ok := fun q => q ≠ w.heap.size ∧ q ≠ g) hR (by omega) (fun k hk => by omega))
 clear hR hI hS HO ht0 ht1 ht3
 have HO4 := Aside0.mk (HO3.out.alloc (.cells #[.int .i64 y.f0, .string y.f1, .int .i64 y.f2, .int .i64 y.f3, .slice A3 y.f4.length c3] 24))
 go_wp2_with fail
 refine (rtoken_calls b n st _ HO4.out.par).mono ?_
 rintro e w5 ⟨rfl, hI, hS⟩
 have hah := HO4.out.ahead
 have hz5 : w3.heap.size < w5.heap.size := by have := hS.size; simp at this; omega
 have HF5 := Aside0.mk ((hS.block w3.heap.size (by simp) (by unfold OnlyP; omega)).trans (blk_new w3 (.cells #[.int .i64 y.f0, .string y.f1, .int .i64 y.f2, .int .i64 y.f3, .slice A3 y.f4.length c3] 24) rfl))
 have HR5 := Aside0.mk (R_same (Kd.R_alloc HR3.out (.cells #[.int .i64 y.f0, .string y.f1, .int .i64 y.f2, .int .i64 y.f3, .slice A3 y.f4.length c3] 24)) hS (fun k hk => by unfold OnlyP; omega))
 have HO5 := Aside0.mk (HO4.out.step hI hS)
 clear hI hS HO4 HO3 HR3
 have HCL := Aside0.mk (show closeP n (y, st) = (y, if (takeP n st).1.f0 ≠ 4 ∨ (takeP n st).1.f3.toList ≠ [41] then failP 5 (takeP n st).1.f1 (takeP n st).2 else (takeP n st).2) from rfl)
 obtain ⟨⟨u, s6⟩, hu⟩ : ∃ q, takeP n st = q := ⟨_, rfl⟩
 rw [hu] at HO5 HCL ⊢
 clear hu
 obtain ⟨ku, au, nu, tu⟩ := u
 have HCL2 := Aside0.mk (show closeP n (y, st) = (y, if ku ≠ 4 ∨ tu.toList ≠ [41] then failP 5 au s6 else s6) from HCL.out)
 clear HCL
 have ht0 := blk_cell HO5.out.tok 0
 have ht1 := blk_cell HO5.out.tok 1
 have ht2 := blk_cell HO5.out.tok 2
 have ht3 := blk_cell HO5.out.tok 3
 have hv0 := blk_frozen HO5.out.tok 0
 have hv1 := blk_frozen HO5.out.tok 1
 have hv2 := blk_frozen HO5.out.tok 2
 have hv3 := blk_frozen HO5.out.tok 3
 go_upto_region 7 with fail
 obtain ⟨W5, hW5⟩ : ∃ W, ((((w5.setCell ⟨g, 0, none⟩ (.int .i64 ku)).setCell ⟨g, 1, none⟩ (.int .i64 au)).setCell ⟨g, 2, none⟩ (.int .i64 nu)).setCell ⟨g, 3, none⟩ (.string tu)) = W := ⟨_, rfl⟩
 obtain ⟨g4, hg4⟩ : ∃ g4, w3.heap.size = g4 := ⟨_, rfl⟩
 have HO6 := Aside0.mk (show RN Z w W5 b n s6 g ⟨ku, au, nu, tu⟩ from hW5 ▸ HO5.out.settok ⟨ku, au, nu, tu⟩)
 have HG4 := Aside0.mk (show g4 < W5.heap.size by rw [← hW5]; simp only [size_set]; omega)
 have HF6 := Aside0.mk (show W5.heap[g4]? = _ from hW5 ▸ hg4 ▸ (put4_other w5 g (.int .i64 ku) (.int .i64 au) (.int .i64 nu) (.string tu) (show w3.heap.size ≠ g by omega)).trans HF5.out)
 have HR6 := Aside0.mk (show Kd.R kFm 24 W5 w.heap.size (fun q => q ≠ w.heap.size) (.slice A3 y.f4.length c3) y.f4 from hW5 ▸ Kd.R_mono (Kd.R_step HR5.out (fun k hk _ => put4_other _ _ _ _ _ _ hk.2)) (fun k hk => hk.1))
 rw [hW5]
 simp only [hg4]
 clear hW5 HO5 HF5 HR5 ht0 ht1 ht2 ht3 hv0 hv1 hv2 hv3
 have hgg : w.heap.size < g4 := by omega
 clear hg4
 have HO5 := HO6
 have HF5 := HF6
 have HR5 := HR6
 clear HO6 HF6 HR6
 have hu0 := blk_cell HO5.out.tok 0
 have hu1 := blk_cell HO5.out.tok 1
 have hu3 := blk_cell HO5.out.tok 3
 by_cases hbad : ku ≠ 4 ∨ tu.toList ≠ [41]
 ·have HX := Aside0.mk (HCL2.out.trans (congrArg (fun z => (y, z)) (if_pos hbad)))
  have hcs : ku ≠ 4 ∨ (ku = 4 ∧ tu.toList ≠ [41]) := (Decidable.em (ku = 4)).elim (fun h => .inr ⟨h, hbad.resolve_left (fun h2 => h2 h)⟩) .inl
  clear hbad HCL2
  rcases hcs with g1 | ⟨g1, g2⟩
  ·have e1 : (ku != 4) = true := by simpa using g1
   clear g1
   go_wp2_with fail
   refine (rfail_calls b n s6 5 au (by decide) _ HO5.out.par).mono ?_
   rintro e w7 ⟨rfl, hI, hS⟩
   have HO7 := Aside0.mk (HO5.out.step hI hS)
   have hah := HO5.out.ahead
   have HR7 := Aside0.mk (R_same HR5.out hS (fun k hk => by unfold OnlyP; omega))
   have HF7 := Aside0.mk ((hS.block g4 HG4.out (by unfold OnlyP; omega)).trans HF5.out)
   clear hI hS hu0 hu1 hu3 hah
   have hq0 := blk_cell HF7.out 0
   have hq1 := blk_cell HF7.out 1
   have hq2 := blk_cell HF7.out 2
   have hq3 := blk_cell HF7.out 3
   have hq4 := blk_cell HF7.out 4
   have hf0 := blk_cell HO7.out.res 0
   have hg0 := blk_frozen HO7.out.res 0
   have hf1 := blk_cell HO7.out.res 1
   have hg1 := blk_frozen HO7.out.res 1
   have hf2 := blk_cell HO7.out.res 2
   have hg2 := blk_frozen HO7.out.res 2
   have hf3 := blk_cell HO7.out.res 3
   have hg3 := blk_frozen HO7.out.res 3
   have hf4 := blk_cell HO7.out.res 4
   have hg4 := blk_frozen HO7.out.res 4
   go_wp2
   refine bodyPost_ret (results_cell_row rfl _ _ w.heap.size 24 #[.int .i64 y.f0, .string y.f1, .int .i64 y.f2, .int .i64 y.f3, .slice A3 y.f4.length c3] (0, 0) _ rfl (HO7.out.done y A3 c3 HR7.out).1 Tryz.underlying24 rfl (by kernel_rfl)) rfl ?_
   rw [HX.out]
   exact (HO7.out.done y A3 c3 HR7.out).2
  ·have e1 : (ku != 4) = false := by simp [g1]
   have e2 : (tu.toList == [41]) = false := beq_eq_false_iff_ne.2 g2
   clear g1 g2
   go_wp2_with fail
   refine (rfail_calls b n s6 5 au (by decide) _ HO5.out.par).mono ?_
   rintro e w7 ⟨rfl, hI, hS⟩
   have HO7 := Aside0.mk (HO5.out.step hI hS)
   have hah := HO5.out.ahead
   have HR7 := Aside0.mk (R_same HR5.out hS (fun k hk => by unfold OnlyP; omega))
   have HF7 := Aside0.mk ((hS.block g4 HG4.out (by unfold OnlyP; omega)).trans HF5.out)
   clear hI hS hu0 hu1 hu3 hah
   have hq0 := blk_cell HF7.out 0
   have hq1 := blk_cell HF7.out 1
   have hq2 := blk_cell HF7.out 2
   have hq3 := blk_cell HF7.out 3
   have hq4 := blk_cell HF7.out 4
   have hf0 := blk_cell HO7.out.res 0
   have hg0 := blk_frozen HO7.out.res 0
   have hf1 := blk_cell HO7.out.res 1
   have hg1 := blk_frozen HO7.out.res 1
   have hf2 := blk_cell HO7.out.res 2
   have hg2 := blk_frozen HO7.out.res 2
   have hf3 := blk_cell HO7.out.res 3
   have hg3 := blk_frozen HO7.out.res 3
   have hf4 := blk_cell HO7.out.res 4
   have hg4 := blk_frozen HO7.out.res 4
   go_wp2
   refine bodyPost_ret (results_cell_row rfl _ _ w.heap.size 24 #[.int .i64 y.f0, .string y.f1, .int .i64 y.f2, .int .i64 y.f3, .slice A3 y.f4.length c3] (0, 0) _ rfl (HO7.out.done y A3 c3 HR7.out).1 Tryz.underlying24 rfl (by kernel_rfl)) rfl ?_
   rw [HX.out]
   exact (HO7.out.done y A3 c3 HR7.out).2
 ·have HX := Aside0.mk (HCL2.out.trans (congrArg (fun z => (y, z)) (if_neg hbad)))
  have g1 : ku = 4 := Decidable.byContradiction (fun h => hbad (.inl h))
  have g2 : tu.toList = [41] := Decidable.byContradiction (fun h => hbad (.inr h))
  have e1 : (ku != 4) = false := by simp [g1]
  have e2 : (tu.toList == [41]) = true := by rw [g2]; rfl
  clear hbad g1 g2 HCL2
  have hq0 := blk_cell HF5.out 0
  have hq1 := blk_cell HF5.out 1
  have hq2 := blk_cell HF5.out 2
  have hq3 := blk_cell HF5.out 3
  have hq4 := blk_cell HF5.out 4
  have hf0 := blk_cell HO5.out.res 0
  have hg0 := blk_frozen HO5.out.res 0
  have hf1 := blk_cell HO5.out.res 1
  have hg1 := blk_frozen HO5.out.res 1
  have hf2 := blk_cell HO5.out.res 2
  have hg2 := blk_frozen HO5.out.res 2
  have hf3 := blk_cell HO5.out.res 3
  have hg3 := blk_frozen HO5.out.res 3
  have hf4 := blk_cell HO5.out.res 4
  have hg4 := blk_frozen HO5.out.res 4
  go_wp2
  refine bodyPost_ret (results_cell_row rfl _ _ w.heap.size 24 #[.int .i64 y.f0, .string y.f1, .int .i64 y.f2, .int .i64 y.f3, .slice A3 y.f4.length c3] (0, 0) _ rfl (HO5.out.done y A3 c3 HR5.out).1 Tryz.underlying24 rfl (by kernel_rfl)) rfl ?_
  rw [HX.out]
  exact (HO5.out.done y A3 c3 HR5.out).2
end Go.Proofs.YtkgmempifggajaaGreatDoor.P
/- formula.Parse. (Printed by wip/tools/gen_parse.py.) -/
namespace Go.Proofs.YtkgmempifggajaaGreatDoor.P
open Go.RowKit Go.Proofs.YtkgmempifggajaaGreatDoorW.PrintWords Go.Proofs.YtkgmempifggajaaGreatDoorW.PrintLast Go.Proofs.YtkgmempifggajaaGreatDoorW.PrintMore
set_option linter.unusedVariables false
set_option linter.unusedSimpArgs false
def restP (s : PS) : PS := match s.toks with
 | [] => s
 | t :: _ => failP 5 t.f1 s
def tooP (x : Fm) (s : PS) : PS := if s.err = 0 ∧ isLarge x = true then failP 2 (-1) s else s
def endP (x : Fm) (s : PS) : Fm × Int × Int := if s.err = 0 then (x, 0, 0) else (z24, s.err, s.at_)
def parseF (s : ByteArray) : Fm × Int × Int :=
 if (lex s.data.toList).2.1 = 0 then
  (fun p : Fm × PS => endP p.1 (tooP p.1 (restP p.2))) (eitherP (oneP s.size ((lex s.data.toList).1.length + 1)) ⟨(lex s.data.toList).1, 0, 0⟩)
 else (z24, (lex s.data.toList).2.1, (lex s.data.toList).2.2)
theorem lexs_len (f : Nat) (l : List UInt8) (a c : Nat) (r : List Tok) (h : lexs f l a c = .ok r) (hc : c ≤ 5000) : r.length + c ≤ 5000 := by
 induction f generalizing l a c r with
 | zero => simp only [lexs] at h; cases h; simpa using hc
 | succ f ih =>
  simp only [lexs] at h
  split at h
  ·cases h; simpa using hc
  ·split at h
   ·cases h
   ·split at h
    ·cases h
    ·rename_i h5
     split at h
     ·cases h
     ·rename_i r' hr
      cases h
      have h5' : c ≠ 5000 := by simpa using h5
      have := ih _ _ _ _ hr (by omega)
      simp only [List.length_cons]
      omega
theorem lex_len (l : List UInt8) : (lex l).1.length ≤ 5000 := by
 unfold lex
 split
 ·simp
 ·split
  ·simp
  ·rename_i r hr
   have := lexs_len _ _ _ _ _ hr (by omega)
   simpa using this
structure QS (w0 w : World) (b g : Nat) (n : Int) (s : PS) (y : Fm) (A : Option Addr) (c : Nat) : Prop where
 res : w.heap[w0.heap.size]? = some (.cells zFm 24 (0, 0))
 par : IsP w b n s
 box : w.heap[g]? = some (.cells #[.int .i64 y.f0, .string y.f1, .int .i64 y.f2, .int .i64 y.f3, .slice A y.f4.length c] 24 (0, 0))
 row : Kd.R kFm 24 w (b + 1) (fun _ => True) (.slice A y.f4.length c) y.f4
 old : Below w0.heap.size w0 w
 hb : w0.heap.size < b
 hg : b < g
theorem QS.step {w0 w w1 : World} {b g : Nat} {n : Int} {s s' : PS} {y : Fm} {A : Option Addr} {c : Nat} (h : QS w0 w b g n s y A c) (hp : IsP w1 b n s') (hs : Same (OnlyP b) w w1) : QS w0 w1 b g n s' y A c := by
 have h1 := h.hb
 have h2 := h.hg
 have hz := h.old.size
 refine ⟨(hs.block _ (lt_of_block h.res) (by unfold OnlyP; omega)).trans h.res, hp, (hs.block _ (lt_of_block h.box) (by unfold OnlyP; omega)).trans h.box, R_same h.row hs (fun k hk => by unfold OnlyP; omega), ?_, h1, h2⟩
 exact ⟨hs.os.trans h.old.os, hs.tape.trans h.old.tape, hs.output.trans h.old.output, Nat.le_trans hz hs.size, fun k hk => (hs.block k (by omega) (by unfold OnlyP; omega)).trans (h.old.block k hk)⟩
theorem QS.below {w0 w w1 : World} {b g : Nat} {n : Int} {s : PS} {y : Fm} {A : Option Addr} {c : Nat} (h : QS w0 w b g n s y A c) (hb : Below w.heap.size w w1) : QS w0 w1 b g n s y A c :=
 h.step (h.par.below hb) (Same.of_below hb)
theorem cell_drew {w : World} {a : Addr} {v : Value} (h : w.cell? a = some v) : w.drew.cell? a = some v := h
theorem cell_block {w w1 : World} {b j : Nat} {v : Value} (hk : w1.heap[b]? = w.heap[b]?) (h : w.cell? ⟨b, j, none⟩ = some v) : w1.cell? ⟨b, j, none⟩ = some v := (World.cell?_of_block (a := ⟨b, j, none⟩) hk).trans h
theorem put5_cell (w : World) (g : Nat) (x y z u v : Value) {b j : Nat} {a : Value} (hb : b ≠ g) (h : w.cell? ⟨b, j, none⟩ = some a) :
  (((((w.setCell ⟨g, 0, none⟩ x).setCell ⟨g, 1, none⟩ y).setCell ⟨g, 2, none⟩ z).setCell ⟨g, 3, none⟩ u).setCell ⟨g, 4, none⟩ v).drew.cell? ⟨b, j, none⟩ = some a :=
 cell_drew (cell_block (put5_other w g x y z u v hb) h)
def ParsePost (s : ByteArray) (w : World) (e : Ending) (w' : World) : Prop :=
 ∃ v, e = .returned (.tuple #[.agg #[.int .i64 (parseF s).1.f0, .string (parseF s).1.f1, .int .i64 (parseF s).1.f2, .int .i64 (parseF s).1.f3, v], .int .i64 (parseF s).2.1, .int .i64 (parseF s).2.2]) ∧
  Kd.R kFm 24 w' w.heap.size (fun _ => True) v (parseF s).1.f4 ∧ Below w.heap.size w w'
set_option maxHeartbeats 4000000 in
set_option maxRecDepth 100000 in
theorem parse_calls (s : ByteArray) (w : World) (hsz : s.size ≤ 9223372036854775807) : Calls Tryz.prog 26 #[.string s] w (ParsePost s w) := by
 have HLN := Aside0.mk (lex_len s.data.toList)
 have HX := Aside0.mk (show parseF s = _ from rfl)
 obtain ⟨lx, hlx⟩ : ∃ lx, lex s.data.toList = lx := ⟨_, rfl⟩
 have HPF := Aside0.mk (show parseF s = if lx.2.1 = 0 then (fun p : Fm × PS => endP p.1 (tooP p.1 (restP p.2))) (eitherP (oneP s.size (lx.1.length + 1)) ⟨lx.1, 0, 0⟩) else (z24, lx.2.1, lx.2.2) by rw [← hlx]; rfl)
 have HLX := Aside0.mk hlx
 rw [hlx] at HLN
 obtain ⟨toks, err, off⟩ := lx
 clear hlx HX
 go_enter Tryz.func26, Tryz.ntmps26
 go_wp2_with fail
 refine (lex_calls s _).mono ?_
 rintro e w2 ⟨v, rfl, hR, hb⟩
 rw [HLX.out] at hR ⊢
 obtain ⟨A, c, rfl⟩ := Kd.R_slice hR
 have hz2 : w.heap.size < w2.heap.size := by have := hb.size; simp at this; omega
 have HRES := Aside0.mk (show w2.heap[w.heap.size]? = some (.cells zFm 24 (0, 0)) from (hb.block _ (by simp)).trans (by (repeat (first | (refine blk_new _ _ ?_; first | rfl | (simp; done)) | refine blk_alloc_old ?_ _ | refine blk_drew_old ?_ | refine blk_drewN_old ?_ _ | assumption))))
 have HB2 := Aside0.mk (below_then (below_alloc (Below.refl w.heap.size w) _) (by simp) hb)
 have HR2 := Aside0.mk hR
 clear hR hb
 by_cases he : err = 0
 ·have b0 : (err != 0) = false := by simp [he]
  have HPF2 := Aside0.mk (HPF.out.trans (if_pos he))
  clear HPF he
  have hlen : toks.length ≤ 5000 := HLN.out
  have HI := Aside0.mk (show IsP (w2.alloc (.cells #[.slice A toks.length c, .int .i64 s.size, .int .i64 0, .int .i64 0] 71)) w2.heap.size s.size ⟨toks, 0, 0⟩ from ⟨A, c, blk_new _ _ rfl, Kd.F_alloc (Kd.F_mono (Kd.R_F (Kd.R_bound HR2.out)) (fun k hk => hk.2.2.1)) _, by obtain ⟨_, _, he, hl, _⟩ := Kd.R_reads HR2.out; injection he with _ _ hc; subst hc; exact hl⟩)
  go_wp2_with fail
  refine (either_all toks.length (toks.length + 1) (by omega) (by omega) w2.heap.size s.size ⟨toks, 0, 0⟩ _ (Nat.le_refl _) HI.out).mono ?_
  rintro e w4 ⟨v4, rfl, hR, hI, hS⟩
  obtain ⟨A4, c4, rfl⟩ := Kd.R_slice hR
  have hsm := eitherP_small (oneP_small s.size (toks.length + 1)) ⟨toks, 0, 0⟩
  have HPF3 := Aside0.mk (show parseF s = (fun p : Fm × PS => endP p.1 (tooP p.1 (restP p.2))) (eitherP (oneP s.size (toks.length + 1)) ⟨toks, 0, 0⟩) from HPF2.out)
  obtain ⟨⟨y, st⟩, hy⟩ : ∃ p, eitherP (oneP s.size (toks.length + 1)) ⟨toks, 0, 0⟩ = p := ⟨_, rfl⟩
  rw [hy] at hR hI hsm HPF3 ⊢
  have HPF4 := Aside0.mk (show parseF s = endP y (tooP y (restP st)) from HPF3.out)
  have hys : size y ≤ 100000000 := by simp only at hsm; omega
  have hz4 : w2.heap.size < w4.heap.size := by have := hS.size; simp at this; omega
  have hQ : QS w (w4.alloc (.cells #[.int .i64 y.f0, .string y.f1, .int .i64 y.f2, .int .i64 y.f3, .slice A4 y.f4.length c4] 24)) w2.heap.size w4.heap.size s.size st y A4 c4 := by
   refine ⟨blk_alloc_old ((hS.block _ (by simp; omega) (by unfold OnlyP; omega)).trans (blk_alloc_old HRES.out _)) _, hI.below (below_alloc (Below.refl _ _) _), blk_new _ _ rfl, Kd.R_alloc (Kd.R_lower hR (by simp)) _, ?_, hz2, hz4⟩
   have h3 := below_alloc HB2.out (.cells #[.slice A toks.length c, .int .i64 s.size, .int .i64 0, .int .i64 0] 71)
   exact below_alloc ⟨hS.os.trans h3.os, hS.tape.trans h3.tape, hS.output.trans h3.output, Nat.le_trans h3.size hS.size, fun k hk => (hS.block k (by simp; omega) (by unfold OnlyP; omega)).trans (h3.block k hk)⟩ _
  have HQ := Aside0.mk hQ
  have HYS := Aside0.mk hys
  clear hR hI hS hy HPF2 HPF3 hsm hys hQ HI HR2 HRES HB2 hlen
  have hlen4 := hz4
  obtain ⟨At, ct, hpb, hFt, hct⟩ := HQ.out.par.blk
  have hp0 := blk_cell hpb 0
  have hp2 := blk_cell hpb 2
  have hp3 := blk_cell hpb 3
  have hadd : (w4.alloc (.cells #[.int .i64 y.f0, .string y.f1, .int .i64 y.f2, .int .i64 y.f3, .slice A4 y.f4.length c4] 24)).heap.size = w4.heap.size + 1 := by simp
  obtain ⟨tk, er, ofs⟩ := st
  simp only at hp0 hp2 hp3 hFt hct
  cases tk with
  | nil =>
   have HPF5 := Aside0.mk (show parseF s = endP y (tooP y ⟨[], er, ofs⟩) from HPF4.out)
   have HQ5 := HQ
   simp only [List.length_nil] at hp0
   clear hFt hpb HPF4 hadd
   have HC8 := Aside0.mk (show Kd.C kFm (w4.alloc (.cells #[.int .i64 y.f0, .string y.f1, .int .i64 y.f2, .int .i64 y.f3, .slice A4 y.f4.length c4] 24)) A4 y.f4.length y.f4 ∧ y.f4.length ≤ c4 from by obtain ⟨_, _, he, hl, hC⟩ := Kd.R_reads HQ5.out.row; injection he with h1 h2 h3; subst h1; subst h3; exact ⟨hC, hl⟩)
   by_cases h0 : er = 0
   ·have e1 : (er == 0) = true := by simpa using h0
    have H0 := Aside0.mk h0
    clear h0
    have hk0 := blk_cell HQ5.out.box 0
    have hk1 := blk_cell HQ5.out.box 1
    have hk2 := blk_cell HQ5.out.box 2
    have hk3 := blk_cell HQ5.out.box 3
    have hk4 := blk_cell HQ5.out.box 4
    go_wp2_with fail
    refine (large_calls y A4 c4 _ HC8.out.1 HC8.out.2 HYS.out).mono ?_
    rintro e w8 ⟨rfl, hb⟩
    have HQ8 := Aside0.mk (HQ5.out.below hb)
    clear hb HQ5 HC8 hk0 hk1 hk2 hk3 hk4 hp0 hp2 hp3 HQ hct
    obtain ⟨At8, ct8, hpb, hFt, hct8⟩ := HQ8.out.par.blk
    have hp0 := blk_cell hpb 0
    have hp2 := blk_cell hpb 2
    have hp3 := blk_cell hpb 3
    clear hpb hFt hct8
    cases hL : isLarge y
    ·have HX := Aside0.mk (show parseF s = (y, 0, 0) by rw [HPF5.out, tooP, if_neg (by rw [hL]; simp), endP, if_pos H0.out])
     have e2 : (er != 0) = false := by simp [H0.out]
     clear H0
     have hk0 := blk_cell HQ8.out.box 0
     have hk1 := blk_cell HQ8.out.box 1
     have hk2 := blk_cell HQ8.out.box 2
     have hk3 := blk_cell HQ8.out.box 3
     have hk4 := blk_cell HQ8.out.box 4
     have hf0 := blk_cell HQ8.out.res 0
     have hg0 := blk_frozen HQ8.out.res 0
     have hf1 := blk_cell HQ8.out.res 1
     have hg1 := blk_frozen HQ8.out.res 1
     have hf2 := blk_cell HQ8.out.res 2
     have hg2 := blk_frozen HQ8.out.res 2
     have hf3 := blk_cell HQ8.out.res 3
     have hg3 := blk_frozen HQ8.out.res 3
     have hf4 := blk_cell HQ8.out.res 4
     have hg4 := blk_frozen HQ8.out.res 4
     go_wp2
     refine bodyPost_ret (results_ctt rfl _ _ w.heap.size 24 #[.int .i64 y.f0, .string y.f1, .int .i64 y.f2, .int .i64 y.f3, .slice A4 y.f4.length c4] (0, 0) _ rfl (put5 HQ8.out.res _ _ _ _ _) Tryz.underlying24 rfl (by kernel_rfl)) rfl ?_
     refine ⟨.slice A4 y.f4.length c4, ?_, ?_, (((((HQ8.out.old.setCell (p := ⟨w.heap.size, 0, none⟩) (Nat.le_refl _) _).setCell (p := ⟨w.heap.size, 1, none⟩) (Nat.le_refl _) _).setCell (p := ⟨w.heap.size, 2, none⟩) (Nat.le_refl _) _).setCell (p := ⟨w.heap.size, 3, none⟩) (Nat.le_refl _) _).setCell (p := ⟨w.heap.size, 4, none⟩) (Nat.le_refl _) _)⟩
     ·rw [HX.out]; rfl
     ·rw [HX.out]
      exact Kd.R_lower (Kd.R_mono (Kd.R_step (Kd.R_bound HQ8.out.row) (fun k hk _ => put5_other _ _ _ _ _ _ _ (by have := hk.2.1; omega))) (fun _ _ => trivial)) (by omega)
    ·have HX := Aside0.mk (show parseF s = (z24, 2, -1) by rw [HPF5.out, tooP, if_pos ⟨H0.out, hL⟩, failP, if_pos H0.out, endP]; rfl)
     go_wp2_with fail
     refine (fail_calls w2.heap.size s.size ⟨[], er, ofs⟩ 2 (-1) _ HQ8.out.par).mono ?_
     rintro e w9 ⟨rfl, hI, hS⟩
     have hQ9 := HQ8.out.step hI hS
     rw [show failP 2 (-1) ⟨[], er, ofs⟩ = ⟨[], 2, -1⟩ from if_pos H0.out] at hQ9
     have HQ9 := Aside0.mk hQ9
     clear hI hS HQ8 hQ9 hp0 hp2 hp3
     obtain ⟨At8, ct8, hpb, hFt, hct8⟩ := HQ9.out.par.blk
     have hp0 := blk_cell hpb 0
     have hp2 := blk_cell hpb 2
     have hp3 := blk_cell hpb 3
     clear hpb hFt hct8
     have hf0 := blk_cell HQ9.out.res 0
     have hg0 := blk_frozen HQ9.out.res 0
     have hf1 := blk_cell HQ9.out.res 1
     have hg1 := blk_frozen HQ9.out.res 1
     have hf2 := blk_cell HQ9.out.res 2
     have hg2 := blk_frozen HQ9.out.res 2
     have hf3 := blk_cell HQ9.out.res 3
     have hg3 := blk_frozen HQ9.out.res 3
     have hf4 := blk_cell HQ9.out.res 4
     have hg4 := blk_frozen HQ9.out.res 4
     have hbne : w2.heap.size ≠ w.heap.size := by omega
     have hbne' : w.heap.size ≠ w2.heap.size := by omega
     go_wp2
     have hq2 : (w9).drew.cell? ⟨w2.heap.size, 2, none⟩ = some (.int .i64 (2)) := hp2
     have hq3 : (w9).drew.cell? ⟨w2.heap.size, 3, none⟩ = some (.int .i64 (-1)) := hp3
     have hs2 : ((((((w9).setCell ⟨w.heap.size, 0, none⟩ (.int .i64 0)).setCell ⟨w.heap.size, 1, none⟩ (.string ⟨#[]⟩)).setCell ⟨w.heap.size, 2, none⟩ (.int .i64 0)).setCell ⟨w.heap.size, 3, none⟩ (.int .i64 0)).setCell ⟨w.heap.size, 4, none⟩ (.slice none 0 0)).drew.cell? ⟨w2.heap.size, 2, none⟩ = some (.int .i64 (2)) := put5_cell (w9) _ _ _ _ _ _ hbne hp2
     have hs3 : ((((((w9).setCell ⟨w.heap.size, 0, none⟩ (.int .i64 0)).setCell ⟨w.heap.size, 1, none⟩ (.string ⟨#[]⟩)).setCell ⟨w.heap.size, 2, none⟩ (.int .i64 0)).setCell ⟨w.heap.size, 3, none⟩ (.int .i64 0)).setCell ⟨w.heap.size, 4, none⟩ (.slice none 0 0)).drew.cell? ⟨w2.heap.size, 3, none⟩ = some (.int .i64 (-1)) := put5_cell (w9) _ _ _ _ _ _ hbne hp3
     go_region_held3 (fun w' => w'.cell? ⟨w2.heap.size, 2, none⟩ = some (.int .i64 (2)) ∧ w'.cell? ⟨w2.heap.size, 3, none⟩ = some (.int .i64 (-1)))
      (refine ⟨?_, ?_⟩ <;> with_reducible assumption) (fail)
     all_goals
      clear hq2 hq3 hs2 hs3
      try go_wp2
      refine bodyPost_ret (results_ctt rfl _ _ w.heap.size 24 zFm (0, 0) _ rfl (blk_drew_old (put5 HQ9.out.res _ _ _ _ _)) Tryz.underlying24 rfl (by kernel_rfl)) rfl ?_
      refine ⟨.slice none 0 0, ?_, by rw [HX.out]; exact Kd.R_nil _ _ _ _ _, below_drew (((((HQ9.out.old.setCell (p := ⟨w.heap.size, 0, none⟩) (Nat.le_refl _) _).setCell (p := ⟨w.heap.size, 1, none⟩) (Nat.le_refl _) _).setCell (p := ⟨w.heap.size, 2, none⟩) (Nat.le_refl _) _).setCell (p := ⟨w.heap.size, 3, none⟩) (Nat.le_refl _) _).setCell (p := ⟨w.heap.size, 4, none⟩) (Nat.le_refl _) _)⟩
      rw [HX.out]; rfl
   ·have e1 : (er == 0) = false := by simpa using h0
    have e2 : (er != 0) = true := by simpa using h0
    have HX := Aside0.mk (show parseF s = (z24, er, ofs) by rw [HPF5.out, tooP, if_neg (fun h => h0 h.1), endP, if_neg h0])
    clear h0
    have hf0 := blk_cell HQ5.out.res 0
    have hg0 := blk_frozen HQ5.out.res 0
    have hf1 := blk_cell HQ5.out.res 1
    have hg1 := blk_frozen HQ5.out.res 1
    have hf2 := blk_cell HQ5.out.res 2
    have hg2 := blk_frozen HQ5.out.res 2
    have hf3 := blk_cell HQ5.out.res 3
    have hg3 := blk_frozen HQ5.out.res 3
    have hf4 := blk_cell HQ5.out.res 4
    have hg4 := blk_frozen HQ5.out.res 4
    have hbne : w2.heap.size ≠ w.heap.size := by omega
    have hbne' : w.heap.size ≠ w2.heap.size := by omega
    go_wp2
    have hq2 : ((w4.alloc (.cells #[.int .i64 y.f0, .string y.f1, .int .i64 y.f2, .int .i64 y.f3, .slice A4 y.f4.length c4] 24))).drew.cell? ⟨w2.heap.size, 2, none⟩ = some (.int .i64 (er)) := hp2
    have hq3 : ((w4.alloc (.cells #[.int .i64 y.f0, .string y.f1, .int .i64 y.f2, .int .i64 y.f3, .slice A4 y.f4.length c4] 24))).drew.cell? ⟨w2.heap.size, 3, none⟩ = some (.int .i64 (ofs)) := hp3
    have hs2 : (((((((w4.alloc (.cells #[.int .i64 y.f0, .string y.f1, .int .i64 y.f2, .int .i64 y.f3, .slice A4 y.f4.length c4] 24))).setCell ⟨w.heap.size, 0, none⟩ (.int .i64 0)).setCell ⟨w.heap.size, 1, none⟩ (.string ⟨#[]⟩)).setCell ⟨w.heap.size, 2, none⟩ (.int .i64 0)).setCell ⟨w.heap.size, 3, none⟩ (.int .i64 0)).setCell ⟨w.heap.size, 4, none⟩ (.slice none 0 0)).drew.cell? ⟨w2.heap.size, 2, none⟩ = some (.int .i64 (er)) := put5_cell ((w4.alloc (.cells #[.int .i64 y.f0, .string y.f1, .int .i64 y.f2, .int .i64 y.f3, .slice A4 y.f4.length c4] 24))) _ _ _ _ _ _ hbne hp2
    have hs3 : (((((((w4.alloc (.cells #[.int .i64 y.f0, .string y.f1, .int .i64 y.f2, .int .i64 y.f3, .slice A4 y.f4.length c4] 24))).setCell ⟨w.heap.size, 0, none⟩ (.int .i64 0)).setCell ⟨w.heap.size, 1, none⟩ (.string ⟨#[]⟩)).setCell ⟨w.heap.size, 2, none⟩ (.int .i64 0)).setCell ⟨w.heap.size, 3, none⟩ (.int .i64 0)).setCell ⟨w.heap.size, 4, none⟩ (.slice none 0 0)).drew.cell? ⟨w2.heap.size, 3, none⟩ = some (.int .i64 (ofs)) := put5_cell ((w4.alloc (.cells #[.int .i64 y.f0, .string y.f1, .int .i64 y.f2, .int .i64 y.f3, .slice A4 y.f4.length c4] 24))) _ _ _ _ _ _ hbne hp3
    go_region_held3 (fun w' => w'.cell? ⟨w2.heap.size, 2, none⟩ = some (.int .i64 (er)) ∧ w'.cell? ⟨w2.heap.size, 3, none⟩ = some (.int .i64 (ofs)))
     (refine ⟨?_, ?_⟩ <;> with_reducible assumption) (fail)
    all_goals
     clear hq2 hq3 hs2 hs3
     try go_wp2
     refine bodyPost_ret (results_ctt rfl _ _ w.heap.size 24 zFm (0, 0) _ rfl (blk_drew_old (put5 HQ5.out.res _ _ _ _ _)) Tryz.underlying24 rfl (by kernel_rfl)) rfl ?_
     refine ⟨.slice none 0 0, ?_, by rw [HX.out]; exact Kd.R_nil _ _ _ _ _, below_drew (((((HQ5.out.old.setCell (p := ⟨w.heap.size, 0, none⟩) (Nat.le_refl _) _).setCell (p := ⟨w.heap.size, 1, none⟩) (Nat.le_refl _) _).setCell (p := ⟨w.heap.size, 2, none⟩) (Nat.le_refl _) _).setCell (p := ⟨w.heap.size, 3, none⟩) (Nat.le_refl _) _).setCell (p := ⟨w.heap.size, 4, none⟩) (Nat.le_refl _) _)⟩
     rw [HX.out]; rfl
  | cons t r =>
   obtain ⟨ad, rfl, hok, k0, k1, k2, k3⟩ := tok_atF hFt 0 (by simp)
   have e0 : ad.add (0 * 4) = ad := by simp [Addr.add]
   rw [e0] at k0 k1 k2 k3
   simp only [List.getElem_cons_zero] at k0 k1 k2 k3
   have hm : (r.length + 1) ≤ 9223372036854775807 := Kd.F_max hFt
   simp only [List.length_cons] at hp0 hct
   have hadlt : ad.block < w4.heap.size := by omega
   have k1' := cell_unalloc (W := w4) k1 hadlt
   have hpp0 := cell_unalloc (W := w4) (show _ = some (.slice (some ad) (r.length + 1) ct) from hp0) hz4
   clear hFt hpb e0 k0 k1 k2 k3 hp0 hp2 hp3 hadd
   go_wp2_with fail
   refine (fail_calls w2.heap.size s.size ⟨t :: r, er, ofs⟩ 5 t.f1 _ HQ.out.par).mono ?_
   rintro e w6 ⟨rfl, hI, hS⟩
   have HQ5 := Aside0.mk (HQ.out.step hI hS)
   have HPF5 := Aside0.mk (show parseF s = endP y (tooP y (failP 5 t.f1 ⟨t :: r, er, ofs⟩)) from HPF4.out)
   obtain ⟨⟨tk, er2, of2⟩, hst⟩ : ∃ q, failP 5 t.f1 ⟨t :: r, er, ofs⟩ = q := ⟨_, rfl⟩
   rw [hst] at HQ5 HPF5
   clear hst hI hS HQ HPF4 k1' hpp0 hct
   obtain ⟨At, ct, hpb, hFt, hct⟩ := HQ5.out.par.blk
   have hp0 := blk_cell hpb 0
   have hp2 := blk_cell hpb 2
   have hp3 := blk_cell hpb 3
   clear hpb hFt
   have HC8 := Aside0.mk (show Kd.C kFm w6 A4 y.f4.length y.f4 ∧ y.f4.length ≤ c4 from by obtain ⟨_, _, he, hl, hC⟩ := Kd.R_reads HQ5.out.row; injection he with h1 h2 h3; subst h1; subst h3; exact ⟨hC, hl⟩)
   by_cases h0 : er2 = 0
   ·have e1 : (er2 == 0) = true := by simpa using h0
    have H0 := Aside0.mk h0
    clear h0
    have hk0 := blk_cell HQ5.out.box 0
    have hk1 := blk_cell HQ5.out.box 1
    have hk2 := blk_cell HQ5.out.box 2
    have hk3 := blk_cell HQ5.out.box 3
    have hk4 := blk_cell HQ5.out.box 4
    go_wp2_with fail
    refine (large_calls y A4 c4 _ HC8.out.1 HC8.out.2 HYS.out).mono ?_
    rintro e w8 ⟨rfl, hb⟩
    have HQ8 := Aside0.mk (HQ5.out.below hb)
    clear hb HQ5 HC8 hk0 hk1 hk2 hk3 hk4 hp0 hp2 hp3 hct
    obtain ⟨At8, ct8, hpb, hFt, hct8⟩ := HQ8.out.par.blk
    have hp0 := blk_cell hpb 0
    have hp2 := blk_cell hpb 2
    have hp3 := blk_cell hpb 3
    clear hpb hFt hct8
    cases hL : isLarge y
    ·have HX := Aside0.mk (show parseF s = (y, 0, 0) by rw [HPF5.out, tooP, if_neg (by rw [hL]; simp), endP, if_pos H0.out])
     have e2 : (er2 != 0) = false := by simp [H0.out]
     clear H0
     have hk0 := blk_cell HQ8.out.box 0
     have hk1 := blk_cell HQ8.out.box 1
     have hk2 := blk_cell HQ8.out.box 2
     have hk3 := blk_cell HQ8.out.box 3
     have hk4 := blk_cell HQ8.out.box 4
     have hf0 := blk_cell HQ8.out.res 0
     have hg0 := blk_frozen HQ8.out.res 0
     have hf1 := blk_cell HQ8.out.res 1
     have hg1 := blk_frozen HQ8.out.res 1
     have hf2 := blk_cell HQ8.out.res 2
     have hg2 := blk_frozen HQ8.out.res 2
     have hf3 := blk_cell HQ8.out.res 3
     have hg3 := blk_frozen HQ8.out.res 3
     have hf4 := blk_cell HQ8.out.res 4
     have hg4 := blk_frozen HQ8.out.res 4
     go_wp2
     refine bodyPost_ret (results_ctt rfl _ _ w.heap.size 24 #[.int .i64 y.f0, .string y.f1, .int .i64 y.f2, .int .i64 y.f3, .slice A4 y.f4.length c4] (0, 0) _ rfl (put5 HQ8.out.res _ _ _ _ _) Tryz.underlying24 rfl (by kernel_rfl)) rfl ?_
     refine ⟨.slice A4 y.f4.length c4, ?_, ?_, (((((HQ8.out.old.setCell (p := ⟨w.heap.size, 0, none⟩) (Nat.le_refl _) _).setCell (p := ⟨w.heap.size, 1, none⟩) (Nat.le_refl _) _).setCell (p := ⟨w.heap.size, 2, none⟩) (Nat.le_refl _) _).setCell (p := ⟨w.heap.size, 3, none⟩) (Nat.le_refl _) _).setCell (p := ⟨w.heap.size, 4, none⟩) (Nat.le_refl _) _)⟩
     ·rw [HX.out]; rfl
     ·rw [HX.out]
      exact Kd.R_lower (Kd.R_mono (Kd.R_step (Kd.R_bound HQ8.out.row) (fun k hk _ => put5_other _ _ _ _ _ _ _ (by have := hk.2.1; omega))) (fun _ _ => trivial)) (by omega)
    ·have HX := Aside0.mk (show parseF s = (z24, 2, -1) by rw [HPF5.out, tooP, if_pos ⟨H0.out, hL⟩, failP, if_pos H0.out, endP]; rfl)
     go_wp2_with fail
     refine (fail_calls w2.heap.size s.size ⟨tk, er2, of2⟩ 2 (-1) _ HQ8.out.par).mono ?_
     rintro e w9 ⟨rfl, hI, hS⟩
     have hQ9 := HQ8.out.step hI hS
     rw [show failP 2 (-1) ⟨tk, er2, of2⟩ = ⟨[], 2, -1⟩ from if_pos H0.out] at hQ9
     have HQ9 := Aside0.mk hQ9
     clear hI hS HQ8 hQ9 hp0 hp2 hp3
     obtain ⟨At8, ct8, hpb, hFt, hct8⟩ := HQ9.out.par.blk
     have hp0 := blk_cell hpb 0
     have hp2 := blk_cell hpb 2
     have hp3 := blk_cell hpb 3
     clear hpb hFt hct8
     have hf0 := blk_cell HQ9.out.res 0
     have hg0 := blk_frozen HQ9.out.res 0
     have hf1 := blk_cell HQ9.out.res 1
     have hg1 := blk_frozen HQ9.out.res 1
     have hf2 := blk_cell HQ9.out.res 2
     have hg2 := blk_frozen HQ9.out.res 2
     have hf3 := blk_cell HQ9.out.res 3
     have hg3 := blk_frozen HQ9.out.res 3
     have hf4 := blk_cell HQ9.out.res 4
     have hg4 := blk_frozen HQ9.out.res 4
     have hbne : w2.heap.size ≠ w.heap.size := by omega
     have hbne' : w.heap.size ≠ w2.heap.size := by omega
     go_wp2
     have hq2 : (w9).drew.cell? ⟨w2.heap.size, 2, none⟩ = some (.int .i64 (2)) := hp2
     have hq3 : (w9).drew.cell? ⟨w2.heap.size, 3, none⟩ = some (.int .i64 (-1)) := hp3
     have hs2 : ((((((w9).setCell ⟨w.heap.size, 0, none⟩ (.int .i64 0)).setCell ⟨w.heap.size, 1, none⟩ (.string ⟨#[]⟩)).setCell ⟨w.heap.size, 2, none⟩ (.int .i64 0)).setCell ⟨w.heap.size, 3, none⟩ (.int .i64 0)).setCell ⟨w.heap.size, 4, none⟩ (.slice none 0 0)).drew.cell? ⟨w2.heap.size, 2, none⟩ = some (.int .i64 (2)) := put5_cell (w9) _ _ _ _ _ _ hbne hp2
     have hs3 : ((((((w9).setCell ⟨w.heap.size, 0, none⟩ (.int .i64 0)).setCell ⟨w.heap.size, 1, none⟩ (.string ⟨#[]⟩)).setCell ⟨w.heap.size, 2, none⟩ (.int .i64 0)).setCell ⟨w.heap.size, 3, none⟩ (.int .i64 0)).setCell ⟨w.heap.size, 4, none⟩ (.slice none 0 0)).drew.cell? ⟨w2.heap.size, 3, none⟩ = some (.int .i64 (-1)) := put5_cell (w9) _ _ _ _ _ _ hbne hp3
     go_region_held3 (fun w' => w'.cell? ⟨w2.heap.size, 2, none⟩ = some (.int .i64 (2)) ∧ w'.cell? ⟨w2.heap.size, 3, none⟩ = some (.int .i64 (-1)))
      (refine ⟨?_, ?_⟩ <;> with_reducible assumption) (fail)
     all_goals
      clear hq2 hq3 hs2 hs3
      try go_wp2
      refine bodyPost_ret (results_ctt rfl _ _ w.heap.size 24 zFm (0, 0) _ rfl (blk_drew_old (put5 HQ9.out.res _ _ _ _ _)) Tryz.underlying24 rfl (by kernel_rfl)) rfl ?_
      refine ⟨.slice none 0 0, ?_, by rw [HX.out]; exact Kd.R_nil _ _ _ _ _, below_drew (((((HQ9.out.old.setCell (p := ⟨w.heap.size, 0, none⟩) (Nat.le_refl _) _).setCell (p := ⟨w.heap.size, 1, none⟩) (Nat.le_refl _) _).setCell (p := ⟨w.heap.size, 2, none⟩) (Nat.le_refl _) _).setCell (p := ⟨w.heap.size, 3, none⟩) (Nat.le_refl _) _).setCell (p := ⟨w.heap.size, 4, none⟩) (Nat.le_refl _) _)⟩
      rw [HX.out]; rfl
   ·have e1 : (er2 == 0) = false := by simpa using h0
    have e2 : (er2 != 0) = true := by simpa using h0
    have HX := Aside0.mk (show parseF s = (z24, er2, of2) by rw [HPF5.out, tooP, if_neg (fun h => h0 h.1), endP, if_neg h0])
    clear h0
    have hf0 := blk_cell HQ5.out.res 0
    have hg0 := blk_frozen HQ5.out.res 0
    have hf1 := blk_cell HQ5.out.res 1
    have hg1 := blk_frozen HQ5.out.res 1
    have hf2 := blk_cell HQ5.out.res 2
    have hg2 := blk_frozen HQ5.out.res 2
    have hf3 := blk_cell HQ5.out.res 3
    have hg3 := blk_frozen HQ5.out.res 3
    have hf4 := blk_cell HQ5.out.res 4
    have hg4 := blk_frozen HQ5.out.res 4
    have hbne : w2.heap.size ≠ w.heap.size := by omega
    have hbne' : w.heap.size ≠ w2.heap.size := by omega
    go_wp2
    have hq2 : (w6).drew.cell? ⟨w2.heap.size, 2, none⟩ = some (.int .i64 (er2)) := hp2
    have hq3 : (w6).drew.cell? ⟨w2.heap.size, 3, none⟩ = some (.int .i64 (of2)) := hp3
    have hs2 : ((((((w6).setCell ⟨w.heap.size, 0, none⟩ (.int .i64 0)).setCell ⟨w.heap.size, 1, none⟩ (.string ⟨#[]⟩)).setCell ⟨w.heap.size, 2, none⟩ (.int .i64 0)).setCell ⟨w.heap.size, 3, none⟩ (.int .i64 0)).setCell ⟨w.heap.size, 4, none⟩ (.slice none 0 0)).drew.cell? ⟨w2.heap.size, 2, none⟩ = some (.int .i64 (er2)) := put5_cell (w6) _ _ _ _ _ _ hbne hp2
    have hs3 : ((((((w6).setCell ⟨w.heap.size, 0, none⟩ (.int .i64 0)).setCell ⟨w.heap.size, 1, none⟩ (.string ⟨#[]⟩)).setCell ⟨w.heap.size, 2, none⟩ (.int .i64 0)).setCell ⟨w.heap.size, 3, none⟩ (.int .i64 0)).setCell ⟨w.heap.size, 4, none⟩ (.slice none 0 0)).drew.cell? ⟨w2.heap.size, 3, none⟩ = some (.int .i64 (of2)) := put5_cell (w6) _ _ _ _ _ _ hbne hp3
    go_region_held3 (fun w' => w'.cell? ⟨w2.heap.size, 2, none⟩ = some (.int .i64 (er2)) ∧ w'.cell? ⟨w2.heap.size, 3, none⟩ = some (.int .i64 (of2)))
     (refine ⟨?_, ?_⟩ <;> with_reducible assumption) (fail)
    all_goals
     clear hq2 hq3 hs2 hs3
     try go_wp2
     refine bodyPost_ret (results_ctt rfl _ _ w.heap.size 24 zFm (0, 0) _ rfl (blk_drew_old (put5 HQ5.out.res _ _ _ _ _)) Tryz.underlying24 rfl (by kernel_rfl)) rfl ?_
     refine ⟨.slice none 0 0, ?_, by rw [HX.out]; exact Kd.R_nil _ _ _ _ _, below_drew (((((HQ5.out.old.setCell (p := ⟨w.heap.size, 0, none⟩) (Nat.le_refl _) _).setCell (p := ⟨w.heap.size, 1, none⟩) (Nat.le_refl _) _).setCell (p := ⟨w.heap.size, 2, none⟩) (Nat.le_refl _) _).setCell (p := ⟨w.heap.size, 3, none⟩) (Nat.le_refl _) _).setCell (p := ⟨w.heap.size, 4, none⟩) (Nat.le_refl _) _)⟩
     rw [HX.out]; rfl
 ·have b0 : (err != 0) = true := by simpa using he
  have HPF2 := Aside0.mk (HPF.out.trans (if_neg he))
  clear HPF he
  have hf0 := blk_cell HRES.out 0
  have hg0 := blk_frozen HRES.out 0
  have hf1 := blk_cell HRES.out 1
  have hg1 := blk_frozen HRES.out 1
  have hf2 := blk_cell HRES.out 2
  have hg2 := blk_frozen HRES.out 2
  have hf3 := blk_cell HRES.out 3
  have hg3 := blk_frozen HRES.out 3
  have hf4 := blk_cell HRES.out 4
  have hg4 := blk_frozen HRES.out 4
  go_wp2
  refine bodyPost_ret (results_ctt rfl _ _ w.heap.size 24 zFm (0, 0) _ rfl (put5 HRES.out _ _ _ _ _) Tryz.underlying24 rfl (by kernel_rfl)) rfl ?_
  refine ⟨.slice none 0 0, ?_, by rw [HPF2.out]; exact Kd.R_nil _ _ _ _ _, (((((HB2.out.setCell (p := ⟨w.heap.size, 0, none⟩) (Nat.le_refl _) _).setCell (p := ⟨w.heap.size, 1, none⟩) (Nat.le_refl _) _).setCell (p := ⟨w.heap.size, 2, none⟩) (Nat.le_refl _) _).setCell (p := ⟨w.heap.size, 3, none⟩) (Nat.le_refl _) _).setCell (p := ⟨w.heap.size, 4, none⟩) (Nat.le_refl _) _)⟩
  rw [HPF2.out]; rfl
end Go.Proofs.YtkgmempifggajaaGreatDoor.P
/- What head computes, and the two makers of formulas. -/
namespace Go.Proofs.YtkgmempifggajaaGreatDoor.P
open Go.RowKit Go.Proofs.YtkgmempifggajaaGreatDoorW.PrintWords Go.Proofs.YtkgmempifggajaaGreatDoorW.PrintLast Go.Proofs.YtkgmempifggajaaGreatDoorW.PrintMore
set_option linter.unusedVariables false
set_option linter.unusedSimpArgs false
def hWeight : ByteArray := ⟨#[119, 101, 105, 103, 104, 116]⟩
def hUsed : ByteArray := ⟨#[117, 115, 101, 100]⟩
def hNone : ByteArray := ⟨#[110, 111, 110, 101]⟩
def hDom : List Fact := [⟨hWeight, 2, 0, 150⟩, ⟨hUsed, 1, 0, 1⟩]
def hT1 : Fm := ⟨3, hWeight, 6, 18, []⟩
def hT2 : Fm := ⟨3, hUsed, 1, 1, []⟩
def hNot : Fm := ⟨4, ⟨#[]⟩, 0, 0, [hT2]⟩
def hF : Fm := ⟨5, ⟨#[]⟩, 0, 0, [hT1, hNot]⟩
theorem h_size : size hF = 4 ∧ depth hF = 3 := by decide +kernel
theorem h_holds : holdsF hF hDom [20, 0] = true := by decide +kernel
theorem h_check1 : checkF ⟨3, hWeight, 1, 1000001, []⟩ hDom = 10 := by decide +kernel
theorem h_check2 : checkF ⟨3, hNone, 1, 1, []⟩ hDom = 7 := by decide +kernel
theorem h_check3 : checkF ⟨5, ⟨#[]⟩, 0, 0, [hF]⟩ hDom = 1 := by decide +kernel
theorem h_same : sameB hF hF = true := by decide +kernel
theorem h_text : textF hF = ([119, 101, 105, 103, 104, 116, 32, 62, 61, 32, 49, 56, 32, 97, 110, 100, 32, 110, 111, 116, 32, 117, 115, 101, 100, 32, 61, 32, 49], 0) := by decide +kernel
def hS1 : ByteArray := ⟨#[97, 32, 61, 32, 49, 32, 97, 110, 100, 32, 98, 32, 61, 32, 50, 32, 111, 114, 32, 40, 99, 32, 61, 32, 51, 41]⟩
def hS2 : ByteArray := ⟨#[119, 101, 105, 103, 104, 116, 32, 61, 32, 49, 48, 48, 48, 48, 48, 49]⟩
def hS3 : ByteArray := ⟨#[97, 32, 61]⟩
def hS4 : ByteArray := ⟨#[111, 114]⟩
def hG : Fm := ⟨6, ⟨#[]⟩, 0, 0, [⟨5, ⟨#[]⟩, 0, 0, [⟨3, ⟨#[97]⟩, 1, 1, []⟩, ⟨3, ⟨#[98]⟩, 1, 2, []⟩]⟩, ⟨3, ⟨#[99]⟩, 1, 3, []⟩]⟩
theorem h_parse1 : parseF hS1 = (hG, 0, 0) := by kernel_rfl
theorem h_parse2 : parseF hS2 = (z24, 10, 9) := by kernel_rfl
theorem h_parse3 : parseF hS3 = (z24, 6, 3) := by kernel_rfl
theorem h_parse4 : parseF hS4 = (z24, 5, 0) := by kernel_rfl
theorem h_text2 : textF hG = ([97, 32, 61, 32, 49, 32, 97, 110, 100, 32, 98, 32, 61, 32, 50, 32, 111, 114, 32, 99, 32, 61, 32, 51], 0) := by decide +kernel
theorem h_same2 : sameB hF hG = false := by decide +kernel
theorem h_num : firstE (numNode 99) hF = 0 ∧ firstE (numNode 99) hG = 0 := by decide +kernel
theorem h_len : (textL hF).length ≤ 8000000 ∧ (textL hG).length ≤ 8000000 ∧ size hG ≤ 1000000 := by decide +kernel
end Go.Proofs.YtkgmempifggajaaGreatDoor.P
/- head's makers of formulas; rows of formulas just laid. -/
namespace Go.Proofs.YtkgmempifggajaaGreatDoor.P
open Go.RowKit Go.Proofs.YtkgmempifggajaaGreatDoorW.PrintWords Go.Proofs.YtkgmempifggajaaGreatDoorW.PrintLast Go.Proofs.YtkgmempifggajaaGreatDoorW.PrintMore
set_option linter.unusedVariables false
set_option linter.unusedSimpArgs false
theorem test_calls (name : ByteArray) (cmp n : Int) (w : World) :
  Calls Tryz.prog 32 #[.string name, .int .i64 cmp, .int .i64 n] w fun e w' => e = .returned (.agg #[.int .i64 3, .string name, .int .i64 cmp, .int .i64 n, .slice none 0 0]) ∧ Below w.heap.size w w' := by
 go_enter Tryz.func32, Tryz.ntmps32
 go_wp2
 refine bodyPost_ret (results_cell_row rfl _ _ w.heap.size 24 #[.int .i64 3, .string name, .int .i64 cmp, .int .i64 n, .slice none 0 0] (0, 0) _ rfl (by (repeat (first | (refine blk_new _ _ ?_; first | rfl | (simp; done)) | refine blk_alloc_old ?_ _ | refine blk_drew_old ?_ | refine blk_drewN_old ?_ _ | assumption))) Tryz.underlying24 rfl (by kernel_rfl)) rfl ?_
 exact ⟨rfl, below_alloc (Below.refl _ _) _⟩
theorem both_calls (op : Int) (A : Option Addr) (n c : Nat) (w : World) (hc : n ≤ c) :
  Calls Tryz.prog 29 #[.int .i64 op, .slice A n c] w fun e w' => e = .returned (.agg #[.int .i64 op, .string ⟨#[]⟩, .int .i64 0, .int .i64 0, .slice A n c]) ∧ Below w.heap.size w w' := by
 go_enter Tryz.func29, Tryz.ntmps29
 go_wp2
 refine bodyPost_ret (results_cell_row rfl _ _ w.heap.size 24 #[.int .i64 op, .string ⟨#[]⟩, .int .i64 0, .int .i64 0, .slice A n c] (0, 0) _ rfl (by (repeat (first | (refine blk_new _ _ ?_; first | rfl | (simp; done)) | refine blk_alloc_old ?_ _ | refine blk_drew_old ?_ | refine blk_drewN_old ?_ _ | assumption))) Tryz.underlying24 rfl (by kernel_rfl)) rfl ?_
 exact ⟨rfl, below_alloc (Below.refl _ _) _⟩
theorem fms_C {w : World} {g : Nat} {cells : Array Value} {t : TypeId} (hb : w.heap[g]? = some (.cells cells t (0, 0))) (xs : List Fm) (hn : xs.length ≤ 9223372036854775807)
  (h : ∀ j (hj : j < xs.length), ∃ A c, xs[j].f4.length ≤ c ∧ Kd.C kFm w A xs[j].f4.length xs[j].f4 ∧ ∀ i u, [Value.int .i64 xs[j].f0, .string xs[j].f1, .int .i64 xs[j].f2, .int .i64 xs[j].f3, .slice A xs[j].f4.length c][i]? = some u → cells[j * 5 + i]? = some u) :
  Kd.C kFm w (some ⟨g, 0, none⟩) xs.length xs := by
 refine ⟨rfl, hn, fun _ => ⟨⟨g, 0, none⟩, rfl, fun j p hj => ?_⟩⟩
 obtain ⟨hj1, rfl⟩ := List.getElem?_eq_some_iff.1 hj
 obtain ⟨A, c, hc, hC, hcells⟩ := h j hj1
 refine ⟨[Value.int .i64 xs[j].f0, .string xs[j].f1, .int .i64 xs[j].f2, .int .i64 xs[j].f3, .slice A xs[j].f4.length c], rfl, k24_mk w xs[j] hc hC, fun i u hu => ?_⟩
 have h5 : kFm.sz = 5 := rfl
 rw [h5]
 have := blk_cell hb (j * 5 + i)
 have e : (⟨g, 0, none⟩ : Addr).add (j * 5 + i) = ⟨g, j * 5 + i, none⟩ := by
  unfold Addr.add
  split
  ·rename_i h0; rw [h0]
  ·simp
 rw [e, this]
 exact hcells i u hu
theorem fms_nil (w : World) : Kd.C kFm w none ([] : List Fm).length [] := Kd.C_nil _ _
end Go.Proofs.YtkgmempifggajaaGreatDoor.P
/- head's own memory. -/
namespace Go.Proofs.YtkgmempifggajaaGreatDoor.P
open Go.RowKit Go.Proofs.YtkgmempifggajaaGreatDoorW.PrintWords Go.Proofs.YtkgmempifggajaaGreatDoorW.PrintLast Go.Proofs.YtkgmempifggajaaGreatDoorW.PrintMore
set_option linter.unusedVariables false
set_option linter.unusedSimpArgs false
abbrev cT2 : Array Value := #[.int .i64 3, .string ⟨#[117, 115, 101, 100]⟩, .int .i64 1, .int .i64 1, .slice none 0 0]
abbrev cK2 (k1 : Nat) : Array Value := #[.int .i64 3, .string ⟨#[119, 101, 105, 103, 104, 116]⟩, .int .i64 6, .int .i64 18, .slice none 0 0, .int .i64 4, .string ⟨#[]⟩, .int .i64 0, .int .i64 0, .slice (some ⟨k1, 0, none⟩) 1 1]
abbrev cF (k2 : Nat) : Array Value := #[.int .i64 5, .string ⟨#[]⟩, .int .i64 0, .int .i64 0, .slice (some ⟨k2, 0, none⟩) 2 2]
abbrev cDom : Array Value := #[.string ⟨#[119, 101, 105, 103, 104, 116]⟩, .int .i64 2, .int .i64 0, .int .i64 150, .string ⟨#[117, 115, 101, 100]⟩, .int .i64 1, .int .i64 0, .int .i64 1]
structure HD (w0 w : World) : Prop where
 d0 : w.heap[w0.heap.size]? = some (.cells cDom 49 (0, 0))
 d1 : w.heap[w0.heap.size + 1]? = some (.cells #[.slice (some ⟨w0.heap.size, 0, none⟩) 2 2] 27 (0, 0))
 d2 : w.heap[w0.heap.size + 1 + 1]? = some (.cells #[.int .i64 20, .int .i64 0] 3 (0, 0))
 old : Below w0.heap.size w0 w
theorem HD.below {w0 w w1 : World} (h : HD w0 w) (hb : Below w.heap.size w w1) : HD w0 w1 :=
 ⟨(hb.block _ (lt_of_block h.d0)).trans h.d0, (hb.block _ (lt_of_block h.d1)).trans h.d1, (hb.block _ (lt_of_block h.d2)).trans h.d2, h.old.trans (hb.mono h.old.size)⟩
theorem HD.alloc {w0 w : World} (h : HD w0 w) (o : Obj) : HD w0 (w.alloc o) := h.below (below_alloc (Below.refl _ _) o)
structure HFm (w0 w : World) (k1 k2 g : Nat) : Prop where
 hd : HD w0 w
 b1 : w.heap[k1]? = some (.cells cT2 24 (0, 0))
 b2 : w.heap[k2]? = some (.cells (cK2 k1) 24 (0, 0))
 b3 : w.heap[g]? = some (.cells (cF k2) 24 (0, 0))
theorem HFm.below {w0 w w1 : World} {k1 k2 g : Nat} (h : HFm w0 w k1 k2 g) (hb : Below w.heap.size w w1) : HFm w0 w1 k1 k2 g :=
 ⟨h.hd.below hb, (hb.block _ (lt_of_block h.b1)).trans h.b1, (hb.block _ (lt_of_block h.b2)).trans h.b2, (hb.block _ (lt_of_block h.b3)).trans h.b3⟩
theorem HFm.alloc {w0 w : World} {k1 k2 g : Nat} (h : HFm w0 w k1 k2 g) (o : Obj) : HFm w0 (w.alloc o) k1 k2 g := h.below (below_alloc (Below.refl _ _) o)
theorem rows_C {w : World} {k1 k2 : Nat} (b1 : w.heap[k1]? = some (.cells cT2 24 (0, 0))) (b2 : w.heap[k2]? = some (.cells (cK2 k1) 24 (0, 0))) : Kd.C kFm w (some ⟨k2, 0, none⟩) hF.f4.length hF.f4 := by
 have h1 : Kd.C kFm w (some ⟨k1, 0, none⟩) hNot.f4.length hNot.f4 := by
  refine fms_C b1 [hT2] (by decide) (fun j hj => ?_)
  obtain rfl : j = 0 := by simp at hj; omega
  refine ⟨none, 0, Nat.le_refl _, fms_nil w, fun i u hu => ?_⟩
  simpa [hT2, hUsed] using hu
 refine fms_C b2 [hT1, hNot] (by decide) (fun j hj => ?_)
 rcases (show j = 0 ∨ j = 1 by simp at hj; omega) with rfl | rfl
 ·refine ⟨none, 0, Nat.le_refl _, fms_nil w, fun i u hu => ?_⟩
  have hi : i < 5 := by
   have := (List.getElem?_eq_some_iff.1 hu).1
   simpa using this
  rcases (show i = 0 ∨ i = 1 ∨ i = 2 ∨ i = 3 ∨ i = 4 by omega) with rfl | rfl | rfl | rfl | rfl <;> simpa [hT1, hWeight] using hu
 ·refine ⟨some ⟨k1, 0, none⟩, 1, Nat.le_refl _, h1, fun i u hu => ?_⟩
  have hi : i < 5 := by
   have := (List.getElem?_eq_some_iff.1 hu).1
   simpa using this
  rcases (show i = 0 ∨ i = 1 ∨ i = 2 ∨ i = 3 ∨ i = 4 by omega) with rfl | rfl | rfl | rfl | rfl <;> simpa [hNot] using hu
theorem HFm.C {w0 w : World} {k1 k2 g : Nat} (h : HFm w0 w k1 k2 g) : Kd.C kFm w (some ⟨k2, 0, none⟩) hF.f4.length hF.f4 := rows_C h.b1 h.b2
theorem dom_C {w : World} {b : Nat} (hb : w.heap[b]? = some (.cells cDom 49 (0, 0))) : Kd.C kFact w (some ⟨b, 0, none⟩) hDom.length hDom := by
 refine ⟨rfl, by decide, fun _ => ⟨⟨b, 0, none⟩, rfl, fun j p hj => ?_⟩⟩
 obtain ⟨hj1, rfl⟩ := List.getElem?_eq_some_iff.1 hj
 refine ⟨[.string hDom[j].f0, .int .i64 hDom[j].f1, .int .i64 hDom[j].f2, .int .i64 hDom[j].f3], rfl, k49_mk w hDom[j], fun i u hu => ?_⟩
 have h4 : kFact.sz = 4 := rfl
 rw [h4]
 have := blk_cell hb (j * 4 + i)
 have e : (⟨b, 0, none⟩ : Addr).add (j * 4 + i) = ⟨b, j * 4 + i, none⟩ := by
  unfold Addr.add
  split
  ·rename_i h0; rw [h0]
  ·simp
 rw [e, this]
 have hi : i < 4 := by
  have := (List.getElem?_eq_some_iff.1 hu).1
  simpa using this
 rcases (show j = 0 ∨ j = 1 by simp [hDom] at hj1; omega) with rfl | rfl <;> rcases (show i = 0 ∨ i = 1 ∨ i = 2 ∨ i = 3 by omega) with rfl | rfl | rfl | rfl <;> simpa [hDom, hWeight, hUsed] using hu
theorem case_C {w : World} {b : Nat} {t : TypeId} (hb : w.heap[b]? = some (.cells #[.int .i64 20, .int .i64 0] t (0, 0))) : Kd.C kInt w (some ⟨b, 0, none⟩) ([20, 0] : List Int).length [20, 0] := by
 refine ⟨rfl, by decide, fun _ => ⟨⟨b, 0, none⟩, rfl, fun j p hj => ?_⟩⟩
 obtain ⟨hj1, rfl⟩ := List.getElem?_eq_some_iff.1 hj
 refine ⟨[.int .i64 ([20, 0] : List Int)[j]], rfl, rfl, fun i u hu => ?_⟩
 have h1 : kInt.sz = 1 := rfl
 rw [h1]
 have := blk_cell hb (j * 1 + i)
 have e : (⟨b, 0, none⟩ : Addr).add (j * 1 + i) = ⟨b, j * 1 + i, none⟩ := by
  unfold Addr.add
  split
  ·rename_i h0; rw [h0]
  ·simp
 rw [e, this]
 have hi : i < 1 := by
  have := (List.getElem?_eq_some_iff.1 hu).1
  simpa using this
 obtain rfl : i = 0 := by omega
 rcases (show j = 0 ∨ j = 1 by simp at hj1; omega) with rfl | rfl <;> simpa using hu
structure HQ (w0 w : World) (k1 k2 g gg : Nat) (A : Option Addr) (c : Nat) : Prop where
 fm : HFm w0 w k1 k2 g
 gb : w.heap[gg]? = some (.cells #[.int .i64 6, .string ⟨#[]⟩, .int .i64 0, .int .i64 0, .slice A 2 c] 24 (0, 0))
 gc : Kd.C kFm w A hG.f4.length hG.f4
 gl : hG.f4.length ≤ c
theorem HQ.below {w0 w w1 : World} {k1 k2 g gg c : Nat} {A : Option Addr} (h : HQ w0 w k1 k2 g gg A c) (hb : Below w.heap.size w w1) : HQ w0 w1 k1 k2 g gg A c :=
 ⟨h.fm.below hb, (hb.block _ (lt_of_block h.gb)).trans h.gb, Kd.C_below h.gc hb, h.gl⟩
theorem hDom_sz : ∀ f ∈ hDom, f.f0.size ≤ 9223372036854775807 := by
 intro f hf
 simp only [hDom, List.mem_cons, List.not_mem_nil, or_false] at hf
 rcases hf with rfl | rfl
 ·show (6 : Nat) ≤ _; decide
 ·show (4 : Nat) ≤ _; decide
theorem hq_holds {w0 w : World} {k1 k2 g gg c : Nat} {A : Option Addr} (h : HQ w0 w k1 k2 g gg A c) :
  Calls Tryz.prog 20 #[.agg (cF k2), .agg #[.slice (some ⟨w0.heap.size, 0, none⟩) 2 2], .slice (some ⟨w0.heap.size + 1 + 1, 0, none⟩) 2 2] w fun e w' => e = .returned (.bool true) ∧ Below w.heap.size w w' := by
 have := holds_calls hF (some ⟨k2, 0, none⟩) 2 hDom (some ⟨w0.heap.size, 0, none⟩) 2 [20, 0] (some ⟨w0.heap.size + 1 + 1, 0, none⟩) 2 w h.fm.C (Nat.le_refl _) (dom_C h.fm.hd.d0) (Nat.le_refl _) (case_C h.fm.hd.d2) (Nat.le_refl _) (by rw [h_size.1]; decide) (by decide) (fun k hk => hDom_sz _ (List.getElem_mem hk))
 rw [h_holds] at this
 exact this
theorem hq_check1 {w0 w : World} {k1 k2 g gg c : Nat} {A : Option Addr} (h : HQ w0 w k1 k2 g gg A c) :
  Calls Tryz.prog 18 #[.agg #[.int .i64 3, .string ⟨#[119, 101, 105, 103, 104, 116]⟩, .int .i64 1, .int .i64 1000001, .slice none 0 0], .agg #[.slice (some ⟨w0.heap.size, 0, none⟩) 2 2]] w fun e w' => e = .returned (.int .i64 10) ∧ Below w.heap.size w w' := by
 have := check_calls ⟨3, hWeight, 1, 1000001, []⟩ none 0 hDom (some ⟨w0.heap.size, 0, none⟩) 2 w (fms_nil w) (Nat.le_refl _) (dom_C h.fm.hd.d0) (by rw [size_eq]; decide)
 rw [h_check1] at this
 exact this
theorem hq_check2 {w0 w : World} {k1 k2 g gg c : Nat} {A : Option Addr} (h : HQ w0 w k1 k2 g gg A c) :
  Calls Tryz.prog 18 #[.agg #[.int .i64 3, .string ⟨#[110, 111, 110, 101]⟩, .int .i64 1, .int .i64 1, .slice none 0 0], .agg #[.slice (some ⟨w0.heap.size, 0, none⟩) 2 2]] w fun e w' => e = .returned (.int .i64 7) ∧ Below w.heap.size w w' := by
 have := check_calls ⟨3, hNone, 1, 1, []⟩ none 0 hDom (some ⟨w0.heap.size, 0, none⟩) 2 w (fms_nil w) (Nat.le_refl _) (dom_C h.fm.hd.d0) (by rw [size_eq]; decide)
 rw [h_check2] at this
 exact this
theorem hq_check3 {w0 W w : World} {k1 k2 g gg c : Nat} {A : Option Addr} (h : HQ w0 w k1 k2 g gg A c) (hb : Below (W.alloc (.cells (cF k2) 24)).heap.size (W.alloc (.cells (cF k2) 24)) w) :
  Calls Tryz.prog 18 #[.agg #[.int .i64 5, .string ⟨#[]⟩, .int .i64 0, .int .i64 0, .slice (some ⟨W.heap.size, 0, none⟩) 1 1], .agg #[.slice (some ⟨w0.heap.size, 0, none⟩) 2 2]] w fun e w' => e = .returned (.int .i64 1) ∧ Below w.heap.size w w' := by
 have hblk : w.heap[W.heap.size]? = some (.cells (cF k2) 24 (0, 0)) := (hb.block _ (by simp)).trans (blk_new _ _ rfl)
 have hC : Kd.C kFm w (some ⟨W.heap.size, 0, none⟩) ([hF] : List Fm).length [hF] := by
  refine fms_C hblk [hF] (by decide) (fun j hj => ?_)
  obtain rfl : j = 0 := by simp at hj; omega
  refine ⟨some ⟨k2, 0, none⟩, 2, Nat.le_refl _, h.fm.C, fun i u hu => ?_⟩
  have hi : i < 5 := by
   have := (List.getElem?_eq_some_iff.1 hu).1
   simpa using this
  rcases (show i = 0 ∨ i = 1 ∨ i = 2 ∨ i = 3 ∨ i = 4 by omega) with rfl | rfl | rfl | rfl | rfl <;> simpa [hF] using hu
 have := check_calls ⟨5, ⟨#[]⟩, 0, 0, [hF]⟩ (some ⟨W.heap.size, 0, none⟩) 1 hDom (some ⟨w0.heap.size, 0, none⟩) 2 w hC (Nat.le_refl _) (dom_C h.fm.hd.d0) (by rw [size_eq]; simp only [sizes]; rw [h_size.1]; decide)
 rw [h_check3] at this
 exact this
theorem hq_same1 {w0 w : World} {k1 k2 g gg c : Nat} {A : Option Addr} (h : HQ w0 w k1 k2 g gg A c) :
  Calls Tryz.prog 22 #[.agg (cF k2), .agg (cF k2)] w fun e w' => e = .returned (.bool true) ∧ Below w.heap.size w w' := by
 have := same_calls hF hF (some ⟨k2, 0, none⟩) (some ⟨k2, 0, none⟩) 2 2 w h.fm.C h.fm.C (Nat.le_refl _) (Nat.le_refl _)
 rw [h_same] at this
 exact this
theorem hq_same2 {w0 w : World} {k1 k2 g gg c : Nat} {A : Option Addr} (h : HQ w0 w k1 k2 g gg A c) :
  Calls Tryz.prog 22 #[.agg (cF k2), .agg #[.int .i64 6, .string ⟨#[]⟩, .int .i64 0, .int .i64 0, .slice A 2 c]] w fun e w' => e = .returned (.bool false) ∧ Below w.heap.size w w' := by
 have := same_calls hF hG (some ⟨k2, 0, none⟩) A 2 c w h.fm.C h.gc (Nat.le_refl _) h.gl
 rw [h_same2] at this
 exact this
abbrev HSt (w0 : World) (k1 k2 g gg : Nat) (A : Option Addr) (c : Nat) (w : World) : Prop :=
 w.cell? ⟨g, 0, none⟩ = some (.int .i64 5) ∧ w.cell? ⟨g, 1, none⟩ = some (.string ⟨#[]⟩) ∧ w.cell? ⟨g, 2, none⟩ = some (.int .i64 0) ∧ w.cell? ⟨g, 3, none⟩ = some (.int .i64 0) ∧ w.cell? ⟨g, 4, none⟩ = some (.slice (some ⟨k2, 0, none⟩) 2 2) ∧
  w.cell? ⟨w0.heap.size + 1, 0, none⟩ = some (.slice (some ⟨w0.heap.size, 0, none⟩) 2 2) ∧ HQ w0 w k1 k2 g gg A c
theorem HQ.st {w0 w : World} {k1 k2 g gg c : Nat} {A : Option Addr} (h : HQ w0 w k1 k2 g gg A c) : HSt w0 k1 k2 g gg A c w :=
 ⟨blk_cell h.fm.b3 0, blk_cell h.fm.b3 1, blk_cell h.fm.b3 2, blk_cell h.fm.b3 3, blk_cell h.fm.b3 4, blk_cell h.fm.hd.d1 0, h⟩
theorem keepQ {w0 w1 w2 : World} {k1 k2 g gg c : Nat} {A : Option Addr} (hb : Below w1.heap.size w1 w2) (h : HSt w0 k1 k2 g gg A c w1) : HSt w0 k1 k2 g gg A c w2 := (h.2.2.2.2.2.2.below hb).st
theorem hq_of {w0 w : World} {k1 k2 g gg c : Nat} {A : Option Addr} (h : HSt w0 k1 k2 g gg A c w) : HQ w0 w k1 k2 g gg A c := h.2.2.2.2.2.2
end Go.Proofs.YtkgmempifggajaaGreatDoor.P
/- head returns true. -/
namespace Go.Proofs.YtkgmempifggajaaGreatDoor.P
open Go.RowKit Go.Proofs.YtkgmempifggajaaGreatDoorW.PrintWords Go.Proofs.YtkgmempifggajaaGreatDoorW.PrintLast Go.Proofs.YtkgmempifggajaaGreatDoorW.PrintMore
set_option linter.unusedVariables false
set_option linter.unusedSimpArgs false
set_option maxHeartbeats 4000000 in
set_option maxRecDepth 100000 in
theorem head_calls (w : World) : Calls Tryz.prog 12 #[] w fun e w' => e = .returned (.bool true) ∧ Below w.heap.size w w' := by
 go_enter Tryz.func12, Tryz.ntmps12
 go_wp2_with fail
 have HD0 := Aside0.mk (show HD w (((w.alloc (.cells cDom 49)).alloc (.cells #[.slice (some ⟨w.heap.size, 0, none⟩) 2 2] 27)).alloc (.cells #[.int .i64 20, .int .i64 0] 3)) from ⟨by (repeat (first | (refine blk_new _ _ ?_; first | rfl | (simp; done)) | refine blk_alloc_old ?_ _ | refine blk_drew_old ?_ | refine blk_drewN_old ?_ _ | assumption)), by (repeat (first | (refine blk_new _ _ ?_; first | rfl | (simp; done)) | refine blk_alloc_old ?_ _ | refine blk_drew_old ?_ | refine blk_drewN_old ?_ _ | assumption)), by (repeat (first | (refine blk_new _ _ ?_; first | rfl | (simp; done)) | refine blk_alloc_old ?_ _ | refine blk_drew_old ?_ | refine blk_drewN_old ?_ _ | assumption)), below_alloc (below_alloc (below_alloc (Below.refl _ _) _) _) _⟩)
 refine (test_calls _ 6 18 _).mono ?_
 rintro e w1 ⟨rfl, hb⟩
 have HD1 := Aside0.mk (HD0.out.below hb)
 clear hb HD0
 go_wp2_with fail
 refine (test_calls _ 1 1 _).mono ?_
 rintro e w2 ⟨rfl, hb⟩
 have HD2 := Aside0.mk (HD1.out.below hb)
 clear hb HD1
 go_wp2_with fail
 refine (both_calls 4 _ 1 1 _ (Nat.le_refl _)).mono ?_
 rintro e w3 ⟨rfl, hb⟩
 have hz3 : w2.heap.size < w3.heap.size := by have := hb.size; simp at this; omega
 have HD3 := Aside0.mk ((HD2.out.alloc (.cells cT2 24)).below hb)
 have B1 := Aside0.mk (show w3.heap[w2.heap.size]? = some (.cells cT2 24 (0, 0)) from (hb.block _ (by simp)).trans (blk_new _ _ rfl))
 clear hb HD2
 go_wp2_with fail
 refine (both_calls 5 _ 2 2 _ (Nat.le_refl _)).mono ?_
 rintro e w4 ⟨rfl, hb⟩
 have hz4 : w3.heap.size < w4.heap.size := by have := hb.size; simp at this; omega
 have HD4 := Aside0.mk ((HD3.out.alloc (.cells (cK2 w2.heap.size) 24)).below hb)
 have B14 := Aside0.mk (show w4.heap[w2.heap.size]? = some (.cells cT2 24 (0, 0)) from (hb.block _ (by simp; omega)).trans (blk_alloc_old B1.out _))
 have B24 := Aside0.mk (show w4.heap[w3.heap.size]? = some (.cells (cK2 w2.heap.size) 24 (0, 0)) from (hb.block _ (by simp)).trans (blk_new _ _ rfl))
 clear hb HD3 B1
 have HF5 := Aside0.mk (show HFm w (w4.alloc (.cells (cF w3.heap.size) 24)) w2.heap.size w3.heap.size w4.heap.size from ⟨HD4.out.alloc _, blk_alloc_old B14.out _, blk_alloc_old B24.out _, blk_new _ _ rfl⟩)
 clear B14 B24 HD4
 have k0 := blk_cell HF5.out.b3 0
 go_wp2_with fail
 refine (Size_calls hF (some ⟨w3.heap.size, 0, none⟩) 2 _ HF5.out.C (Nat.le_refl _) (by rw [h_size.1]; decide)).mono ?_
 rintro e w6 ⟨rfl, hb⟩
 have HF6 := Aside0.mk (HF5.out.below hb)
 rw [h_size.1, h_size.2]
 clear hb HF5 k0
 have k0 := blk_cell HF6.out.b3 0
 have k1 := blk_cell HF6.out.b3 1
 have k2 := blk_cell HF6.out.b3 2
 have k3 := blk_cell HF6.out.b3 3
 have k4 := blk_cell HF6.out.b3 4
 go_wp2_with fail
 refine (text_top 99 hF (some ⟨w3.heap.size, 0, none⟩) 2 _ HF6.out.C (Nat.le_refl _) (by rw [h_size.1]; decide) h_len.1 (Tab.small _) h_num.1).mono ?_
 rintro e w7 ⟨rfl, hb⟩
 have HF7 := Aside0.mk (HF6.out.below hb)
 rw [h_text]
 clear hb HF6 k0 k1 k2 k3 k4
 go_wp2_with fail
 refine (parse_calls hS1 _ (by decide)).mono ?_
 rintro e w8 ⟨v8, rfl, hR, hb⟩
 rw [h_parse1] at hR ⊢
 obtain ⟨A8, c8, rfl⟩ := Kd.R_slice hR
 have HF8 := Aside0.mk (HF7.out.below hb)
 have HC8 := Aside0.mk (show Kd.C kFm w8 A8 hG.f4.length hG.f4 ∧ hG.f4.length ≤ c8 from by obtain ⟨_, _, he, hl, hC⟩ := Kd.R_reads hR; injection he with h1 h2 h3; subst h1; subst h3; exact ⟨hC, hl⟩)
 clear hR hb HF7
 have HF9 := Aside0.mk (HF8.out.alloc (.cells #[.int .i64 6, .string ⟨#[]⟩, .int .i64 0, .int .i64 0, .slice A8 2 c8] 24))
 have HG9 := Aside0.mk (show (w8.alloc (.cells #[.int .i64 6, .string ⟨#[]⟩, .int .i64 0, .int .i64 0, .slice A8 2 c8] 24)).heap[w8.heap.size]? = some (.cells #[.int .i64 6, .string ⟨#[]⟩, .int .i64 0, .int .i64 0, .slice A8 2 c8] 24 (0, 0)) from blk_new _ _ rfl)
 have HC9 := Aside0.mk (Kd.C_below HC8.out.1 (below_alloc (Below.refl _ _) (.cells #[.int .i64 6, .string ⟨#[]⟩, .int .i64 0, .int .i64 0, .slice A8 2 c8] 24)))
 go_wp2_with fail
 refine (text_top 99 hG A8 c8 _ HC9.out HC8.out.2 h_len.2.2 h_len.2.1 (Tab.small _) h_num.2).mono ?_
 rintro e w10 ⟨rfl, hb⟩
 have HF10 := Aside0.mk (HF9.out.below hb)
 have HG10 := Aside0.mk ((hb.block _ (lt_of_block HG9.out)).trans HG9.out)
 have HC10 := Aside0.mk (Kd.C_below HC9.out hb)
 rw [h_text2]
 clear hb HF8 HF9 HG9 HC9
 go_wp2_with fail
 refine (parse_calls hS2 _ (by decide)).mono ?_
 rintro e w11 ⟨v11, rfl, hR, hb⟩
 rw [h_parse2] at hR ⊢
 obtain ⟨A11, c11, rfl⟩ := Kd.R_slice hR
 have HF11 := Aside0.mk ((HF10.out.below hb).alloc (.cells #[.int .i64 0, .string ⟨#[]⟩, .int .i64 0, .int .i64 0, .slice A11 0 c11] 24))
 have HG11 := Aside0.mk (blk_alloc_old ((hb.block _ (lt_of_block HG10.out)).trans HG10.out) (.cells #[.int .i64 0, .string ⟨#[]⟩, .int .i64 0, .int .i64 0, .slice A11 0 c11] 24))
 have HC11 := Aside0.mk (Kd.C_below (Kd.C_below HC10.out hb) (below_alloc (Below.refl _ _) (.cells #[.int .i64 0, .string ⟨#[]⟩, .int .i64 0, .int .i64 0, .slice A11 0 c11] 24)))
 clear hR hb HF10 HG10 HC10
 go_wp2_with fail
 refine (parse_calls hS3 _ (by decide)).mono ?_
 rintro e w12 ⟨v12, rfl, hR, hb⟩
 rw [h_parse3] at hR ⊢
 obtain ⟨A12, c12, rfl⟩ := Kd.R_slice hR
 have HF12 := Aside0.mk ((HF11.out.below hb).alloc (.cells #[.int .i64 0, .string ⟨#[]⟩, .int .i64 0, .int .i64 0, .slice A12 0 c12] 24))
 have HG12 := Aside0.mk (blk_alloc_old ((hb.block _ (lt_of_block HG11.out)).trans HG11.out) (.cells #[.int .i64 0, .string ⟨#[]⟩, .int .i64 0, .int .i64 0, .slice A12 0 c12] 24))
 have HC12 := Aside0.mk (Kd.C_below (Kd.C_below HC11.out hb) (below_alloc (Below.refl _ _) (.cells #[.int .i64 0, .string ⟨#[]⟩, .int .i64 0, .int .i64 0, .slice A12 0 c12] 24)))
 clear hR hb HF11 HG11 HC11
 go_wp2_with fail
 refine (parse_calls hS4 _ (by decide)).mono ?_
 rintro e w13 ⟨v13, rfl, hR, hb⟩
 rw [h_parse4] at hR ⊢
 obtain ⟨A13, c13, rfl⟩ := Kd.R_slice hR
 have HF13 := Aside0.mk ((HF12.out.below hb).alloc (.cells #[.int .i64 0, .string ⟨#[]⟩, .int .i64 0, .int .i64 0, .slice A13 0 c13] 24))
 have HG13 := Aside0.mk (blk_alloc_old ((hb.block _ (lt_of_block HG12.out)).trans HG12.out) (.cells #[.int .i64 0, .string ⟨#[]⟩, .int .i64 0, .int .i64 0, .slice A13 0 c13] 24))
 have HC13 := Aside0.mk (Kd.C_below (Kd.C_below HC12.out hb) (below_alloc (Below.refl _ _) (.cells #[.int .i64 0, .string ⟨#[]⟩, .int .i64 0, .int .i64 0, .slice A13 0 c13] 24)))
 clear hR hb HF12 HG12 HC12
 have HQ13 := Aside0.mk (show HQ w (w13.alloc (.cells #[.int .i64 z24.f0, .string z24.f1, .int .i64 z24.f2, .int .i64 z24.f3, .slice A13 z24.f4.length c13] 24)) w2.heap.size w3.heap.size w4.heap.size w8.heap.size A8 c8 from ⟨HF13.out, HG13.out, HC13.out, HC8.out.2⟩)
 clear HF13 HG13 HC13 HC8
 go_wp2_with fail
 obtain ⟨W, hW⟩ : ∃ W, w13.alloc (.cells #[.int .i64 z24.f0, .string z24.f1, .int .i64 z24.f2, .int .i64 z24.f3, .slice A13 z24.f4.length c13] 24) = W := ⟨_, rfl⟩
 rw [hW] at HQ13 ⊢
 clear hW
 obtain ⟨k1, hk1⟩ : ∃ k, w2.heap.size = k := ⟨_, rfl⟩
 obtain ⟨k2, hk2⟩ : ∃ k, w3.heap.size = k := ⟨_, rfl⟩
 obtain ⟨g, hg⟩ : ∃ k, w4.heap.size = k := ⟨_, rfl⟩
 obtain ⟨gg, hgg⟩ : ∃ k, w8.heap.size = k := ⟨_, rfl⟩
 rw [hk1, hk2, hg, hgg] at HQ13
 simp only [hk1, hk2, hg, hgg]
 have hS : HSt w k1 k2 g gg A8 c8 W.drew := (HQ13.out.below (below_drew (Below.refl _ _))).st
 go_region_held3 (fun w' => w'.cell? ⟨g, 0, none⟩ = some (.int .i64 5) ∧ w'.cell? ⟨g, 1, none⟩ = some (.string ⟨#[]⟩) ∧ w'.cell? ⟨g, 2, none⟩ = some (.int .i64 0) ∧ w'.cell? ⟨g, 3, none⟩ = some (.int .i64 0) ∧ w'.cell? ⟨g, 4, none⟩ = some (.slice (some ⟨k2, 0, none⟩) 2 2) ∧
  w'.cell? ⟨w.heap.size + 1, 0, none⟩ = some (.slice (some ⟨w.heap.size, 0, none⟩) 2 2) ∧ HQ w w' k1 k2 g gg A8 c8)
  (first | (with_reducible exact hS) | (with_reducible exact keepQ hb (by assumption)) | (refine keepQ ?_ (by assumption); exact below_alloc (Below.refl _ _) _))
  (first
   | (go_at_call 20; refine (hq_holds (hq_of (by with_reducible assumption))).mono ?_; rintro e w' ⟨rfl, hb⟩)
   | (go_at_call 18; with_reducible refine Calls.mono (hq_check1 (hq_of (by assumption))) ?_; rintro e w' ⟨rfl, hb⟩)
   | (go_at_call 18; with_reducible refine Calls.mono (hq_check2 (hq_of (by assumption))) ?_; rintro e w' ⟨rfl, hb⟩)
   | (go_at_call 18; refine (hq_check3 (hq_of (by with_reducible assumption)) hb).mono ?_; rintro e w' ⟨rfl, hb⟩)
   | (go_at_call 32; refine (test_calls _ _ _ _).mono ?_; rintro e w' ⟨rfl, hb⟩)
   | (go_at_call 29; refine (both_calls 5 _ 1 1 _ (Nat.le_refl _)).mono ?_; rintro e w' ⟨rfl, hb⟩))
 rename_i hH
 have HQ14 := Aside0.mk (hq_of hH)
 clear hH hS HQ13
 have e1 : ((ba [119, 101, 105, 103, 104, 116, 32, 62, 61, 32, 49, 56, 32, 97, 110, 100, 32, 110, 111, 116, 32, 117, 115, 101, 100, 32, 61, 32, 49]).toList == [119, 101, 105, 103, 104, 116, 32, 62, 61, 32, 49, 56, 32, 97, 110, 100, 32, 110, 111, 116, 32, 117, 115, 101, 100, 32, 61, 32, 49]) = true := by rw [ByteArray.toList_eq]; rfl
 have e2 : ((ba [97, 32, 61, 32, 49, 32, 97, 110, 100, 32, 98, 32, 61, 32, 50, 32, 111, 114, 32, 99, 32, 61, 32, 51]).toList == [97, 32, 61, 32, 49, 32, 97, 110, 100, 32, 98, 32, 61, 32, 50, 32, 111, 114, 32, 99, 32, 61, 32, 51]) = true := by rw [ByteArray.toList_eq]; rfl
 have k0 := blk_cell HQ14.out.fm.b3 0
 have k1 := blk_cell HQ14.out.fm.b3 1
 have k2 := blk_cell HQ14.out.fm.b3 2
 have k3 := blk_cell HQ14.out.fm.b3 3
 have k4 := blk_cell HQ14.out.fm.b3 4
 go_wp2_with fail
 refine (hq_same1 HQ14.out).mono ?_
 rintro e w15 ⟨rfl, hb⟩
 have HQ15 := Aside0.mk (HQ14.out.below hb)
 clear hb HQ14 k0 k1 k2 k3 k4
 have k0 := blk_cell HQ15.out.fm.b3 0
 have k1 := blk_cell HQ15.out.fm.b3 1
 have k2 := blk_cell HQ15.out.fm.b3 2
 have k3 := blk_cell HQ15.out.fm.b3 3
 have k4 := blk_cell HQ15.out.fm.b3 4
 have l0 := blk_cell HQ15.out.gb 0
 have l1 := blk_cell HQ15.out.gb 1
 have l2 := blk_cell HQ15.out.gb 2
 have l3 := blk_cell HQ15.out.gb 3
 have l4 := blk_cell HQ15.out.gb 4
 go_wp2_with fail
 refine (hq_same2 HQ15.out).mono ?_
 rintro e w16 ⟨rfl, hb⟩
 have HQ16 := Aside0.mk (HQ15.out.below hb)
 clear hb HQ15
 go_wp2
 go_ret
 exact ⟨rfl, HQ16.out.fm.hd.old⟩
end Go.Proofs.YtkgmempifggajaaGreatDoor.P
/- The parser at a text and at the text in parentheses: it goes the same steps. -/
namespace Go.Proofs.YtkgmempifggajaaGreatDoor.P
set_option linter.unusedVariables false
set_option linter.unusedSimpArgs false
def Dead (s : PS) : Prop := s.err ≠ 0 ∧ s.toks = []
theorem takeP_cons (n : Int) (t : Tok) (r : List Tok) (e a : Int) : takeP n ⟨t :: r, e, a⟩ = (t, ⟨r, e, a⟩) := rfl
def Pos (z : Int) : Prop := 0 ≤ z ∧ z ≤ 9000000000000000000
structure Run (P : Nat) (cl : Tok) (s s' : PS) : Prop where
 e : s.err = 0
 e' : s'.err = 0
 t : s'.toks = s.toks.map (shTok P) ++ [cl]
 pos : ∀ t ∈ s.toks, Pos t.f1
def Bad (s : PS) : Prop := Dead s ∧ (s.err = 5 ∨ s.err = 6)
theorem bad5 (a : Int) : Bad ⟨[], 5, a⟩ := ⟨⟨by show (5 : Int) ≠ 0; decide, rfl⟩, .inl rfl⟩
theorem oneP_cons (n : Int) (f : Nat) (t : Tok) (r : List Tok) (e a : Int) : oneP n (f + 1) ⟨t :: r, e, a⟩ =
  if t.f0 = 1 then
   if t.f3.toList = lNot then (eFm 4 [(oneP n f ⟨r, e, a⟩).1], (oneP n f ⟨r, e, a⟩).2)
   else if t.f3.toList = lTrue then (eFm 1 [], ⟨r, e, a⟩)
   else if t.f3.toList = lFalse then (eFm 2 [], ⟨r, e, a⟩)
   else if t.f3.toList = [] ∨ isKey t.f3 = true then (eFm 0 [], failP 5 t.f1 ⟨r, e, a⟩)
   else testP n t.f3 ⟨r, e, a⟩
  else if t.f0 = 4 ∧ t.f3.toList = [40] then closeP n (eitherP (oneP n f) ⟨r, e, a⟩)
  else (eFm 0 [], failP 5 t.f1 ⟨r, e, a⟩) := rfl
def testA (n : Int) (s : PS) : PS := if (takeP n s).1.f0 ≠ 4 ∨ symIx (takeP n s).1.f3 < 1 then failP 5 (takeP n s).1.f1 (takeP n s).2 else (takeP n s).2
def testB (v : Tok × PS) : PS := (fun s5 => if 1000000 < v.1.f2 then failP 10 v.1.f1 s5 else s5) (if v.1.f0 ≠ 2 then failP 5 v.1.f1 v.2 else v.2)
theorem testP_parts (n : Int) (name : ByteArray) (s : PS) : testP n name s = (⟨3, name, symIx (takeP n s).1.f3, (takeP n (testA n s)).1.f2, []⟩, testB (takeP n (testA n s))) := rfl
theorem testA_cons (n : Int) (t : Tok) (r : List Tok) (a : Int) : testA n ⟨t :: r, 0, a⟩ = if t.f0 ≠ 4 ∨ symIx t.f3 < 1 then ⟨[], 5, t.f1⟩ else ⟨r, 0, a⟩ := rfl
theorem testB_cons (u : Tok) (s : PS) : testB (u, s) = (fun s5 => if 1000000 < u.f2 then failP 10 u.f1 s5 else s5) (if u.f0 ≠ 2 then failP 5 u.f1 s else s) := rfl
theorem closeP_cons (n : Int) (x : Fm) (t : Tok) (r : List Tok) (e a : Int) : closeP n (x, ⟨t :: r, e, a⟩) = (x, if t.f0 ≠ 4 ∨ t.f3.toList ≠ [41] then failP 5 t.f1 ⟨r, e, a⟩ else ⟨r, e, a⟩) := rfl
end Go.Proofs.YtkgmempifggajaaGreatDoor.P
