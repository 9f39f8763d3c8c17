/- What the statement's proof builds on: ParC, OneA, OneB, OneC, OneD, RdT, RdU, RdS. -/
import Derived.Test.YtkgmempifggajaaGreatDoorGF13
import Derived.Deep.RegionHeld3
import Derived.BigQuiet
/- formula's (*parser).all and either. (Printed by wip/tools/gen_parc.py.) -/
namespace Go.Proofs.YtkgmempifggajaaGreatDoor.P
open Go.RowKit Go.Proofs.YtkgmempifggajaaGreatDoorW.PrintWords Go.Proofs.YtkgmempifggajaaGreatDoorW.PrintLast Go.Proofs.YtkgmempifggajaaGreatDoorW.PrintMore
set_option linter.unusedVariables false
set_option linter.unusedSimpArgs false
def wAnd : ByteArray := { data := #[97, 110, 100] }
def wOr : ByteArray := { data := #[111, 114] }
def At_either (L : Nat) (b : Nat) (n : Int) (part : PS → Fm × PS) : Prop := ∀ (s : PS) (w : World), s.toks.length ≤ L → IsP w b n s → Calls Tryz.prog 56 #[.pointer (some ⟨b, 0, none⟩)] w (PartPost b n w (part s).1 (part s).2)
set_option maxHeartbeats 1000000 in
set_option maxRecDepth 100000 in
theorem all_calls (L : Nat) (hL : L ≤ 100000) (b : Nat) (n : Int) (part : PS → Fm × PS) (hp : At_one L b n part) (hsh : Shrinks part) : At_all L b n (listP part 5 wAnd) := by
 intro s w hs h
 have hlt := h.lt
 have H := Aside0.mk h
 clear h
 obtain ⟨x, hx⟩ : ∃ x, listP part 5 wAnd s = x := ⟨_, rfl⟩
 rw [hx]
 have HX := Aside0.mk hx
 obtain ⟨y, st⟩ := x
 clear hx
 go_enter Tryz.func81, Tryz.ntmps81
 go_wp2_with fail
 refine (list_one L hL b n part hp hsh 5 wAnd s _ hs (H.out.below (below_alloc (Below.refl _ _) _))).mono ?_
 rintro e w1 ⟨v1, rfl, hR, hI, hS⟩
 obtain ⟨A4, c4, rfl⟩ := Kd.R_slice hR
 have hz : w.heap.size < w1.heap.size := by have := hS.size; simp at this; omega
 have HI := Aside0.mk hI
 have HS := Aside0.mk (show Same (OnlyP b) w w1 from ((Same.refl (OnlyP b) w).alloc _).trans hS)
 have HRES := Aside0.mk (show w1.heap[w.heap.size]? = some (.cells #[.int .i64 0, .string ⟨#[]⟩, .int .i64 0, .int .i64 0, .slice none 0 0] 24 (0, 0)) from (hS.block _ (by simp) (by unfold OnlyP; omega)).trans (by (repeat (first | (refine blk_new _ _ ?_; first | rfl | (simp; done)) | refine blk_alloc_old ?_ _ | refine blk_drew_old ?_ | refine blk_drewN_old ?_ _ | assumption))))
 have hsz0 : (w.alloc (.cells #[.int .i64 0, .string ⟨#[]⟩, .int .i64 0, .int .i64 0, .slice none 0 0] 24)).heap.size = w.heap.size + 1 := by simp
 rw [HX.out] at hR HI ⊢
 have HR := Aside0.mk (show Kd.R kFm 24 w1 w.heap.size (fun q => q ≠ w.heap.size) (.slice A4 y.f4.length c4) y.f4 from R_new_ok (base := w.heap.size + 1) (by rw [← hsz0]; exact hR) (by omega) (fun k hk => by omega))
 clear hR hI hS hsz0
 have HBW := Aside0.mk (show ∀ k, k ≤ b → k ≠ w.heap.size from fun k hk => by omega)
 have hf0 := blk_cell HRES.out 0
 have hg0 := blk_frozen HRES.out 0
 have hf1 := blk_cell HRES.out 1
 have hg1 := blk_frozen HRES.out 1
 have hf2 := blk_cell HRES.out 2
 have hg2 := blk_frozen HRES.out 2
 have hf3 := blk_cell HRES.out 3
 have hg3 := blk_frozen HRES.out 3
 have hf4 := blk_cell HRES.out 4
 have hg4 := blk_frozen HRES.out 4
 go_wp2
 refine bodyPost_ret (results_cell_row rfl _ _ w.heap.size 24 #[.int .i64 y.f0, .string y.f1, .int .i64 y.f2, .int .i64 y.f3, .slice A4 y.f4.length c4] (0, 0) _ rfl (put5 HRES.out _ _ _ _ _) Tryz.underlying24 rfl (by kernel_rfl)) rfl ?_
 refine ⟨.slice A4 y.f4.length c4, rfl, Kd.R_mono (Kd.R_step HR.out (fun k hk _ => put5_other _ _ _ _ _ _ _ hk)) (fun _ _ => trivial), HI.out.keep (fun k hk => put5_other _ _ _ _ _ _ _ (HBW.out k hk)), ?_⟩
 exact (((((HS.out.setNew (p := ⟨w.heap.size, 0, none⟩) (Nat.le_refl _) _).setNew (p := ⟨w.heap.size, 1, none⟩) (Nat.le_refl _) _).setNew (p := ⟨w.heap.size, 2, none⟩) (Nat.le_refl _) _).setNew (p := ⟨w.heap.size, 3, none⟩) (Nat.le_refl _) _).setNew (p := ⟨w.heap.size, 4, none⟩) (Nat.le_refl _) _)
set_option maxHeartbeats 1000000 in
set_option maxRecDepth 100000 in
theorem either_calls (L : Nat) (hL : L ≤ 100000) (b : Nat) (n : Int) (part : PS → Fm × PS) (hp : At_all L b n part) (hsh : Shrinks part) : At_either L b n (listP part 6 wOr) := by
 intro s w hs h
 have hlt := h.lt
 have H := Aside0.mk h
 clear h
 obtain ⟨x, hx⟩ : ∃ x, listP part 6 wOr s = x := ⟨_, rfl⟩
 rw [hx]
 have HX := Aside0.mk hx
 obtain ⟨y, st⟩ := x
 clear hx
 go_enter Tryz.func56, Tryz.ntmps56
 go_wp2_with fail
 refine (list_all L hL b n part hp hsh 6 wOr s _ hs (H.out.below (below_alloc (Below.refl _ _) _))).mono ?_
 rintro e w1 ⟨v1, rfl, hR, hI, hS⟩
 obtain ⟨A4, c4, rfl⟩ := Kd.R_slice hR
 have hz : w.heap.size < w1.heap.size := by have := hS.size; simp at this; omega
 have HI := Aside0.mk hI
 have HS := Aside0.mk (show Same (OnlyP b) w w1 from ((Same.refl (OnlyP b) w).alloc _).trans hS)
 have HRES := Aside0.mk (show w1.heap[w.heap.size]? = some (.cells #[.int .i64 0, .string ⟨#[]⟩, .int .i64 0, .int .i64 0, .slice none 0 0] 24 (0, 0)) from (hS.block _ (by simp) (by unfold OnlyP; omega)).trans (by (repeat (first | (refine blk_new _ _ ?_; first | rfl | (simp; done)) | refine blk_alloc_old ?_ _ | refine blk_drew_old ?_ | refine blk_drewN_old ?_ _ | assumption))))
 have hsz0 : (w.alloc (.cells #[.int .i64 0, .string ⟨#[]⟩, .int .i64 0, .int .i64 0, .slice none 0 0] 24)).heap.size = w.heap.size + 1 := by simp
 rw [HX.out] at hR HI ⊢
 have HR := Aside0.mk (show Kd.R kFm 24 w1 w.heap.size (fun q => q ≠ w.heap.size) (.slice A4 y.f4.length c4) y.f4 from R_new_ok (base := w.heap.size + 1) (by rw [← hsz0]; exact hR) (by omega) (fun k hk => by omega))
 clear hR hI hS hsz0
 have HBW := Aside0.mk (show ∀ k, k ≤ b → k ≠ w.heap.size from fun k hk => by omega)
 have hf0 := blk_cell HRES.out 0
 have hg0 := blk_frozen HRES.out 0
 have hf1 := blk_cell HRES.out 1
 have hg1 := blk_frozen HRES.out 1
 have hf2 := blk_cell HRES.out 2
 have hg2 := blk_frozen HRES.out 2
 have hf3 := blk_cell HRES.out 3
 have hg3 := blk_frozen HRES.out 3
 have hf4 := blk_cell HRES.out 4
 have hg4 := blk_frozen HRES.out 4
 go_wp2
 refine bodyPost_ret (results_cell_row rfl _ _ w.heap.size 24 #[.int .i64 y.f0, .string y.f1, .int .i64 y.f2, .int .i64 y.f3, .slice A4 y.f4.length c4] (0, 0) _ rfl (put5 HRES.out _ _ _ _ _) Tryz.underlying24 rfl (by kernel_rfl)) rfl ?_
 refine ⟨.slice A4 y.f4.length c4, rfl, Kd.R_mono (Kd.R_step HR.out (fun k hk _ => put5_other _ _ _ _ _ _ _ hk)) (fun _ _ => trivial), HI.out.keep (fun k hk => put5_other _ _ _ _ _ _ _ (HBW.out k hk)), ?_⟩
 exact (((((HS.out.setNew (p := ⟨w.heap.size, 0, none⟩) (Nat.le_refl _) _).setNew (p := ⟨w.heap.size, 1, none⟩) (Nat.le_refl _) _).setNew (p := ⟨w.heap.size, 2, none⟩) (Nat.le_refl _) _).setNew (p := ⟨w.heap.size, 3, none⟩) (Nat.le_refl _) _).setNew (p := ⟨w.heap.size, 4, none⟩) (Nat.le_refl _) _)
end Go.Proofs.YtkgmempifggajaaGreatDoor.P
/- formula's (*parser).one: what it computes; the short cases. (Printed by wip/tools/gen_one.py.) -/
namespace Go.Proofs.YtkgmempifggajaaGreatDoor.P
open Go.RowKit Go.Proofs.YtkgmempifggajaaGreatDoorW.PrintWords Go.Proofs.YtkgmempifggajaaGreatDoorW.PrintLast Go.Proofs.YtkgmempifggajaaGreatDoorW.PrintMore
set_option linter.unusedVariables false
set_option linter.unusedSimpArgs false
def lNot : List UInt8 := [110, 111, 116]
def lTrue : List UInt8 := [116, 114, 117, 101]
def lFalse : List UInt8 := [102, 97, 108, 115, 101]
def eFm (op : Int) (kids : List Fm) : Fm := ⟨op, ⟨#[]⟩, 0, 0, kids⟩
def symIx (s : ByteArray) : Int := idxBy (fun a => s.toList == a) symL
def testP (n : Int) (name : ByteArray) (s : PS) : Fm × PS :=
 (⟨3, name, symIx (takeP n s).1.f3, (takeP n (if (takeP n s).1.f0 ≠ 4 ∨ symIx (takeP n s).1.f3 < 1 then failP 5 (takeP n s).1.f1 (takeP n s).2 else (takeP n s).2)).1.f2, []⟩,
  (fun v : Tok × PS => (fun s5 => if 1000000 < v.1.f2 then failP 10 v.1.f1 s5 else s5) (if v.1.f0 ≠ 2 then failP 5 v.1.f1 v.2 else v.2))
   (takeP n (if (takeP n s).1.f0 ≠ 4 ∨ symIx (takeP n s).1.f3 < 1 then failP 5 (takeP n s).1.f1 (takeP n s).2 else (takeP n s).2)))
def eitherP (part : PS → Fm × PS) : PS → Fm × PS := listP (listP part 5 wAnd) 6 wOr
def closeP (n : Int) (p : Fm × PS) : Fm × PS := (p.1, if (takeP n p.2).1.f0 ≠ 4 ∨ (takeP n p.2).1.f3.toList ≠ [41] then failP 5 (takeP n p.2).1.f1 (takeP n p.2).2 else (takeP n p.2).2)
def oneP (n : Int) : Nat → PS → Fm × PS
 | 0, s => (z24, s)
 | f + 1, s =>
  if (takeP n s).1.f0 = 1 then
   if (takeP n s).1.f3.toList = lNot then (eFm 4 [(oneP n f (takeP n s).2).1], (oneP n f (takeP n s).2).2)
   else if (takeP n s).1.f3.toList = lTrue then (eFm 1 [], (takeP n s).2)
   else if (takeP n s).1.f3.toList = lFalse then (eFm 2 [], (takeP n s).2)
   else if (takeP n s).1.f3.toList = [] ∨ isKey (takeP n s).1.f3 = true then (eFm 0 [], failP 5 (takeP n s).1.f1 (takeP n s).2)
   else testP n (takeP n s).1.f3 (takeP n s).2
  else if (takeP n s).1.f0 = 4 ∧ (takeP n s).1.f3.toList = [40] then closeP n (eitherP (oneP n f) (takeP n s).2)
  else (eFm 0 [], failP 5 (takeP n s).1.f1 (takeP n s).2)
abbrev zFm : Array Value := #[.int .i64 0, .string ⟨#[]⟩, .int .i64 0, .int .i64 0, .slice none 0 0]
structure OS (w0 w : World) (b : Nat) (n : Int) (s : PS) : Prop where
 res : w.heap[w0.heap.size]? = some (.cells zFm 24 (0, 0))
 par : IsP w b n s
 old : Same (OnlyP b) w0 w
 ahead : b < w0.heap.size
namespace OS
variable {w0 w w1 : World} {b : Nat} {n : Int} {s s' : PS}
theorem lt (h : OS w0 w b n s) : w0.heap.size < w.heap.size := lt_of_block h.res
theorem below (h : OS w0 w b n s) (hb : Below w.heap.size w w1) : OS w0 w1 b n s := ⟨(hb.block _ h.lt).trans h.res, h.par.below hb, h.old.thenB hb, h.ahead⟩
theorem alloc (h : OS w0 w b n s) (o : Obj) : OS w0 (w.alloc o) b n s := h.below (below_alloc (Below.refl _ _) o)
theorem step (h : OS w0 w b n s) (hp : IsP w1 b n s') (hs : Same (OnlyP b) w w1) : OS w0 w1 b n s' :=
 ⟨(hs.block _ h.lt (by have := h.ahead; unfold OnlyP; omega)).trans h.res, hp, h.old.trans hs, h.ahead⟩
theorem start (h : IsP w b n s) : OS w (w.alloc (.cells zFm 24)) b n s := ⟨by (repeat (first | (refine blk_new _ _ ?_; first | rfl | (simp; done)) | refine blk_alloc_old ?_ _ | refine blk_drew_old ?_ | refine blk_drewN_old ?_ _ | assumption)), h.below (below_alloc (Below.refl _ _) _), (Same.refl _ _).alloc _, h.lt⟩
end OS
theorem OS.done {w0 w : World} {b : Nat} {n : Int} {s : PS} (h : OS w0 w b n s) (x : Fm) (A : Option Addr) (c : Nat) (hR : Kd.R kFm 24 w w0.heap.size (fun q => q ≠ w0.heap.size) (.slice A x.f4.length c) x.f4) :
  (((((w.setCell ⟨w0.heap.size, 0, none⟩ (.int .i64 x.f0)).setCell ⟨w0.heap.size, 1, none⟩ (.string x.f1)).setCell ⟨w0.heap.size, 2, none⟩ (.int .i64 x.f2)).setCell ⟨w0.heap.size, 3, none⟩ (.int .i64 x.f3)).setCell ⟨w0.heap.size, 4, none⟩ (.slice A x.f4.length c)).heap[w0.heap.size]? = some (.cells #[.int .i64 x.f0, .string x.f1, .int .i64 x.f2, .int .i64 x.f3, .slice A x.f4.length c] 24 (0, 0)) ∧
  PartPost b n w0 x s (.returned (.agg #[.int .i64 x.f0, .string x.f1, .int .i64 x.f2, .int .i64 x.f3, .slice A x.f4.length c])) (((((w.setCell ⟨w0.heap.size, 0, none⟩ (.int .i64 x.f0)).setCell ⟨w0.heap.size, 1, none⟩ (.string x.f1)).setCell ⟨w0.heap.size, 2, none⟩ (.int .i64 x.f2)).setCell ⟨w0.heap.size, 3, none⟩ (.int .i64 x.f3)).setCell ⟨w0.heap.size, 4, none⟩ (.slice A x.f4.length c)) :=
 ⟨put5 h.res _ _ _ _ _, .slice A x.f4.length c, rfl, Kd.R_mono (Kd.R_step hR (fun k hk _ => put5_other _ _ _ _ _ _ _ hk)) (fun _ _ => trivial), h.par.keep (fun k hk => put5_other _ _ _ _ _ _ _ (by have := h.ahead; omega)),
  (((((h.old.setNew (p := ⟨w0.heap.size, 0, none⟩) (Nat.le_refl _) _).setNew (p := ⟨w0.heap.size, 1, none⟩) (Nat.le_refl _) _).setNew (p := ⟨w0.heap.size, 2, none⟩) (Nat.le_refl _) _).setNew (p := ⟨w0.heap.size, 3, none⟩) (Nat.le_refl _) _).setNew (p := ⟨w0.heap.size, 4, none⟩) (Nat.le_refl _) _)⟩
theorem PartPost.alloc {b : Nat} {n : Int} {w0 w : World} {x : Fm} {s : PS} {e : Ending} (h : PartPost b n w0 x s e w) (o : Obj) : PartPost b n w0 x s e (w.alloc o) := by
 obtain ⟨v, h1, h2, h3, h4⟩ := h
 exact ⟨v, h1, Kd.R_alloc h2 o, h3.below (below_alloc (Below.refl _ _) o), h4.alloc o⟩
theorem OS.done1 {w0 w : World} {b : Nat} {n : Int} {s : PS} (h : OS w0 w b n s) (x : Fm) (A : Option Addr) (c : Nat) (o : Obj) (hR : Kd.R kFm 24 w w0.heap.size (fun q => q ≠ w0.heap.size) (.slice A x.f4.length c) x.f4) :
  ((((((w.setCell ⟨w0.heap.size, 0, none⟩ (.int .i64 x.f0)).setCell ⟨w0.heap.size, 1, none⟩ (.string x.f1)).setCell ⟨w0.heap.size, 2, none⟩ (.int .i64 x.f2)).setCell ⟨w0.heap.size, 3, none⟩ (.int .i64 x.f3)).setCell ⟨w0.heap.size, 4, none⟩ (.slice A x.f4.length c)).alloc o).heap[w0.heap.size]? = some (.cells #[.int .i64 x.f0, .string x.f1, .int .i64 x.f2, .int .i64 x.f3, .slice A x.f4.length c] 24 (0, 0)) ∧
  PartPost b n w0 x s (.returned (.agg #[.int .i64 x.f0, .string x.f1, .int .i64 x.f2, .int .i64 x.f3, .slice A x.f4.length c])) ((((((w.setCell ⟨w0.heap.size, 0, none⟩ (.int .i64 x.f0)).setCell ⟨w0.heap.size, 1, none⟩ (.string x.f1)).setCell ⟨w0.heap.size, 2, none⟩ (.int .i64 x.f2)).setCell ⟨w0.heap.size, 3, none⟩ (.int .i64 x.f3)).setCell ⟨w0.heap.size, 4, none⟩ (.slice A x.f4.length c)).alloc o) :=
 ⟨blk_alloc_old (h.done x A c hR).1 o, (h.done x A c hR).2.alloc o⟩
set_option maxHeartbeats 4000000 in
set_option maxRecDepth 100000 in
theorem one_true (b : Nat) (n : Int) (s : PS) (t : Tok) (s1 : PS) (ht : takeP n s = (t, s1)) (h1 : t.f0 = 1) (h2 : t.f3.toList = lTrue) (w : World) (h : IsP w b n s) :
  Calls Tryz.prog 103 #[.pointer (some ⟨b, 0, none⟩)] w (PartPost b n w (eFm 1 []) s1) := by
 have hlt := h.lt
 have HT := Aside0.mk ht
 have HO := Aside0.mk (OS.start h)
 obtain ⟨kd, at_, num, tx⟩ := t
 simp only at h1 h2
 clear h ht
 have c1 : (kd == 1) = true := by simp [h1]
 have c4 : (kd == 4) = false := by simp [h1]
 have d1 : (tx.toList == [110, 111, 116]) = false := by rw [h2]; rfl
 have d2 : (tx.toList == [116, 114, 117, 101]) = true := by rw [h2]; rfl
 clear h1 h2
 go_enter Tryz.func103, Tryz.ntmps103
 go_wp2_with fail
 refine (take_calls b n s _ HO.out.par).mono ?_
 rintro e w1 ⟨rfl, hI, hS⟩
 rw [HT.out] at hI ⊢
 have HO0 := Aside0.mk (HO.out.step hI hS)
 have HO1 := Aside0.mk ((HO.out.step hI hS).alloc (.cells #[.int .i64 kd, .int .i64 at_, .int .i64 num, .string tx] 75))
 have HTB := Aside0.mk (show (w1.alloc (.cells #[.int .i64 kd, .int .i64 at_, .int .i64 num, .string tx] 75)).heap[w1.heap.size]? = some (.cells #[.int .i64 kd, .int .i64 at_, .int .i64 num, .string tx] 75 (0, 0)) from blk_new _ _ rfl)
 have hz1 : w.heap.size < w1.heap.size := by have := (HO.out.step hI hS).lt; omega
 clear hI hS HO
 have hf0 := blk_cell HO0.out.res 0
 have hg0 := blk_frozen HO0.out.res 0
 have hf1 := blk_cell HO0.out.res 1
 have hg1 := blk_frozen HO0.out.res 1
 have hf2 := blk_cell HO0.out.res 2
 have hg2 := blk_frozen HO0.out.res 2
 have hf3 := blk_cell HO0.out.res 3
 have hg3 := blk_frozen HO0.out.res 3
 have hf4 := blk_cell HO0.out.res 4
 have hg4 := blk_frozen HO0.out.res 4
 go_wp2
 refine bodyPost_ret (results_cell_row rfl _ _ w.heap.size 24 #[.int .i64 (1), .string ⟨#[]⟩, .int .i64 0, .int .i64 0, .slice none 0 0] (0, 0) _ rfl (HO0.out.done1 (eFm (1) []) none 0 _ (Kd.R_nil _ _ _ _ _)).1 Tryz.underlying24 rfl (by kernel_rfl)) rfl ?_
 exact (HO0.out.done1 (eFm (1) []) none 0 _ (Kd.R_nil _ _ _ _ _)).2
set_option maxHeartbeats 4000000 in
set_option maxRecDepth 100000 in
theorem one_false (b : Nat) (n : Int) (s : PS) (t : Tok) (s1 : PS) (ht : takeP n s = (t, s1)) (h1 : t.f0 = 1) (h2 : t.f3.toList = lFalse) (w : World) (h : IsP w b n s) :
  Calls Tryz.prog 103 #[.pointer (some ⟨b, 0, none⟩)] w (PartPost b n w (eFm 2 []) s1) := by
 have hlt := h.lt
 have HT := Aside0.mk ht
 have HO := Aside0.mk (OS.start h)
 obtain ⟨kd, at_, num, tx⟩ := t
 simp only at h1 h2
 clear h ht
 have c1 : (kd == 1) = true := by simp [h1]
 have c4 : (kd == 4) = false := by simp [h1]
 have d1 : (tx.toList == [110, 111, 116]) = false := by rw [h2]; rfl
 have d2 : (tx.toList == [116, 114, 117, 101]) = false := by rw [h2]; rfl
 have d3 : (tx.toList == [102, 97, 108, 115, 101]) = true := by rw [h2]; rfl
 clear h1 h2
 go_enter Tryz.func103, Tryz.ntmps103
 go_wp2_with fail
 refine (take_calls b n s _ HO.out.par).mono ?_
 rintro e w1 ⟨rfl, hI, hS⟩
 rw [HT.out] at hI ⊢
 have HO0 := Aside0.mk (HO.out.step hI hS)
 have HO1 := Aside0.mk ((HO.out.step hI hS).alloc (.cells #[.int .i64 kd, .int .i64 at_, .int .i64 num, .string tx] 75))
 have HTB := Aside0.mk (show (w1.alloc (.cells #[.int .i64 kd, .int .i64 at_, .int .i64 num, .string tx] 75)).heap[w1.heap.size]? = some (.cells #[.int .i64 kd, .int .i64 at_, .int .i64 num, .string tx] 75 (0, 0)) from blk_new _ _ rfl)
 have hz1 : w.heap.size < w1.heap.size := by have := (HO.out.step hI hS).lt; omega
 clear hI hS HO
 have hf0 := blk_cell HO0.out.res 0
 have hg0 := blk_frozen HO0.out.res 0
 have hf1 := blk_cell HO0.out.res 1
 have hg1 := blk_frozen HO0.out.res 1
 have hf2 := blk_cell HO0.out.res 2
 have hg2 := blk_frozen HO0.out.res 2
 have hf3 := blk_cell HO0.out.res 3
 have hg3 := blk_frozen HO0.out.res 3
 have hf4 := blk_cell HO0.out.res 4
 have hg4 := blk_frozen HO0.out.res 4
 go_wp2
 refine bodyPost_ret (results_cell_row rfl _ _ w.heap.size 24 #[.int .i64 (2), .string ⟨#[]⟩, .int .i64 0, .int .i64 0, .slice none 0 0] (0, 0) _ rfl (HO0.out.done1 (eFm (2) []) none 0 _ (Kd.R_nil _ _ _ _ _)).1 Tryz.underlying24 rfl (by kernel_rfl)) rfl ?_
 exact (HO0.out.done1 (eFm (2) []) none 0 _ (Kd.R_nil _ _ _ _ _)).2
set_option maxHeartbeats 4000000 in
set_option maxRecDepth 100000 in
theorem one_empty (b : Nat) (n : Int) (s : PS) (t : Tok) (s1 : PS) (ht : takeP n s = (t, s1)) (h1 : t.f0 = 1) (h2 : t.f3.toList = []) (w : World) (h : IsP w b n s) :
  Calls Tryz.prog 103 #[.pointer (some ⟨b, 0, none⟩)] w (PartPost b n w (eFm 0 []) (failP 5 t.f1 s1)) := by
 have hlt := h.lt
 have HT := Aside0.mk ht
 have HO := Aside0.mk (OS.start h)
 obtain ⟨kd, at_, num, tx⟩ := t
 simp only at h1 h2 ⊢
 clear h ht
 have c1 : (kd == 1) = true := by simp [h1]
 have c4 : (kd == 4) = false := by simp [h1]
 have d1 : (tx.toList == [110, 111, 116]) = false := by rw [h2]; rfl
 have d2 : (tx.toList == [116, 114, 117, 101]) = false := by rw [h2]; rfl
 have d3 : (tx.toList == [102, 97, 108, 115, 101]) = false := by rw [h2]; rfl
 have d0 : (tx.toList == []) = true := by rw [h2]; rfl
 clear h1 h2
 go_enter Tryz.func103, Tryz.ntmps103
 go_wp2_with fail
 refine (take_calls b n s _ HO.out.par).mono ?_
 rintro e w1 ⟨rfl, hI, hS⟩
 rw [HT.out] at hI ⊢
 have HO0 := Aside0.mk (HO.out.step hI hS)
 have HO1 := Aside0.mk ((HO.out.step hI hS).alloc (.cells #[.int .i64 kd, .int .i64 at_, .int .i64 num, .string tx] 75))
 have HTB := Aside0.mk (show (w1.alloc (.cells #[.int .i64 kd, .int .i64 at_, .int .i64 num, .string tx] 75)).heap[w1.heap.size]? = some (.cells #[.int .i64 kd, .int .i64 at_, .int .i64 num, .string tx] 75 (0, 0)) from blk_new _ _ rfl)
 have hz1 : w.heap.size < w1.heap.size := by have := (HO.out.step hI hS).lt; omega
 clear hI hS HO
 go_wp2_with fail
 refine (fail_calls b n s1 5 at_ _ HO1.out.par).mono ?_
 rintro e w3 ⟨rfl, hI, hS⟩
 have HO3 := Aside0.mk (HO1.out.step hI hS)
 clear hI hS HO1 HO0 HTB
 have hf0 := blk_cell HO3.out.res 0
 have hg0 := blk_frozen HO3.out.res 0
 have hf1 := blk_cell HO3.out.res 1
 have hg1 := blk_frozen HO3.out.res 1
 have hf2 := blk_cell HO3.out.res 2
 have hg2 := blk_frozen HO3.out.res 2
 have hf3 := blk_cell HO3.out.res 3
 have hg3 := blk_frozen HO3.out.res 3
 have hf4 := blk_cell HO3.out.res 4
 have hg4 := blk_frozen HO3.out.res 4
 go_wp2
 refine bodyPost_ret (results_cell_row rfl _ _ w.heap.size 24 #[.int .i64 (0), .string ⟨#[]⟩, .int .i64 0, .int .i64 0, .slice none 0 0] (0, 0) _ rfl (HO3.out.done (eFm (0) []) none 0 (Kd.R_nil _ _ _ _ _)).1 Tryz.underlying24 rfl (by kernel_rfl)) rfl ?_
 exact (HO3.out.done (eFm (0) []) none 0 (Kd.R_nil _ _ _ _ _)).2
set_option maxHeartbeats 4000000 in
set_option maxRecDepth 100000 in
theorem one_key (b : Nat) (n : Int) (s : PS) (t : Tok) (s1 : PS) (ht : takeP n s = (t, s1)) (h1 : t.f0 = 1) (n1 : ¬ t.f3.toList = lNot) (n2 : ¬ t.f3.toList = lTrue) (n3 : ¬ t.f3.toList = lFalse) (n0 : ¬ t.f3.toList = []) (hk : isKey t.f3 = true) (w : World) (h : IsP w b n s) :
  Calls Tryz.prog 103 #[.pointer (some ⟨b, 0, none⟩)] w (PartPost b n w (eFm 0 []) (failP 5 t.f1 s1)) := by
 have hlt := h.lt
 have HT := Aside0.mk ht
 have HO := Aside0.mk (OS.start h)
 obtain ⟨kd, at_, num, tx⟩ := t
 simp only at h1 n1 n2 n3 n0 hk ⊢
 clear h ht
 have c1 : (kd == 1) = true := by simp [h1]
 have c4 : (kd == 4) = false := by simp [h1]
 have d1 : (tx.toList == [110, 111, 116]) = false := beq_eq_false_iff_ne.2 n1
 have d2 : (tx.toList == [116, 114, 117, 101]) = false := beq_eq_false_iff_ne.2 n2
 have d3 : (tx.toList == [102, 97, 108, 115, 101]) = false := beq_eq_false_iff_ne.2 n3
 have d0 : (tx.toList == []) = false := beq_eq_false_iff_ne.2 n0
 clear h1 n1 n2 n3 n0
 go_enter Tryz.func103, Tryz.ntmps103
 go_wp2_with fail
 refine (take_calls b n s _ HO.out.par).mono ?_
 rintro e w1 ⟨rfl, hI, hS⟩
 rw [HT.out] at hI ⊢
 have HO0 := Aside0.mk (HO.out.step hI hS)
 have HO1 := Aside0.mk ((HO.out.step hI hS).alloc (.cells #[.int .i64 kd, .int .i64 at_, .int .i64 num, .string tx] 75))
 have HTB := Aside0.mk (show (w1.alloc (.cells #[.int .i64 kd, .int .i64 at_, .int .i64 num, .string tx] 75)).heap[w1.heap.size]? = some (.cells #[.int .i64 kd, .int .i64 at_, .int .i64 num, .string tx] 75 (0, 0)) from blk_new _ _ rfl)
 have hz1 : w.heap.size < w1.heap.size := by have := (HO.out.step hI hS).lt; omega
 clear hI hS HO
 go_wp2_with fail
 refine (key_calls tx _).mono ?_
 rintro e w2 ⟨rfl, hb⟩
 rw [hk]
 have HO2 := Aside0.mk (HO1.out.below hb)
 have HTB2 := Aside0.mk ((hb.block _ (by simp)).trans HTB.out)
 clear hb HO1 HO0 HTB
 have ht1 := blk_cell HTB2.out 1
 go_wp2_with fail
 refine (fail_calls b n s1 5 at_ _ HO2.out.par).mono ?_
 rintro e w3 ⟨rfl, hI, hS⟩
 have HO3 := Aside0.mk (HO2.out.step hI hS)
 clear hI hS HO2 HTB2 ht1
 have hf0 := blk_cell HO3.out.res 0
 have hg0 := blk_frozen HO3.out.res 0
 have hf1 := blk_cell HO3.out.res 1
 have hg1 := blk_frozen HO3.out.res 1
 have hf2 := blk_cell HO3.out.res 2
 have hg2 := blk_frozen HO3.out.res 2
 have hf3 := blk_cell HO3.out.res 3
 have hg3 := blk_frozen HO3.out.res 3
 have hf4 := blk_cell HO3.out.res 4
 have hg4 := blk_frozen HO3.out.res 4
 go_wp2
 refine bodyPost_ret (results_cell_row rfl _ _ w.heap.size 24 #[.int .i64 (0), .string ⟨#[]⟩, .int .i64 0, .int .i64 0, .slice none 0 0] (0, 0) _ rfl (HO3.out.done (eFm (0) []) none 0 (Kd.R_nil _ _ _ _ _)).1 Tryz.underlying24 rfl (by kernel_rfl)) rfl ?_
 exact (HO3.out.done (eFm (0) []) none 0 (Kd.R_nil _ _ _ _ _)).2
set_option maxHeartbeats 4000000 in
set_option maxRecDepth 100000 in
theorem one_sym (b : Nat) (n : Int) (s : PS) (t : Tok) (s1 : PS) (ht : takeP n s = (t, s1)) (h1 : ¬ t.f0 = 1) (h2 : t.f0 = 4) (h3 : ¬ t.f3.toList = [40]) (w : World) (h : IsP w b n s) :
  Calls Tryz.prog 103 #[.pointer (some ⟨b, 0, none⟩)] w (PartPost b n w (eFm 0 []) (failP 5 t.f1 s1)) := by
 have hlt := h.lt
 have HT := Aside0.mk ht
 have HO := Aside0.mk (OS.start h)
 obtain ⟨kd, at_, num, tx⟩ := t
 simp only at h1 h2 h3 ⊢
 clear h ht
 have c1 : (kd == 1) = false := beq_eq_false_iff_ne.2 h1
 have c4 : (kd == 4) = true := by simp [h2]
 have d4 : (tx.toList == [40]) = false := beq_eq_false_iff_ne.2 h3
 clear h1 h2 h3
 go_enter Tryz.func103, Tryz.ntmps103
 go_wp2_with fail
 refine (take_calls b n s _ HO.out.par).mono ?_
 rintro e w1 ⟨rfl, hI, hS⟩
 rw [HT.out] at hI ⊢
 have HO0 := Aside0.mk (HO.out.step hI hS)
 have HO1 := Aside0.mk ((HO.out.step hI hS).alloc (.cells #[.int .i64 kd, .int .i64 at_, .int .i64 num, .string tx] 75))
 have HTB := Aside0.mk (show (w1.alloc (.cells #[.int .i64 kd, .int .i64 at_, .int .i64 num, .string tx] 75)).heap[w1.heap.size]? = some (.cells #[.int .i64 kd, .int .i64 at_, .int .i64 num, .string tx] 75 (0, 0)) from blk_new _ _ rfl)
 have hz1 : w.heap.size < w1.heap.size := by have := (HO.out.step hI hS).lt; omega
 clear hI hS HO
 go_wp2_with fail
 refine (fail_calls b n s1 5 at_ _ HO1.out.par).mono ?_
 rintro e w3 ⟨rfl, hI, hS⟩
 have HO3 := Aside0.mk (HO1.out.step hI hS)
 clear hI hS HO1 HO0 HTB
 have hf0 := blk_cell HO3.out.res 0
 have hg0 := blk_frozen HO3.out.res 0
 have hf1 := blk_cell HO3.out.res 1
 have hg1 := blk_frozen HO3.out.res 1
 have hf2 := blk_cell HO3.out.res 2
 have hg2 := blk_frozen HO3.out.res 2
 have hf3 := blk_cell HO3.out.res 3
 have hg3 := blk_frozen HO3.out.res 3
 have hf4 := blk_cell HO3.out.res 4
 have hg4 := blk_frozen HO3.out.res 4
 go_wp2
 refine bodyPost_ret (results_cell_row rfl _ _ w.heap.size 24 #[.int .i64 (0), .string ⟨#[]⟩, .int .i64 0, .int .i64 0, .slice none 0 0] (0, 0) _ rfl (HO3.out.done (eFm (0) []) none 0 (Kd.R_nil _ _ _ _ _)).1 Tryz.underlying24 rfl (by kernel_rfl)) rfl ?_
 exact (HO3.out.done (eFm (0) []) none 0 (Kd.R_nil _ _ _ _ _)).2
set_option maxHeartbeats 4000000 in
set_option maxRecDepth 100000 in
theorem one_other (b : Nat) (n : Int) (s : PS) (t : Tok) (s1 : PS) (ht : takeP n s = (t, s1)) (h1 : ¬ t.f0 = 1) (h2 : ¬ t.f0 = 4) (w : World) (h : IsP w b n s) :
  Calls Tryz.prog 103 #[.pointer (some ⟨b, 0, none⟩)] w (PartPost b n w (eFm 0 []) (failP 5 t.f1 s1)) := by
 have hlt := h.lt
 have HT := Aside0.mk ht
 have HO := Aside0.mk (OS.start h)
 obtain ⟨kd, at_, num, tx⟩ := t
 simp only at h1 h2 ⊢
 clear h ht
 have c1 : (kd == 1) = false := beq_eq_false_iff_ne.2 h1
 have c4 : (kd == 4) = false := beq_eq_false_iff_ne.2 h2
 clear h1 h2
 go_enter Tryz.func103, Tryz.ntmps103
 go_wp2_with fail
 refine (take_calls b n s _ HO.out.par).mono ?_
 rintro e w1 ⟨rfl, hI, hS⟩
 rw [HT.out] at hI ⊢
 have HO0 := Aside0.mk (HO.out.step hI hS)
 have HO1 := Aside0.mk ((HO.out.step hI hS).alloc (.cells #[.int .i64 kd, .int .i64 at_, .int .i64 num, .string tx] 75))
 have HTB := Aside0.mk (show (w1.alloc (.cells #[.int .i64 kd, .int .i64 at_, .int .i64 num, .string tx] 75)).heap[w1.heap.size]? = some (.cells #[.int .i64 kd, .int .i64 at_, .int .i64 num, .string tx] 75 (0, 0)) from blk_new _ _ rfl)
 have hz1 : w.heap.size < w1.heap.size := by have := (HO.out.step hI hS).lt; omega
 clear hI hS HO
 go_wp2_with fail
 refine (fail_calls b n s1 5 at_ _ HO1.out.par).mono ?_
 rintro e w3 ⟨rfl, hI, hS⟩
 have HO3 := Aside0.mk (HO1.out.step hI hS)
 clear hI hS HO1 HO0 HTB
 have hf0 := blk_cell HO3.out.res 0
 have hg0 := blk_frozen HO3.out.res 0
 have hf1 := blk_cell HO3.out.res 1
 have hg1 := blk_frozen HO3.out.res 1
 have hf2 := blk_cell HO3.out.res 2
 have hg2 := blk_frozen HO3.out.res 2
 have hf3 := blk_cell HO3.out.res 3
 have hg3 := blk_frozen HO3.out.res 3
 have hf4 := blk_cell HO3.out.res 4
 have hg4 := blk_frozen HO3.out.res 4
 go_wp2
 refine bodyPost_ret (results_cell_row rfl _ _ w.heap.size 24 #[.int .i64 (0), .string ⟨#[]⟩, .int .i64 0, .int .i64 0, .slice none 0 0] (0, 0) _ rfl (HO3.out.done (eFm (0) []) none 0 (Kd.R_nil _ _ _ _ _)).1 Tryz.underlying24 rfl (by kernel_rfl)) rfl ?_
 exact (HO3.out.done (eFm (0) []) none 0 (Kd.R_nil _ _ _ _ _)).2
end Go.Proofs.YtkgmempifggajaaGreatDoor.P
/- formula's (*parser).one: 'not', and parentheses. (Printed by wip/tools/gen_one.py.) -/
namespace Go.Proofs.YtkgmempifggajaaGreatDoor.P
open Go.RowKit Go.Proofs.YtkgmempifggajaaGreatDoorW.PrintWords Go.Proofs.YtkgmempifggajaaGreatDoorW.PrintLast Go.Proofs.YtkgmempifggajaaGreatDoorW.PrintMore
set_option linter.unusedVariables false
set_option linter.unusedSimpArgs false
theorem size_set (w : World) (p : Addr) (v : Value) : (w.setCell p v).heap.size = w.heap.size := by simp [World.setCell]
theorem OS.put {w0 w : World} {b : Nat} {n : Int} {s : PS} (h : OS w0 w b n s) (p : Addr) (hp : w0.heap.size < p.block) (v : Value) : OS w0 (w.setCell p v) b n s :=
 ⟨(Below.heap_setCell _ _ _ _ (by omega)).trans h.res, h.par.keep (fun k hk => Below.heap_setCell _ _ _ _ (by have := h.ahead; omega)), h.old.setNew (by omega) _, h.ahead⟩
theorem OS.put4 {w0 w : World} {b : Nat} {n : Int} {s : PS} (h : OS w0 w b n s) {g : Nat} (hg : w0.heap.size < g) (x y z u : Value) : OS w0 ((((w.setCell ⟨g, 0, none⟩ x).setCell ⟨g, 1, none⟩ y).setCell ⟨g, 2, none⟩ z).setCell ⟨g, 3, none⟩ u) b n s :=
 (((h.put ⟨g, 0, none⟩ hg x).put ⟨g, 1, none⟩ hg y).put ⟨g, 2, none⟩ hg z).put ⟨g, 3, none⟩ hg u
theorem put4_other (w : World) (g : Nat) (x y z u : Value) {k : Nat} (hk : k ≠ g) : ((((w.setCell ⟨g, 0, none⟩ x).setCell ⟨g, 1, none⟩ y).setCell ⟨g, 2, none⟩ z).setCell ⟨g, 3, none⟩ u).heap[k]? = w.heap[k]? := by
 rw [Below.heap_setCell _ _ _ _ hk, Below.heap_setCell _ _ _ _ hk, Below.heap_setCell _ _ _ _ hk, Below.heap_setCell _ _ _ _ hk]
theorem OS.doneN {w0 w : World} {b : Nat} {n : Int} {s : PS} (h : OS w0 w b n s) (y : Fm) (A : Option Addr) (c : Nat) (hR : Kd.R kFm 24 w w0.heap.size (fun q => q ≠ w0.heap.size) (.slice A y.f4.length c) y.f4) :
  ((((((w.setCell ⟨w0.heap.size, 0, none⟩ (.int .i64 4)).setCell ⟨w0.heap.size, 1, none⟩ (.string ⟨#[]⟩)).setCell ⟨w0.heap.size, 2, none⟩ (.int .i64 0)).setCell ⟨w0.heap.size, 3, none⟩ (.int .i64 0)).setCell ⟨w0.heap.size, 4, none⟩ (.slice (some ⟨w.heap.size, 0, none⟩) 1 1)).alloc (.cells #[.int .i64 y.f0, .string y.f1, .int .i64 y.f2, .int .i64 y.f3, .slice A y.f4.length c] 24)).heap[w0.heap.size]? = some (.cells #[.int .i64 4, .string ⟨#[]⟩, .int .i64 0, .int .i64 0, .slice (some ⟨w.heap.size, 0, none⟩) 1 1] 24 (0, 0)) ∧
  PartPost b n w0 (eFm 4 [y]) s (.returned (.agg #[.int .i64 4, .string ⟨#[]⟩, .int .i64 0, .int .i64 0, .slice (some ⟨w.heap.size, 0, none⟩) 1 1])) ((((((w.setCell ⟨w0.heap.size, 0, none⟩ (.int .i64 4)).setCell ⟨w0.heap.size, 1, none⟩ (.string ⟨#[]⟩)).setCell ⟨w0.heap.size, 2, none⟩ (.int .i64 0)).setCell ⟨w0.heap.size, 3, none⟩ (.int .i64 0)).setCell ⟨w0.heap.size, 4, none⟩ (.slice (some ⟨w.heap.size, 0, none⟩) 1 1)).alloc (.cells #[.int .i64 y.f0, .string y.f1, .int .i64 y.f2, .int .i64 y.f3, .slice A y.f4.length c] 24)) := by
 have hlt := h.lt
 have hR5 : Kd.R kFm 24 (((((w.setCell ⟨w0.heap.size, 0, none⟩ (.int .i64 4)).setCell ⟨w0.heap.size, 1, none⟩ (.string ⟨#[]⟩)).setCell ⟨w0.heap.size, 2, none⟩ (.int .i64 0)).setCell ⟨w0.heap.size, 3, none⟩ (.int .i64 0)).setCell ⟨w0.heap.size, 4, none⟩ (.slice (some ⟨w.heap.size, 0, none⟩) 1 1)) w0.heap.size (fun q => q ≠ w0.heap.size) (.slice A y.f4.length c) y.f4 := Kd.R_step hR (fun k hk _ => put5_other _ _ _ _ _ _ _ hk)
 have hz : (((((w.setCell ⟨w0.heap.size, 0, none⟩ (.int .i64 4)).setCell ⟨w0.heap.size, 1, none⟩ (.string ⟨#[]⟩)).setCell ⟨w0.heap.size, 2, none⟩ (.int .i64 0)).setCell ⟨w0.heap.size, 3, none⟩ (.int .i64 0)).setCell ⟨w0.heap.size, 4, none⟩ (.slice (some ⟨w.heap.size, 0, none⟩) 1 1)).heap.size = w.heap.size := by simp only [size_set]
 have hl := R_lit1 (okp := fun q => q ≠ w0.heap.size) (ok := fun _ => True) (kFm_mkM_ _ _ _ y hR5) (fun _ _ => trivial) trivial (by rw [hz]; omega)
 rw [hz] at hl
 refine ⟨blk_alloc_old (put5 h.res _ _ _ _ _) _, .slice (some ⟨w.heap.size, 0, none⟩) 1 1, rfl, hl, IsP.below (h.par.keep (fun k hk => put5_other _ _ _ _ _ _ _ (by have := h.ahead; omega))) (below_alloc (Below.refl _ _) _), ?_⟩
 exact (((((h.old.setNew (p := ⟨w0.heap.size, 0, none⟩) (Nat.le_refl _) _).setNew (p := ⟨w0.heap.size, 1, none⟩) (Nat.le_refl _) _).setNew (p := ⟨w0.heap.size, 2, none⟩) (Nat.le_refl _) _).setNew (p := ⟨w0.heap.size, 3, none⟩) (Nat.le_refl _) _).setNew (p := ⟨w0.heap.size, 4, none⟩) (Nat.le_refl _) _).alloc _
set_option maxHeartbeats 4000000 in
set_option maxRecDepth 100000 in
theorem one_not (b : Nat) (n : Int) (s : PS) (t : Tok) (s1 : PS) (ht : takeP n s = (t, s1)) (h1 : t.f0 = 1) (h2 : t.f3.toList = lNot) (part : PS → Fm × PS) (hp : ∀ w, IsP w b n s1 → Calls Tryz.prog 103 #[.pointer (some ⟨b, 0, none⟩)] w (PartPost b n w (part s1).1 (part s1).2)) (w : World) (h : IsP w b n s) :
  Calls Tryz.prog 103 #[.pointer (some ⟨b, 0, none⟩)] w (PartPost b n w (eFm 4 [(part s1).1]) (part s1).2) := by
 have hlt := h.lt
 have HT := Aside0.mk ht
 have HO := Aside0.mk (OS.start h)
 obtain ⟨kd, at_, num, tx⟩ := t
 simp only at h1 h2
 clear h ht
 have c1 : (kd == 1) = true := by simp [h1]
 have c4 : (kd == 4) = false := by simp [h1]
 have d1 : (tx.toList == [110, 111, 116]) = true := by rw [h2]; rfl
 have HP := Aside0.mk hp
 obtain ⟨⟨y, st⟩, hy⟩ : ∃ x, part s1 = x := ⟨_, rfl⟩
 have HY := Aside0.mk hy
 rw [hy]
 clear h1 h2 hp hy
 go_enter Tryz.func103, Tryz.ntmps103
 go_wp2_with fail
 refine (take_calls b n s _ HO.out.par).mono ?_
 rintro e w1 ⟨rfl, hI, hS⟩
 rw [HT.out] at hI ⊢
 have HO0 := Aside0.mk (HO.out.step hI hS)
 have HO1 := Aside0.mk ((HO.out.step hI hS).alloc (.cells #[.int .i64 kd, .int .i64 at_, .int .i64 num, .string tx] 75))
 have HTB := Aside0.mk (show (w1.alloc (.cells #[.int .i64 kd, .int .i64 at_, .int .i64 num, .string tx] 75)).heap[w1.heap.size]? = some (.cells #[.int .i64 kd, .int .i64 at_, .int .i64 num, .string tx] 75 (0, 0)) from blk_new _ _ rfl)
 have hz1 : w.heap.size < w1.heap.size := by have := (HO.out.step hI hS).lt; omega
 clear hI hS HO
 go_wp2_with fail
 refine (HP.out _ HO1.out.par).mono ?_
 rintro e w3 ⟨v3, rfl, hR, hI, hS⟩
 obtain ⟨A3, c3, rfl⟩ := Kd.R_slice hR
 have hz3 : (w1.alloc (.cells #[.int .i64 kd, .int .i64 at_, .int .i64 num, .string tx] 75)).heap.size = w1.heap.size + 1 := by simp
 rw [HY.out] at hR hI ⊢
 have HO3 := Aside0.mk (HO1.out.step hI hS)
 have HR3 := Aside0.mk (R_new_ok (base' := w.heap.size) (ok := fun q => q ≠ w.heap.size) hR (by simp; omega) (fun k hk => by simp at hk; omega))
 have hz4 := HO3.out.lt
 clear hR hI hS HO1 HO0 HTB hz3
 have hf0 := blk_cell HO3.out.res 0
 have hg0 := blk_frozen HO3.out.res 0
 have hf1 := blk_cell HO3.out.res 1
 have hg1 := blk_frozen HO3.out.res 1
 have hf2 := blk_cell HO3.out.res 2
 have hg2 := blk_frozen HO3.out.res 2
 have hf3 := blk_cell HO3.out.res 3
 have hg3 := blk_frozen HO3.out.res 3
 have hf4 := blk_cell HO3.out.res 4
 have hg4 := blk_frozen HO3.out.res 4
 go_wp2
 refine bodyPost_ret (results_cell_row rfl _ _ w.heap.size 24 #[.int .i64 4, .string ⟨#[]⟩, .int .i64 0, .int .i64 0, .slice (some ⟨w3.heap.size, 0, none⟩) 1 1] (0, 0) _ rfl (HO3.out.doneN y A3 c3 HR3.out).1 Tryz.underlying24 rfl (by kernel_rfl)) rfl ?_
 exact (HO3.out.doneN y A3 c3 HR3.out).2
set_option maxHeartbeats 4000000 in
set_option maxRecDepth 100000 in
theorem one_paren (b : Nat) (n : Int) (s : PS) (t : Tok) (s1 : PS) (ht : takeP n s = (t, s1)) (h1 : ¬ t.f0 = 1) (h2 : t.f0 = 4) (h3 : t.f3.toList = [40]) (part : PS → Fm × PS) (hp : ∀ w, IsP w b n s1 → Calls Tryz.prog 56 #[.pointer (some ⟨b, 0, none⟩)] w (PartPost b n w (part s1).1 (part s1).2)) (w : World) (h : IsP w b n s) :
  Calls Tryz.prog 103 #[.pointer (some ⟨b, 0, none⟩)] w (PartPost b n w (closeP n (part s1)).1 (closeP n (part s1)).2) := by
 have hlt := h.lt
 have HT := Aside0.mk ht
 have HO := Aside0.mk (OS.start h)
 obtain ⟨kd, at_, num, tx⟩ := t
 simp only at h1 h2 h3
 clear h ht
 have c1 : (kd == 1) = false := beq_eq_false_iff_ne.2 h1
 have c4 : (kd == 4) = true := by simp [h2]
 have d4 : (tx.toList == [40]) = true := by rw [h3]; rfl
 have HP := Aside0.mk hp
 obtain ⟨⟨y, st⟩, hy⟩ : ∃ x, part s1 = x := ⟨_, rfl⟩
 have HY := Aside0.mk hy
 rw [hy]
 clear h1 h2 h3 hp hy
 go_enter Tryz.func103, Tryz.ntmps103
 go_wp2_with fail
 refine (take_calls b n s _ HO.out.par).mono ?_
 rintro e w1 ⟨rfl, hI, hS⟩
 rw [HT.out] at hI ⊢
 have HO0 := Aside0.mk (HO.out.step hI hS)
 have HO1 := Aside0.mk ((HO.out.step hI hS).alloc (.cells #[.int .i64 kd, .int .i64 at_, .int .i64 num, .string tx] 75))
 have HTB := Aside0.mk (show (w1.alloc (.cells #[.int .i64 kd, .int .i64 at_, .int .i64 num, .string tx] 75)).heap[w1.heap.size]? = some (.cells #[.int .i64 kd, .int .i64 at_, .int .i64 num, .string tx] 75 (0, 0)) from blk_new _ _ rfl)
 have hz1 : w.heap.size < w1.heap.size := by have := (HO.out.step hI hS).lt; omega
 clear hI hS HO
 go_wp2_with fail
 refine (HP.out _ HO1.out.par).mono ?_
 rintro e w3 ⟨v3, rfl, hR, hI, hS⟩
 obtain ⟨A3, c3, rfl⟩ := Kd.R_slice hR
 rw [HY.out] at hR hI ⊢
 have HO3 := Aside0.mk (HO1.out.step hI hS)
 have hz3 : w1.heap.size < w3.heap.size := by have := hS.size; simp at this; omega
 have HR3 := Aside0.mk (R_new_ok (base' := w.heap.size) (ok := fun q => w1.heap.size < q) hR (by simp; omega) (fun k hk => by simp at hk; omega))
 have HTB3 := Aside0.mk ((hS.block w1.heap.size (by simp) (by unfold OnlyP; have := HO0.out.ahead; omega)).trans HTB.out)
 have hz4 := HO3.out.lt
 clear hR hI hS HO1 HO0 HTB
 have HO4 := Aside0.mk (HO3.out.alloc (.cells #[.int .i64 y.f0, .string y.f1, .int .i64 y.f2, .int .i64 y.f3, .slice A3 y.f4.length c3] 24))
 go_wp2_with fail
 refine (take_calls b n st _ HO4.out.par).mono ?_
 rintro e w5 ⟨rfl, hI, hS⟩
 have HO5 := Aside0.mk (HO4.out.step hI hS)
 have hz5 : w3.heap.size < w5.heap.size := by have := hS.size; simp at this; omega
 have HF5 := Aside0.mk ((hS.block w3.heap.size (by simp) (by unfold OnlyP; have := HO3.out.ahead; omega)).trans (blk_new w3 (.cells #[.int .i64 y.f0, .string y.f1, .int .i64 y.f2, .int .i64 y.f3, .slice A3 y.f4.length c3] 24) rfl))
 have HTB5 := Aside0.mk ((hS.block w1.heap.size (by simp; omega) (by unfold OnlyP; have := HO3.out.ahead; omega)).trans (blk_alloc_old HTB3.out _))
 have HR5 := Aside0.mk (R_same (Kd.R_alloc HR3.out (.cells #[.int .i64 y.f0, .string y.f1, .int .i64 y.f2, .int .i64 y.f3, .slice A3 y.f4.length c3] 24)) hS (fun k hk => by unfold OnlyP; have := HO3.out.ahead; omega))
 clear hI hS HO4 HO3 HTB3 HR3
 have HCL := Aside0.mk (show closeP n (y, st) = (y, if (takeP n st).1.f0 ≠ 4 ∨ (takeP n st).1.f3.toList ≠ [41] then failP 5 (takeP n st).1.f1 (takeP n st).2 else (takeP n st).2) from rfl)
 obtain ⟨⟨u, s6⟩, hu⟩ : ∃ q, takeP n st = q := ⟨_, rfl⟩
 rw [hu] at HO5 HCL ⊢
 clear hu
 obtain ⟨ku, au, nu, tu⟩ := u
 have HCL2 := Aside0.mk (show closeP n (y, st) = (y, if ku ≠ 4 ∨ tu.toList ≠ [41] then failP 5 au s6 else s6) from HCL.out)
 clear HCL
 have HO6 := Aside0.mk (HO5.out.put4 (g := w1.heap.size) (by omega) (.int .i64 ku) (.int .i64 au) (.int .i64 nu) (.string tu))
 have HF6 := Aside0.mk ((put4_other w5 w1.heap.size (.int .i64 ku) (.int .i64 au) (.int .i64 nu) (.string tu) (show w3.heap.size ≠ w1.heap.size by omega)).trans HF5.out)
 have HT6 := Aside0.mk (put4 HTB5.out (.int .i64 ku) (.int .i64 au) (.int .i64 nu) (.string tu))
 have HR6 := Aside0.mk (show Kd.R kFm 24 ((((w5.setCell ⟨w1.heap.size, 0, none⟩ (.int .i64 ku)).setCell ⟨w1.heap.size, 1, none⟩ (.int .i64 au)).setCell ⟨w1.heap.size, 2, none⟩ (.int .i64 nu)).setCell ⟨w1.heap.size, 3, none⟩ (.string tu)) w.heap.size (fun q => w1.heap.size < q) (.slice A3 y.f4.length c3) y.f4 from Kd.R_step HR5.out (fun k hk _ => put4_other _ _ _ _ _ _ (by omega)))
 clear HR5
 have ht0 := blk_cell HTB5.out 0
 have hu0 := blk_frozen HTB5.out 0
 have ht1 := blk_cell HTB5.out 1
 have hu1 := blk_frozen HTB5.out 1
 have ht2 := blk_cell HTB5.out 2
 have hu2 := blk_frozen HTB5.out 2
 have ht3 := blk_cell HTB5.out 3
 have hu3 := blk_frozen HTB5.out 3
 have hq0 := blk_cell HF5.out 0
 have hq1 := blk_cell HF5.out 1
 have hq2 := blk_cell HF5.out 2
 have hq3 := blk_cell HF5.out 3
 have hq4 := blk_cell HF5.out 4
 have hf0 := blk_cell HO5.out.res 0
 have hg0 := blk_frozen HO5.out.res 0
 have hf1 := blk_cell HO5.out.res 1
 have hg1 := blk_frozen HO5.out.res 1
 have hf2 := blk_cell HO5.out.res 2
 have hg2 := blk_frozen HO5.out.res 2
 have hf3 := blk_cell HO5.out.res 3
 have hg3 := blk_frozen HO5.out.res 3
 have hf4 := blk_cell HO5.out.res 4
 have hg4 := blk_frozen HO5.out.res 4
 have hn1 : w3.heap.size ≠ w1.heap.size := by omega
 have hn2 : w1.heap.size ≠ w3.heap.size := by omega
 have hn3 : w.heap.size ≠ w1.heap.size := by omega
 have hn4 : w1.heap.size ≠ w.heap.size := by omega
 by_cases hbad : ku ≠ 4 ∨ tu.toList ≠ [41]
 ·have HX := Aside0.mk (HCL2.out.trans (congrArg (fun z => (y, z)) (if_pos hbad)))
  have hcs : ku ≠ 4 ∨ (ku = 4 ∧ tu.toList ≠ [41]) := (Decidable.em (ku = 4)).elim (fun h => .inr ⟨h, hbad.resolve_left (fun h2 => h2 h)⟩) .inl
  clear hbad HCL2
  rcases hcs with g1 | ⟨g1, g2⟩
  ·have e1 : (ku != 4) = true := by simpa using g1
   clear g1
   go_wp2_with fail
   refine (fail_calls b n s6 5 au _ HO6.out.par).mono ?_
   rintro e w7 ⟨rfl, hI, hS⟩
   have HO7 := Aside0.mk (HO6.out.step hI hS)
   have HR7 := Aside0.mk (R_same HR6.out hS (fun k hk => by unfold OnlyP; have := HO7.out.ahead; omega))
   have HF7 := Aside0.mk ((hS.block w3.heap.size (by simp only [size_set]; omega) (by unfold OnlyP; have := HO7.out.ahead; omega)).trans HF6.out)
   clear hI hS hf0 hf1 hf2 hf3 hf4 hg0 hg1 hg2 hg3 hg4 hq0 hq1 hq2 hq3 hq4
   have hq0 := blk_cell HF7.out 0
   have hq1 := blk_cell HF7.out 1
   have hq2 := blk_cell HF7.out 2
   have hq3 := blk_cell HF7.out 3
   have hq4 := blk_cell HF7.out 4
   have hf0 := blk_cell HO7.out.res 0
   have hg0 := blk_frozen HO7.out.res 0
   have hf1 := blk_cell HO7.out.res 1
   have hg1 := blk_frozen HO7.out.res 1
   have hf2 := blk_cell HO7.out.res 2
   have hg2 := blk_frozen HO7.out.res 2
   have hf3 := blk_cell HO7.out.res 3
   have hg3 := blk_frozen HO7.out.res 3
   have hf4 := blk_cell HO7.out.res 4
   have hg4 := blk_frozen HO7.out.res 4
   go_wp2
   refine bodyPost_ret (results_cell_row rfl _ _ w.heap.size 24 #[.int .i64 y.f0, .string y.f1, .int .i64 y.f2, .int .i64 y.f3, .slice A3 y.f4.length c3] (0, 0) _ rfl (HO7.out.done y A3 c3 (Kd.R_mono HR7.out (fun k hk => by omega))).1 Tryz.underlying24 rfl (by kernel_rfl)) rfl ?_
   rw [HX.out]
   exact (HO7.out.done y A3 c3 (Kd.R_mono HR7.out (fun k hk => by omega))).2
  ·have e1 : (ku != 4) = false := by simp [g1]
   have e2 : (tu.toList == [41]) = false := beq_eq_false_iff_ne.2 g2
   clear g1 g2
   go_wp2_with fail
   refine (fail_calls b n s6 5 au _ HO6.out.par).mono ?_
   rintro e w7 ⟨rfl, hI, hS⟩
   have HO7 := Aside0.mk (HO6.out.step hI hS)
   have HR7 := Aside0.mk (R_same HR6.out hS (fun k hk => by unfold OnlyP; have := HO7.out.ahead; omega))
   have HF7 := Aside0.mk ((hS.block w3.heap.size (by simp only [size_set]; omega) (by unfold OnlyP; have := HO7.out.ahead; omega)).trans HF6.out)
   clear hI hS hf0 hf1 hf2 hf3 hf4 hg0 hg1 hg2 hg3 hg4 hq0 hq1 hq2 hq3 hq4
   have hq0 := blk_cell HF7.out 0
   have hq1 := blk_cell HF7.out 1
   have hq2 := blk_cell HF7.out 2
   have hq3 := blk_cell HF7.out 3
   have hq4 := blk_cell HF7.out 4
   have hf0 := blk_cell HO7.out.res 0
   have hg0 := blk_frozen HO7.out.res 0
   have hf1 := blk_cell HO7.out.res 1
   have hg1 := blk_frozen HO7.out.res 1
   have hf2 := blk_cell HO7.out.res 2
   have hg2 := blk_frozen HO7.out.res 2
   have hf3 := blk_cell HO7.out.res 3
   have hg3 := blk_frozen HO7.out.res 3
   have hf4 := blk_cell HO7.out.res 4
   have hg4 := blk_frozen HO7.out.res 4
   go_wp2
   refine bodyPost_ret (results_cell_row rfl _ _ w.heap.size 24 #[.int .i64 y.f0, .string y.f1, .int .i64 y.f2, .int .i64 y.f3, .slice A3 y.f4.length c3] (0, 0) _ rfl (HO7.out.done y A3 c3 (Kd.R_mono HR7.out (fun k hk => by omega))).1 Tryz.underlying24 rfl (by kernel_rfl)) rfl ?_
   rw [HX.out]
   exact (HO7.out.done y A3 c3 (Kd.R_mono HR7.out (fun k hk => by omega))).2
 ·have HX := Aside0.mk (HCL2.out.trans (congrArg (fun z => (y, z)) (if_neg hbad)))
  have g1 : ku = 4 := Decidable.byContradiction (fun h => hbad (.inl h))
  have g2 : tu.toList = [41] := Decidable.byContradiction (fun h => hbad (.inr h))
  have e1 : (ku != 4) = false := by simp [g1]
  have e2 : (tu.toList == [41]) = true := by rw [g2]; rfl
  clear hbad g1 g2 HCL2
  go_wp2
  refine bodyPost_ret (results_cell_row rfl _ _ w.heap.size 24 #[.int .i64 y.f0, .string y.f1, .int .i64 y.f2, .int .i64 y.f3, .slice A3 y.f4.length c3] (0, 0) _ rfl (HO6.out.done y A3 c3 (Kd.R_mono HR6.out (fun k hk => by omega))).1 Tryz.underlying24 rfl (by kernel_rfl)) rfl ?_
  rw [HX.out]
  exact (HO6.out.done y A3 c3 (Kd.R_mono HR6.out (fun k hk => by omega))).2
end Go.Proofs.YtkgmempifggajaaGreatDoor.P
/- formula's (*parser).one: a test. (Printed by wip/tools/gen_one.py.) -/
namespace Go.Proofs.YtkgmempifggajaaGreatDoor.P
open Go.RowKit Go.Proofs.YtkgmempifggajaaGreatDoorW.PrintWords Go.Proofs.YtkgmempifggajaaGreatDoorW.PrintLast Go.Proofs.YtkgmempifggajaaGreatDoorW.PrintMore
set_option linter.unusedVariables false
set_option linter.unusedSimpArgs false
def symB : List ByteArray := [{ data := #[] }, { data := #[61] }, { data := #[33, 61] }, { data := #[60] }, { data := #[60, 61] }, { data := #[62] }, { data := #[62, 61] }]
theorem symB_ix (s : ByteArray) : idxBy (fun a => s.toList == a.toList) symB = symIx s := by
 have e : ∀ l : List UInt8, ({ data := l.toArray } : ByteArray).toList = l := fun l => by rw [ByteArray.toList_eq]
 have h0 := e []
 have h1 := e [61]
 have h2 := e [33, 61]
 have h3 := e [60]
 have h4 := e [60, 61]
 have h5 := e [62]
 have h6 := e [62, 61]
 simp only [symIx, symB, symL, idxBy]
 rw [show ({ data := #[] } : ByteArray).toList = [] from h0, show ({ data := #[61] } : ByteArray).toList = [61] from h1, show ({ data := #[33, 61] } : ByteArray).toList = [33, 61] from h2, show ({ data := #[60] } : ByteArray).toList = [60] from h3, show ({ data := #[60, 61] } : ByteArray).toList = [60, 61] from h4, show ({ data := #[62] } : ByteArray).toList = [62] from h5, show ({ data := #[62, 61] } : ByteArray).toList = [62, 61] from h6]
set_option maxHeartbeats 4000000 in
set_option maxRecDepth 100000 in
theorem one_test (b : Nat) (n : Int) (s : PS) (t : Tok) (s1 : PS) (ht : takeP n s = (t, s1)) (h1 : t.f0 = 1) (n1 : ¬ t.f3.toList = lNot) (n2 : ¬ t.f3.toList = lTrue) (n3 : ¬ t.f3.toList = lFalse) (n0 : ¬ t.f3.toList = []) (hk : isKey t.f3 = false) (u v : Tok) (s2 s3 s4 s6 : PS) (hu : takeP n s1 = (u, s2)) (h3 : s3 = if u.f0 ≠ 4 ∨ symIx u.f3 < 1 then failP 5 u.f1 s2 else s2) (hv : takeP n s3 = (v, s4)) (h6 : s6 = if 1000000 < v.f2 then failP 10 v.f1 (if v.f0 ≠ 2 then failP 5 v.f1 s4 else s4) else (if v.f0 ≠ 2 then failP 5 v.f1 s4 else s4)) (w : World) (h : IsP w b n s) :
  Calls Tryz.prog 103 #[.pointer (some ⟨b, 0, none⟩)] w (PartPost b n w ⟨3, t.f3, symIx u.f3, v.f2, []⟩ s6) := by
 have hlt := h.lt
 have HT := Aside0.mk ht
 have HO := Aside0.mk (OS.start h)
 obtain ⟨kd, at_, num, tx⟩ := t
 simp only at h1 n1 n2 n3 n0 hk ⊢
 clear h ht
 have c1 : (kd == 1) = true := by simp [h1]
 have c4 : (kd == 4) = false := by simp [h1]
 have d1 : (tx.toList == [110, 111, 116]) = false := beq_eq_false_iff_ne.2 n1
 have d2 : (tx.toList == [116, 114, 117, 101]) = false := beq_eq_false_iff_ne.2 n2
 have d3 : (tx.toList == [102, 97, 108, 115, 101]) = false := beq_eq_false_iff_ne.2 n3
 have d0 : (tx.toList == []) = false := beq_eq_false_iff_ne.2 n0
 obtain ⟨ku, au, nu, tu⟩ := u
 obtain ⟨kv, av, nv, tv⟩ := v
 have HU := Aside0.mk hu
 have HV := Aside0.mk hv
 have H3 := Aside0.mk h3
 have H6 := Aside0.mk h6
 clear h1 n1 n2 n3 n0 hu hv h3 h6
 go_enter Tryz.func103, Tryz.ntmps103
 go_wp2_with fail
 refine (take_calls b n s _ HO.out.par).mono ?_
 rintro e w1 ⟨rfl, hI, hS⟩
 rw [HT.out] at hI ⊢
 have HO0 := Aside0.mk (HO.out.step hI hS)
 have HO1 := Aside0.mk ((HO.out.step hI hS).alloc (.cells #[.int .i64 kd, .int .i64 at_, .int .i64 num, .string tx] 75))
 have HTB := Aside0.mk (show (w1.alloc (.cells #[.int .i64 kd, .int .i64 at_, .int .i64 num, .string tx] 75)).heap[w1.heap.size]? = some (.cells #[.int .i64 kd, .int .i64 at_, .int .i64 num, .string tx] 75 (0, 0)) from blk_new _ _ rfl)
 have hz1 : w.heap.size < w1.heap.size := by have := (HO.out.step hI hS).lt; omega
 clear hI hS HO
 go_wp2_with fail
 refine (key_calls tx _).mono ?_
 rintro e w2 ⟨rfl, hb⟩
 rw [hk]
 have HO2 := Aside0.mk (HO1.out.below hb)
 have HTB2 := Aside0.mk ((hb.block _ (by simp)).trans HTB.out)
 have hz2 : w1.heap.size < w2.heap.size := by have := hb.size; simp at this; omega
 clear hb HO1 HO0 HTB hk
 have HO3 := Aside0.mk (HO2.out.alloc (.cells #[.int .i64 3, .string tx, .int .i64 0, .int .i64 0, .slice none 0 0] 24))
 go_wp2_with fail
 refine (take_calls b n s1 _ HO3.out.par).mono ?_
 rintro e w3 ⟨rfl, hI, hS⟩
 rw [HU.out] at hI ⊢
 have hah := HO3.out.ahead
 have hz3 : w2.heap.size < w3.heap.size := by have := hS.size; simp at this; omega
 have H63 := Aside0.mk ((hS.block w2.heap.size (by simp) (by unfold OnlyP; omega)).trans (blk_new w2 (.cells #[.int .i64 3, .string tx, .int .i64 0, .int .i64 0, .slice none 0 0] 24) rfl))
 have HT3 := Aside0.mk ((hS.block w1.heap.size (by simp; omega) (by unfold OnlyP; omega)).trans (blk_alloc_old HTB2.out _))
 have HO4 := Aside0.mk (HO3.out.step hI hS)
 clear hI hS HO3 HO2 HTB2
 have HO5 := Aside0.mk (HO4.out.put4 (g := w1.heap.size) (by omega) (.int .i64 ku) (.int .i64 au) (.int .i64 nu) (.string tu))
 have HT5 := Aside0.mk (put4 HT3.out (.int .i64 ku) (.int .i64 au) (.int .i64 nu) (.string tu))
 have H65 := Aside0.mk ((put4_other w3 w1.heap.size (.int .i64 ku) (.int .i64 au) (.int .i64 nu) (.string tu) (show w2.heap.size ≠ w1.heap.size by omega)).trans H63.out)
 have ht0 := blk_cell HT3.out 0
 have hu0 := blk_frozen HT3.out 0
 have ht1 := blk_cell HT3.out 1
 have hu1 := blk_frozen HT3.out 1
 have ht2 := blk_cell HT3.out 2
 have hu2 := blk_frozen HT3.out 2
 have ht3 := blk_cell HT3.out 3
 have hu3 := blk_frozen HT3.out 3
 go_wp2_with fail
 refine (symbols_calls _).mono ?_
 rintro e w4 ⟨rfl, hb⟩
 have hz4 : w3.heap.size ≤ w4.heap.size := by have := hb.size; simpa only [size_set] using this
 have HO6 := Aside0.mk ((HO5.out.below hb).alloc (.cells #[.string ⟨#[]⟩, .string ⟨#[61]⟩, .string ⟨#[33, 61]⟩, .string ⟨#[60]⟩, .string ⟨#[60, 61]⟩, .string ⟨#[62]⟩, .string ⟨#[62, 61]⟩] 87))
 have HT6 := Aside0.mk (blk_alloc_old ((hb.block w1.heap.size (by simp only [size_set]; omega)).trans HT5.out) (.cells #[.string ⟨#[]⟩, .string ⟨#[61]⟩, .string ⟨#[33, 61]⟩, .string ⟨#[60]⟩, .string ⟨#[60, 61]⟩, .string ⟨#[62]⟩, .string ⟨#[62, 61]⟩] 87))
 have H66 := Aside0.mk (blk_alloc_old ((hb.block w2.heap.size (by simp only [size_set]; omega)).trans H65.out) (.cells #[.string ⟨#[]⟩, .string ⟨#[61]⟩, .string ⟨#[33, 61]⟩, .string ⟨#[60]⟩, .string ⟨#[60, 61]⟩, .string ⟨#[62]⟩, .string ⟨#[62, 61]⟩] 87))
 have HC6 := Aside0.mk (show Kd.C Kd.string (w4.alloc (.cells #[.string ⟨#[]⟩, .string ⟨#[61]⟩, .string ⟨#[33, 61]⟩, .string ⟨#[60]⟩, .string ⟨#[60, 61]⟩, .string ⟨#[62]⟩, .string ⟨#[62, 61]⟩] 87)) (some ⟨w4.heap.size, 0, none⟩) symB.length symB from lit_C (enc := Value.string) (h1 := fun _ => rfl) w4 87 symB (by decide))
 clear hb HO5 HT5 H65 HO4 H63 HT3 ht0 hu0 ht1 hu1 ht2 hu2 ht3 hu3
 go_wp2_with fail
 obtain ⟨W, hW⟩ : ∃ W, w4.alloc (.cells #[.string ⟨#[]⟩, .string ⟨#[61]⟩, .string ⟨#[33, 61]⟩, .string ⟨#[60]⟩, .string ⟨#[60, 61]⟩, .string ⟨#[62]⟩, .string ⟨#[62, 61]⟩] 87) = W := ⟨_, rfl⟩
 rw [hW] at HO6 HT6 H66 HC6 ⊢
 clear hW
 have q1 := blk_cell HT6.out 3
 have q1d : W.drew.cell? ⟨w1.heap.size, 3, none⟩ = some (.string tu) := q1
 have q1s : (W.setCell ⟨w2.heap.size, 2, none⟩ (.int .i64 (symIx tu))).drew.cell? ⟨w1.heap.size, 3, none⟩ = some (.string tu) := (World.cell?_of_block (w := W) (w' := W.setCell ⟨w2.heap.size, 2, none⟩ (.int .i64 (symIx tu))) (Below.heap_setCell _ _ _ _ (show w1.heap.size ≠ w2.heap.size by omega))).trans q1
 have q2 := blk_cell H66.out 2
 have qf2 := blk_frozen H66.out 2
 have HC7 := Aside0.mk (show Kd.C Kd.string W.drew (some ⟨w4.heap.size, 0, none⟩) symB.length symB from HC6.out)
 go_region_held3 (fun w' => w'.cell? ⟨w1.heap.size, 3, none⟩ = some (.string tu) ∧ (w' = W.drew ∨ w' = (W.setCell ⟨w2.heap.size, 2, none⟩ (.int .i64 (symIx tu))).drew))
  (first | (exact ⟨q1d, .inl rfl⟩) | (exact ⟨q1s, .inr rfl⟩) | (exact ⟨by assumption, .inl rfl⟩) | go_keep)
  (first
   | (go_at_call 89; refine (index_str symB (some ⟨w4.heap.size, 0, none⟩) 7 tu _ HC7.out).mono ?_; rintro e w' ⟨rfl, rfl⟩; rw [symB_ix]))
 rename_i hH
 clear hH q1 q1d q1s q2 qf2 HC7 HC6
 have HO7 := Aside0.mk ((HO6.out.put ⟨w2.heap.size, 2, none⟩ (by show w.heap.size < w2.heap.size; omega) (.int .i64 (symIx tu))).below (below_drew (Below.refl _ _)))
 have HT7 := Aside0.mk (blk_drew_old (blk_set_other HT6.out (p := ⟨w2.heap.size, 2, none⟩) (show w1.heap.size ≠ w2.heap.size by omega) (.int .i64 (symIx tu))))
 have H67 := Aside0.mk (blk_drew_old (blk_put H66.out 2 (.int .i64 (symIx tu)) rfl))
 obtain ⟨W7, hW7⟩ : ∃ W7, (W.setCell ⟨w2.heap.size, 2, none⟩ (.int .i64 (symIx tu))).drew = W7 := ⟨_, rfl⟩
 rw [hW7] at HO7 HT7 H67 ⊢
 clear hW7 HO6 HT6 H66
 obtain ⟨cm, hcm⟩ : ∃ cm, symIx tu = cm := ⟨_, rfl⟩
 have H32 := Aside0.mk (show s3 = if ku ≠ 4 ∨ cm < 1 then failP 5 au s2 else s2 by rw [← hcm]; exact H3.out)
 have H62 := Aside0.mk (show s6 = if 1000000 < nv then failP 10 av (if kv ≠ 2 then failP 5 av s4 else s4) else (if kv ≠ 2 then failP 5 av s4 else s4) from H6.out)
 rw [hcm] at H67 ⊢
 have HCM := Aside0.mk hcm
 clear hcm H3 H6
 have hn1 : w1.heap.size ≠ w2.heap.size := by omega
 have hn2 : w2.heap.size ≠ w1.heap.size := by omega
 have hn3 : w.heap.size ≠ w1.heap.size := by omega
 have hn4 : w1.heap.size ≠ w.heap.size := by omega
 have hn5 : w.heap.size ≠ w2.heap.size := by omega
 have hn6 : w2.heap.size ≠ w.heap.size := by omega
 have ht0 := blk_cell HT7.out 0
 have ht1 := blk_cell HT7.out 1
 have hk2 := blk_cell H67.out 2
 rcases (show ku ≠ 4 ∨ (ku = 4 ∧ cm < 1) ∨ (ku = 4 ∧ ¬ cm < 1) by omega) with g1 | ⟨g1, g2⟩ | ⟨g1, g2⟩
 ·have e1 : (ku != 4) = true := by simpa using g1
  have H3X := Aside0.mk (H32.out.trans (if_pos (.inl g1)))
  clear g1
  go_wp2_with fail
  refine (fail_calls b n s2 5 au _ HO7.out.par).mono ?_
  rintro e w8 ⟨rfl, hI, hS⟩
  have HT8 := Aside0.mk ((hS.block w1.heap.size (lt_of_block HT7.out) (by unfold OnlyP; omega)).trans HT7.out)
  have H68 := Aside0.mk ((hS.block w2.heap.size (lt_of_block H67.out) (by unfold OnlyP; omega)).trans H67.out)
  have h8 := HO7.out.step hI hS
  rw [← H3X.out] at h8
  have HO8 := Aside0.mk h8
  clear hI hS h8 ht0 ht1 hk2
  go_wp2_with fail
  refine (take_calls b n s3 _ HO8.out.par).mono ?_
  rintro e w9 ⟨rfl, hI, hS⟩
  rw [HV.out] at hI ⊢
  have HT9 := Aside0.mk ((hS.block w1.heap.size (lt_of_block HT8.out) (by unfold OnlyP; omega)).trans HT8.out)
  have H69 := Aside0.mk ((hS.block w2.heap.size (lt_of_block H68.out) (by unfold OnlyP; omega)).trans H68.out)
  have HO9 := Aside0.mk (HO8.out.step hI hS)
  clear hI hS HO8 HT8 H68 HO7 HT7 H67
  have ht0 := blk_cell HT9.out 0
  have hu0 := blk_frozen HT9.out 0
  have ht1 := blk_cell HT9.out 1
  have hu1 := blk_frozen HT9.out 1
  have ht2 := blk_cell HT9.out 2
  have hu2 := blk_frozen HT9.out 2
  have ht3 := blk_cell HT9.out 3
  have hu3 := blk_frozen HT9.out 3
  have hk0 := blk_cell H69.out 0
  have hl0 := blk_frozen H69.out 0
  have hk1 := blk_cell H69.out 1
  have hl1 := blk_frozen H69.out 1
  have hk2 := blk_cell H69.out 2
  have hl2 := blk_frozen H69.out 2
  have hk3 := blk_cell H69.out 3
  have hl3 := blk_frozen H69.out 3
  have hk4 := blk_cell H69.out 4
  have hl4 := blk_frozen H69.out 4
  have hf0 := blk_cell HO9.out.res 0
  have hg0 := blk_frozen HO9.out.res 0
  have hf1 := blk_cell HO9.out.res 1
  have hg1 := blk_frozen HO9.out.res 1
  have hf2 := blk_cell HO9.out.res 2
  have hg2 := blk_frozen HO9.out.res 2
  have hf3 := blk_cell HO9.out.res 3
  have hg3 := blk_frozen HO9.out.res 3
  have hf4 := blk_cell HO9.out.res 4
  have hg4 := blk_frozen HO9.out.res 4
  have HOa := Aside0.mk (HO9.out.put4 (g := w1.heap.size) (by omega) (.int .i64 kv) (.int .i64 av) (.int .i64 nv) (.string tv))
  have HTa := Aside0.mk (put4 HT9.out (.int .i64 kv) (.int .i64 av) (.int .i64 nv) (.string tv))
  have H6a := Aside0.mk ((put4_other w9 w1.heap.size (.int .i64 kv) (.int .i64 av) (.int .i64 nv) (.string tv) hn2).trans H69.out)
  by_cases g3 : kv = 2
  ·have e3 : (kv != 2) = false := by simp [g3]
   have h62 := H62.out
   rw [if_neg (show ¬ kv ≠ 2 from fun h => h g3)] at h62
   have H63 := Aside0.mk h62
   clear g3 h62
   have HTb := HTa
   have H6b := H6a
   have HOb := HOa
   by_cases g4 : 1000000 < nv
   ·have H64 := Aside0.mk (H63.out.trans (if_pos g4))
    go_wp2_with fail
    refine (fail_calls b n _ 10 av _ HOb.out.par).mono ?_
    rintro e w11 ⟨rfl, hI, hS⟩
    have HTc := Aside0.mk ((hS.block w1.heap.size (lt_of_block HTb.out) (by unfold OnlyP; omega)).trans HTb.out)
    have H6c := Aside0.mk ((hS.block w2.heap.size (lt_of_block H6b.out) (by unfold OnlyP; omega)).trans H6b.out)
    have HOc := Aside0.mk (HOb.out.step hI hS)
    clear hI hS ht0 ht1 ht2 ht3 hu0 hu1 hu2 hu3 hk0 hk1 hk2 hk3 hk4 hl0 hl1 hl2 hl3 hl4 hf0 hf1 hf2 hf3 hf4 hg0 hg1 hg2 hg3 hg4
    have ht0 := blk_cell HTc.out 0
    have hu0 := blk_frozen HTc.out 0
    have ht1 := blk_cell HTc.out 1
    have hu1 := blk_frozen HTc.out 1
    have ht2 := blk_cell HTc.out 2
    have hu2 := blk_frozen HTc.out 2
    have ht3 := blk_cell HTc.out 3
    have hu3 := blk_frozen HTc.out 3
    have hk0 := blk_cell H6c.out 0
    have hl0 := blk_frozen H6c.out 0
    have hk1 := blk_cell H6c.out 1
    have hl1 := blk_frozen H6c.out 1
    have hk2 := blk_cell H6c.out 2
    have hl2 := blk_frozen H6c.out 2
    have hk3 := blk_cell H6c.out 3
    have hl3 := blk_frozen H6c.out 3
    have hk4 := blk_cell H6c.out 4
    have hl4 := blk_frozen H6c.out 4
    have hf0 := blk_cell HOc.out.res 0
    have hg0 := blk_frozen HOc.out.res 0
    have hf1 := blk_cell HOc.out.res 1
    have hg1 := blk_frozen HOc.out.res 1
    have hf2 := blk_cell HOc.out.res 2
    have hg2 := blk_frozen HOc.out.res 2
    have hf3 := blk_cell HOc.out.res 3
    have hg3 := blk_frozen HOc.out.res 3
    have hf4 := blk_cell HOc.out.res 4
    have hg4 := blk_frozen HOc.out.res 4
    have HOd := Aside0.mk (HOc.out.put ⟨w2.heap.size, 3, none⟩ (by show w.heap.size < w2.heap.size; omega) (.int .i64 nv))
    go_wp2
    refine bodyPost_ret (results_cell_row rfl _ _ w.heap.size 24 #[.int .i64 3, .string tx, .int .i64 cm, .int .i64 nv, .slice none 0 0] (0, 0) _ rfl (HOd.out.done ⟨3, tx, cm, nv, []⟩ none 0 (Kd.R_nil _ _ _ _ _)).1 Tryz.underlying24 rfl (by kernel_rfl)) rfl ?_
    rw [H64.out, HCM.out]
    exact (HOd.out.done ⟨3, tx, cm, nv, []⟩ none 0 (Kd.R_nil _ _ _ _ _)).2
   ·have H64 := Aside0.mk (H63.out.trans (if_neg g4))
    have HOd := Aside0.mk (HOb.out.put ⟨w2.heap.size, 3, none⟩ (by show w.heap.size < w2.heap.size; omega) (.int .i64 nv))
    go_wp2
    refine bodyPost_ret (results_cell_row rfl _ _ w.heap.size 24 #[.int .i64 3, .string tx, .int .i64 cm, .int .i64 nv, .slice none 0 0] (0, 0) _ rfl (HOd.out.done ⟨3, tx, cm, nv, []⟩ none 0 (Kd.R_nil _ _ _ _ _)).1 Tryz.underlying24 rfl (by kernel_rfl)) rfl ?_
    rw [H64.out, HCM.out]
    exact (HOd.out.done ⟨3, tx, cm, nv, []⟩ none 0 (Kd.R_nil _ _ _ _ _)).2
  ·have e3 : (kv != 2) = true := by simpa using g3
   have h62 := H62.out
   rw [if_pos (show kv ≠ 2 from g3)] at h62
   have H63 := Aside0.mk h62
   clear g3 h62
   go_wp2_with fail
   refine (fail_calls b n s4 5 av _ HOa.out.par).mono ?_
   rintro e w10 ⟨rfl, hI, hS⟩
   have HTb := Aside0.mk ((hS.block w1.heap.size (lt_of_block HTa.out) (by unfold OnlyP; omega)).trans HTa.out)
   have H6b := Aside0.mk ((hS.block w2.heap.size (lt_of_block H6a.out) (by unfold OnlyP; omega)).trans H6a.out)
   have HOb := Aside0.mk (HOa.out.step hI hS)
   clear hI hS HOa HTa H6a HT9 H69 HO9 ht0 ht1 ht2 ht3 hu0 hu1 hu2 hu3 hk0 hk1 hk2 hk3 hk4 hl0 hl1 hl2 hl3 hl4 hf0 hf1 hf2 hf3 hf4 hg0 hg1 hg2 hg3 hg4
   have ht0 := blk_cell HTb.out 0
   have hu0 := blk_frozen HTb.out 0
   have ht1 := blk_cell HTb.out 1
   have hu1 := blk_frozen HTb.out 1
   have ht2 := blk_cell HTb.out 2
   have hu2 := blk_frozen HTb.out 2
   have ht3 := blk_cell HTb.out 3
   have hu3 := blk_frozen HTb.out 3
   have hk0 := blk_cell H6b.out 0
   have hl0 := blk_frozen H6b.out 0
   have hk1 := blk_cell H6b.out 1
   have hl1 := blk_frozen H6b.out 1
   have hk2 := blk_cell H6b.out 2
   have hl2 := blk_frozen H6b.out 2
   have hk3 := blk_cell H6b.out 3
   have hl3 := blk_frozen H6b.out 3
   have hk4 := blk_cell H6b.out 4
   have hl4 := blk_frozen H6b.out 4
   have hf0 := blk_cell HOb.out.res 0
   have hg0 := blk_frozen HOb.out.res 0
   have hf1 := blk_cell HOb.out.res 1
   have hg1 := blk_frozen HOb.out.res 1
   have hf2 := blk_cell HOb.out.res 2
   have hg2 := blk_frozen HOb.out.res 2
   have hf3 := blk_cell HOb.out.res 3
   have hg3 := blk_frozen HOb.out.res 3
   have hf4 := blk_cell HOb.out.res 4
   have hg4 := blk_frozen HOb.out.res 4
   by_cases g4 : 1000000 < nv
   ·have H64 := Aside0.mk (H63.out.trans (if_pos g4))
    go_wp2_with fail
    refine (fail_calls b n _ 10 av _ HOb.out.par).mono ?_
    rintro e w11 ⟨rfl, hI, hS⟩
    have HTc := Aside0.mk ((hS.block w1.heap.size (lt_of_block HTb.out) (by unfold OnlyP; omega)).trans HTb.out)
    have H6c := Aside0.mk ((hS.block w2.heap.size (lt_of_block H6b.out) (by unfold OnlyP; omega)).trans H6b.out)
    have HOc := Aside0.mk (HOb.out.step hI hS)
    clear hI hS ht0 ht1 ht2 ht3 hu0 hu1 hu2 hu3 hk0 hk1 hk2 hk3 hk4 hl0 hl1 hl2 hl3 hl4 hf0 hf1 hf2 hf3 hf4 hg0 hg1 hg2 hg3 hg4
    have ht0 := blk_cell HTc.out 0
    have hu0 := blk_frozen HTc.out 0
    have ht1 := blk_cell HTc.out 1
    have hu1 := blk_frozen HTc.out 1
    have ht2 := blk_cell HTc.out 2
    have hu2 := blk_frozen HTc.out 2
    have ht3 := blk_cell HTc.out 3
    have hu3 := blk_frozen HTc.out 3
    have hk0 := blk_cell H6c.out 0
    have hl0 := blk_frozen H6c.out 0
    have hk1 := blk_cell H6c.out 1
    have hl1 := blk_frozen H6c.out 1
    have hk2 := blk_cell H6c.out 2
    have hl2 := blk_frozen H6c.out 2
    have hk3 := blk_cell H6c.out 3
    have hl3 := blk_frozen H6c.out 3
    have hk4 := blk_cell H6c.out 4
    have hl4 := blk_frozen H6c.out 4
    have hf0 := blk_cell HOc.out.res 0
    have hg0 := blk_frozen HOc.out.res 0
    have hf1 := blk_cell HOc.out.res 1
    have hg1 := blk_frozen HOc.out.res 1
    have hf2 := blk_cell HOc.out.res 2
    have hg2 := blk_frozen HOc.out.res 2
    have hf3 := blk_cell HOc.out.res 3
    have hg3 := blk_frozen HOc.out.res 3
    have hf4 := blk_cell HOc.out.res 4
    have hg4 := blk_frozen HOc.out.res 4
    have HOd := Aside0.mk (HOc.out.put ⟨w2.heap.size, 3, none⟩ (by show w.heap.size < w2.heap.size; omega) (.int .i64 nv))
    go_wp2
    refine bodyPost_ret (results_cell_row rfl _ _ w.heap.size 24 #[.int .i64 3, .string tx, .int .i64 cm, .int .i64 nv, .slice none 0 0] (0, 0) _ rfl (HOd.out.done ⟨3, tx, cm, nv, []⟩ none 0 (Kd.R_nil _ _ _ _ _)).1 Tryz.underlying24 rfl (by kernel_rfl)) rfl ?_
    rw [H64.out, HCM.out]
    exact (HOd.out.done ⟨3, tx, cm, nv, []⟩ none 0 (Kd.R_nil _ _ _ _ _)).2
   ·have H64 := Aside0.mk (H63.out.trans (if_neg g4))
    have HOd := Aside0.mk (HOb.out.put ⟨w2.heap.size, 3, none⟩ (by show w.heap.size < w2.heap.size; omega) (.int .i64 nv))
    go_wp2
    refine bodyPost_ret (results_cell_row rfl _ _ w.heap.size 24 #[.int .i64 3, .string tx, .int .i64 cm, .int .i64 nv, .slice none 0 0] (0, 0) _ rfl (HOd.out.done ⟨3, tx, cm, nv, []⟩ none 0 (Kd.R_nil _ _ _ _ _)).1 Tryz.underlying24 rfl (by kernel_rfl)) rfl ?_
    rw [H64.out, HCM.out]
    exact (HOd.out.done ⟨3, tx, cm, nv, []⟩ none 0 (Kd.R_nil _ _ _ _ _)).2
 ·have e1 : (ku != 4) = false := by simp [g1]
  have e2 : (cm < 1) := g2
  have H3X := Aside0.mk (H32.out.trans (if_pos (.inr g2)))
  clear g1 g2
  go_wp2_with fail
  refine (fail_calls b n s2 5 au _ HO7.out.par).mono ?_
  rintro e w8 ⟨rfl, hI, hS⟩
  have HT8 := Aside0.mk ((hS.block w1.heap.size (lt_of_block HT7.out) (by unfold OnlyP; omega)).trans HT7.out)
  have H68 := Aside0.mk ((hS.block w2.heap.size (lt_of_block H67.out) (by unfold OnlyP; omega)).trans H67.out)
  have h8 := HO7.out.step hI hS
  rw [← H3X.out] at h8
  have HO8 := Aside0.mk h8
  clear hI hS h8 ht0 ht1 hk2
  go_wp2_with fail
  refine (take_calls b n s3 _ HO8.out.par).mono ?_
  rintro e w9 ⟨rfl, hI, hS⟩
  rw [HV.out] at hI ⊢
  have HT9 := Aside0.mk ((hS.block w1.heap.size (lt_of_block HT8.out) (by unfold OnlyP; omega)).trans HT8.out)
  have H69 := Aside0.mk ((hS.block w2.heap.size (lt_of_block H68.out) (by unfold OnlyP; omega)).trans H68.out)
  have HO9 := Aside0.mk (HO8.out.step hI hS)
  clear hI hS HO8 HT8 H68 HO7 HT7 H67
  have ht0 := blk_cell HT9.out 0
  have hu0 := blk_frozen HT9.out 0
  have ht1 := blk_cell HT9.out 1
  have hu1 := blk_frozen HT9.out 1
  have ht2 := blk_cell HT9.out 2
  have hu2 := blk_frozen HT9.out 2
  have ht3 := blk_cell HT9.out 3
  have hu3 := blk_frozen HT9.out 3
  have hk0 := blk_cell H69.out 0
  have hl0 := blk_frozen H69.out 0
  have hk1 := blk_cell H69.out 1
  have hl1 := blk_frozen H69.out 1
  have hk2 := blk_cell H69.out 2
  have hl2 := blk_frozen H69.out 2
  have hk3 := blk_cell H69.out 3
  have hl3 := blk_frozen H69.out 3
  have hk4 := blk_cell H69.out 4
  have hl4 := blk_frozen H69.out 4
  have hf0 := blk_cell HO9.out.res 0
  have hg0 := blk_frozen HO9.out.res 0
  have hf1 := blk_cell HO9.out.res 1
  have hg1 := blk_frozen HO9.out.res 1
  have hf2 := blk_cell HO9.out.res 2
  have hg2 := blk_frozen HO9.out.res 2
  have hf3 := blk_cell HO9.out.res 3
  have hg3 := blk_frozen HO9.out.res 3
  have hf4 := blk_cell HO9.out.res 4
  have hg4 := blk_frozen HO9.out.res 4
  have HOa := Aside0.mk (HO9.out.put4 (g := w1.heap.size) (by omega) (.int .i64 kv) (.int .i64 av) (.int .i64 nv) (.string tv))
  have HTa := Aside0.mk (put4 HT9.out (.int .i64 kv) (.int .i64 av) (.int .i64 nv) (.string tv))
  have H6a := Aside0.mk ((put4_other w9 w1.heap.size (.int .i64 kv) (.int .i64 av) (.int .i64 nv) (.string tv) hn2).trans H69.out)
  by_cases g3 : kv = 2
  ·have e3 : (kv != 2) = false := by simp [g3]
   have h62 := H62.out
   rw [if_neg (show ¬ kv ≠ 2 from fun h => h g3)] at h62
   have H63 := Aside0.mk h62
   clear g3 h62
   have HTb := HTa
   have H6b := H6a
   have HOb := HOa
   by_cases g4 : 1000000 < nv
   ·have H64 := Aside0.mk (H63.out.trans (if_pos g4))
    go_wp2_with fail
    refine (fail_calls b n _ 10 av _ HOb.out.par).mono ?_
    rintro e w11 ⟨rfl, hI, hS⟩
    have HTc := Aside0.mk ((hS.block w1.heap.size (lt_of_block HTb.out) (by unfold OnlyP; omega)).trans HTb.out)
    have H6c := Aside0.mk ((hS.block w2.heap.size (lt_of_block H6b.out) (by unfold OnlyP; omega)).trans H6b.out)
    have HOc := Aside0.mk (HOb.out.step hI hS)
    clear hI hS ht0 ht1 ht2 ht3 hu0 hu1 hu2 hu3 hk0 hk1 hk2 hk3 hk4 hl0 hl1 hl2 hl3 hl4 hf0 hf1 hf2 hf3 hf4 hg0 hg1 hg2 hg3 hg4
    have ht0 := blk_cell HTc.out 0
    have hu0 := blk_frozen HTc.out 0
    have ht1 := blk_cell HTc.out 1
    have hu1 := blk_frozen HTc.out 1
    have ht2 := blk_cell HTc.out 2
    have hu2 := blk_frozen HTc.out 2
    have ht3 := blk_cell HTc.out 3
    have hu3 := blk_frozen HTc.out 3
    have hk0 := blk_cell H6c.out 0
    have hl0 := blk_frozen H6c.out 0
    have hk1 := blk_cell H6c.out 1
    have hl1 := blk_frozen H6c.out 1
    have hk2 := blk_cell H6c.out 2
    have hl2 := blk_frozen H6c.out 2
    have hk3 := blk_cell H6c.out 3
    have hl3 := blk_frozen H6c.out 3
    have hk4 := blk_cell H6c.out 4
    have hl4 := blk_frozen H6c.out 4
    have hf0 := blk_cell HOc.out.res 0
    have hg0 := blk_frozen HOc.out.res 0
    have hf1 := blk_cell HOc.out.res 1
    have hg1 := blk_frozen HOc.out.res 1
    have hf2 := blk_cell HOc.out.res 2
    have hg2 := blk_frozen HOc.out.res 2
    have hf3 := blk_cell HOc.out.res 3
    have hg3 := blk_frozen HOc.out.res 3
    have hf4 := blk_cell HOc.out.res 4
    have hg4 := blk_frozen HOc.out.res 4
    have HOd := Aside0.mk (HOc.out.put ⟨w2.heap.size, 3, none⟩ (by show w.heap.size < w2.heap.size; omega) (.int .i64 nv))
    go_wp2
    refine bodyPost_ret (results_cell_row rfl _ _ w.heap.size 24 #[.int .i64 3, .string tx, .int .i64 cm, .int .i64 nv, .slice none 0 0] (0, 0) _ rfl (HOd.out.done ⟨3, tx, cm, nv, []⟩ none 0 (Kd.R_nil _ _ _ _ _)).1 Tryz.underlying24 rfl (by kernel_rfl)) rfl ?_
    rw [H64.out, HCM.out]
    exact (HOd.out.done ⟨3, tx, cm, nv, []⟩ none 0 (Kd.R_nil _ _ _ _ _)).2
   ·have H64 := Aside0.mk (H63.out.trans (if_neg g4))
    have HOd := Aside0.mk (HOb.out.put ⟨w2.heap.size, 3, none⟩ (by show w.heap.size < w2.heap.size; omega) (.int .i64 nv))
    go_wp2
    refine bodyPost_ret (results_cell_row rfl _ _ w.heap.size 24 #[.int .i64 3, .string tx, .int .i64 cm, .int .i64 nv, .slice none 0 0] (0, 0) _ rfl (HOd.out.done ⟨3, tx, cm, nv, []⟩ none 0 (Kd.R_nil _ _ _ _ _)).1 Tryz.underlying24 rfl (by kernel_rfl)) rfl ?_
    rw [H64.out, HCM.out]
    exact (HOd.out.done ⟨3, tx, cm, nv, []⟩ none 0 (Kd.R_nil _ _ _ _ _)).2
  ·have e3 : (kv != 2) = true := by simpa using g3
   have h62 := H62.out
   rw [if_pos (show kv ≠ 2 from g3)] at h62
   have H63 := Aside0.mk h62
   clear g3 h62
   go_wp2_with fail
   refine (fail_calls b n s4 5 av _ HOa.out.par).mono ?_
   rintro e w10 ⟨rfl, hI, hS⟩
   have HTb := Aside0.mk ((hS.block w1.heap.size (lt_of_block HTa.out) (by unfold OnlyP; omega)).trans HTa.out)
   have H6b := Aside0.mk ((hS.block w2.heap.size (lt_of_block H6a.out) (by unfold OnlyP; omega)).trans H6a.out)
   have HOb := Aside0.mk (HOa.out.step hI hS)
   clear hI hS HOa HTa H6a HT9 H69 HO9 ht0 ht1 ht2 ht3 hu0 hu1 hu2 hu3 hk0 hk1 hk2 hk3 hk4 hl0 hl1 hl2 hl3 hl4 hf0 hf1 hf2 hf3 hf4 hg0 hg1 hg2 hg3 hg4
   have ht0 := blk_cell HTb.out 0
   have hu0 := blk_frozen HTb.out 0
   have ht1 := blk_cell HTb.out 1
   have hu1 := blk_frozen HTb.out 1
   have ht2 := blk_cell HTb.out 2
   have hu2 := blk_frozen HTb.out 2
   have ht3 := blk_cell HTb.out 3
   have hu3 := blk_frozen HTb.out 3
   have hk0 := blk_cell H6b.out 0
   have hl0 := blk_frozen H6b.out 0
   have hk1 := blk_cell H6b.out 1
   have hl1 := blk_frozen H6b.out 1
   have hk2 := blk_cell H6b.out 2
   have hl2 := blk_frozen H6b.out 2
   have hk3 := blk_cell H6b.out 3
   have hl3 := blk_frozen H6b.out 3
   have hk4 := blk_cell H6b.out 4
   have hl4 := blk_frozen H6b.out 4
   have hf0 := blk_cell HOb.out.res 0
   have hg0 := blk_frozen HOb.out.res 0
   have hf1 := blk_cell HOb.out.res 1
   have hg1 := blk_frozen HOb.out.res 1
   have hf2 := blk_cell HOb.out.res 2
   have hg2 := blk_frozen HOb.out.res 2
   have hf3 := blk_cell HOb.out.res 3
   have hg3 := blk_frozen HOb.out.res 3
   have hf4 := blk_cell HOb.out.res 4
   have hg4 := blk_frozen HOb.out.res 4
   by_cases g4 : 1000000 < nv
   ·have H64 := Aside0.mk (H63.out.trans (if_pos g4))
    go_wp2_with fail
    refine (fail_calls b n _ 10 av _ HOb.out.par).mono ?_
    rintro e w11 ⟨rfl, hI, hS⟩
    have HTc := Aside0.mk ((hS.block w1.heap.size (lt_of_block HTb.out) (by unfold OnlyP; omega)).trans HTb.out)
    have H6c := Aside0.mk ((hS.block w2.heap.size (lt_of_block H6b.out) (by unfold OnlyP; omega)).trans H6b.out)
    have HOc := Aside0.mk (HOb.out.step hI hS)
    clear hI hS ht0 ht1 ht2 ht3 hu0 hu1 hu2 hu3 hk0 hk1 hk2 hk3 hk4 hl0 hl1 hl2 hl3 hl4 hf0 hf1 hf2 hf3 hf4 hg0 hg1 hg2 hg3 hg4
    have ht0 := blk_cell HTc.out 0
    have hu0 := blk_frozen HTc.out 0
    have ht1 := blk_cell HTc.out 1
    have hu1 := blk_frozen HTc.out 1
    have ht2 := blk_cell HTc.out 2
    have hu2 := blk_frozen HTc.out 2
    have ht3 := blk_cell HTc.out 3
    have hu3 := blk_frozen HTc.out 3
    have hk0 := blk_cell H6c.out 0
    have hl0 := blk_frozen H6c.out 0
    have hk1 := blk_cell H6c.out 1
    have hl1 := blk_frozen H6c.out 1
    have hk2 := blk_cell H6c.out 2
    have hl2 := blk_frozen H6c.out 2
    have hk3 := blk_cell H6c.out 3
    have hl3 := blk_frozen H6c.out 3
    have hk4 := blk_cell H6c.out 4
    have hl4 := blk_frozen H6c.out 4
    have hf0 := blk_cell HOc.out.res 0
    have hg0 := blk_frozen HOc.out.res 0
    have hf1 := blk_cell HOc.out.res 1
    have hg1 := blk_frozen HOc.out.res 1
    have hf2 := blk_cell HOc.out.res 2
    have hg2 := blk_frozen HOc.out.res 2
    have hf3 := blk_cell HOc.out.res 3
    have hg3 := blk_frozen HOc.out.res 3
    have hf4 := blk_cell HOc.out.res 4
    have hg4 := blk_frozen HOc.out.res 4
    have HOd := Aside0.mk (HOc.out.put ⟨w2.heap.size, 3, none⟩ (by show w.heap.size < w2.heap.size; omega) (.int .i64 nv))
    go_wp2
    refine bodyPost_ret (results_cell_row rfl _ _ w.heap.size 24 #[.int .i64 3, .string tx, .int .i64 cm, .int .i64 nv, .slice none 0 0] (0, 0) _ rfl (HOd.out.done ⟨3, tx, cm, nv, []⟩ none 0 (Kd.R_nil _ _ _ _ _)).1 Tryz.underlying24 rfl (by kernel_rfl)) rfl ?_
    rw [H64.out, HCM.out]
    exact (HOd.out.done ⟨3, tx, cm, nv, []⟩ none 0 (Kd.R_nil _ _ _ _ _)).2
   ·have H64 := Aside0.mk (H63.out.trans (if_neg g4))
    have HOd := Aside0.mk (HOb.out.put ⟨w2.heap.size, 3, none⟩ (by show w.heap.size < w2.heap.size; omega) (.int .i64 nv))
    go_wp2
    refine bodyPost_ret (results_cell_row rfl _ _ w.heap.size 24 #[.int .i64 3, .string tx, .int .i64 cm, .int .i64 nv, .slice none 0 0] (0, 0) _ rfl (HOd.out.done ⟨3, tx, cm, nv, []⟩ none 0 (Kd.R_nil _ _ _ _ _)).1 Tryz.underlying24 rfl (by kernel_rfl)) rfl ?_
    rw [H64.out, HCM.out]
    exact (HOd.out.done ⟨3, tx, cm, nv, []⟩ none 0 (Kd.R_nil _ _ _ _ _)).2
 ·have e1 : (ku != 4) = false := by simp [g1]
  have H3X := Aside0.mk (H32.out.trans (if_neg (fun h => h.elim (fun h => h g1) g2)))
  have e2 : ¬ (cm < 1) := g2
  clear g1 g2
  have HT8 := HT7
  have H68 := H67
  have h8 := HO7.out
  rw [← H3X.out] at h8
  have HO8 := Aside0.mk h8
  clear h8
  go_wp2_with fail
  refine (take_calls b n s3 _ HO8.out.par).mono ?_
  rintro e w9 ⟨rfl, hI, hS⟩
  rw [HV.out] at hI ⊢
  have HT9 := Aside0.mk ((hS.block w1.heap.size (lt_of_block HT8.out) (by unfold OnlyP; omega)).trans HT8.out)
  have H69 := Aside0.mk ((hS.block w2.heap.size (lt_of_block H68.out) (by unfold OnlyP; omega)).trans H68.out)
  have HO9 := Aside0.mk (HO8.out.step hI hS)
  clear hI hS HO8 HT8 H68 HO7 HT7 H67 ht0 ht1 hk2
  have ht0 := blk_cell HT9.out 0
  have hu0 := blk_frozen HT9.out 0
  have ht1 := blk_cell HT9.out 1
  have hu1 := blk_frozen HT9.out 1
  have ht2 := blk_cell HT9.out 2
  have hu2 := blk_frozen HT9.out 2
  have ht3 := blk_cell HT9.out 3
  have hu3 := blk_frozen HT9.out 3
  have hk0 := blk_cell H69.out 0
  have hl0 := blk_frozen H69.out 0
  have hk1 := blk_cell H69.out 1
  have hl1 := blk_frozen H69.out 1
  have hk2 := blk_cell H69.out 2
  have hl2 := blk_frozen H69.out 2
  have hk3 := blk_cell H69.out 3
  have hl3 := blk_frozen H69.out 3
  have hk4 := blk_cell H69.out 4
  have hl4 := blk_frozen H69.out 4
  have hf0 := blk_cell HO9.out.res 0
  have hg0 := blk_frozen HO9.out.res 0
  have hf1 := blk_cell HO9.out.res 1
  have hg1 := blk_frozen HO9.out.res 1
  have hf2 := blk_cell HO9.out.res 2
  have hg2 := blk_frozen HO9.out.res 2
  have hf3 := blk_cell HO9.out.res 3
  have hg3 := blk_frozen HO9.out.res 3
  have hf4 := blk_cell HO9.out.res 4
  have hg4 := blk_frozen HO9.out.res 4
  have HOa := Aside0.mk (HO9.out.put4 (g := w1.heap.size) (by omega) (.int .i64 kv) (.int .i64 av) (.int .i64 nv) (.string tv))
  have HTa := Aside0.mk (put4 HT9.out (.int .i64 kv) (.int .i64 av) (.int .i64 nv) (.string tv))
  have H6a := Aside0.mk ((put4_other w9 w1.heap.size (.int .i64 kv) (.int .i64 av) (.int .i64 nv) (.string tv) hn2).trans H69.out)
  by_cases g3 : kv = 2
  ·have e3 : (kv != 2) = false := by simp [g3]
   have h62 := H62.out
   rw [if_neg (show ¬ kv ≠ 2 from fun h => h g3)] at h62
   have H63 := Aside0.mk h62
   clear g3 h62
   have HTb := HTa
   have H6b := H6a
   have HOb := HOa
   by_cases g4 : 1000000 < nv
   ·have H64 := Aside0.mk (H63.out.trans (if_pos g4))
    go_wp2_with fail
    refine (fail_calls b n _ 10 av _ HOb.out.par).mono ?_
    rintro e w11 ⟨rfl, hI, hS⟩
    have HTc := Aside0.mk ((hS.block w1.heap.size (lt_of_block HTb.out) (by unfold OnlyP; omega)).trans HTb.out)
    have H6c := Aside0.mk ((hS.block w2.heap.size (lt_of_block H6b.out) (by unfold OnlyP; omega)).trans H6b.out)
    have HOc := Aside0.mk (HOb.out.step hI hS)
    clear hI hS ht0 ht1 ht2 ht3 hu0 hu1 hu2 hu3 hk0 hk1 hk2 hk3 hk4 hl0 hl1 hl2 hl3 hl4 hf0 hf1 hf2 hf3 hf4 hg0 hg1 hg2 hg3 hg4
    have ht0 := blk_cell HTc.out 0
    have hu0 := blk_frozen HTc.out 0
    have ht1 := blk_cell HTc.out 1
    have hu1 := blk_frozen HTc.out 1
    have ht2 := blk_cell HTc.out 2
    have hu2 := blk_frozen HTc.out 2
    have ht3 := blk_cell HTc.out 3
    have hu3 := blk_frozen HTc.out 3
    have hk0 := blk_cell H6c.out 0
    have hl0 := blk_frozen H6c.out 0
    have hk1 := blk_cell H6c.out 1
    have hl1 := blk_frozen H6c.out 1
    have hk2 := blk_cell H6c.out 2
    have hl2 := blk_frozen H6c.out 2
    have hk3 := blk_cell H6c.out 3
    have hl3 := blk_frozen H6c.out 3
    have hk4 := blk_cell H6c.out 4
    have hl4 := blk_frozen H6c.out 4
    have hf0 := blk_cell HOc.out.res 0
    have hg0 := blk_frozen HOc.out.res 0
    have hf1 := blk_cell HOc.out.res 1
    have hg1 := blk_frozen HOc.out.res 1
    have hf2 := blk_cell HOc.out.res 2
    have hg2 := blk_frozen HOc.out.res 2
    have hf3 := blk_cell HOc.out.res 3
    have hg3 := blk_frozen HOc.out.res 3
    have hf4 := blk_cell HOc.out.res 4
    have hg4 := blk_frozen HOc.out.res 4
    have HOd := Aside0.mk (HOc.out.put ⟨w2.heap.size, 3, none⟩ (by show w.heap.size < w2.heap.size; omega) (.int .i64 nv))
    go_wp2
    refine bodyPost_ret (results_cell_row rfl _ _ w.heap.size 24 #[.int .i64 3, .string tx, .int .i64 cm, .int .i64 nv, .slice none 0 0] (0, 0) _ rfl (HOd.out.done ⟨3, tx, cm, nv, []⟩ none 0 (Kd.R_nil _ _ _ _ _)).1 Tryz.underlying24 rfl (by kernel_rfl)) rfl ?_
    rw [H64.out, HCM.out]
    exact (HOd.out.done ⟨3, tx, cm, nv, []⟩ none 0 (Kd.R_nil _ _ _ _ _)).2
   ·have H64 := Aside0.mk (H63.out.trans (if_neg g4))
    have HOd := Aside0.mk (HOb.out.put ⟨w2.heap.size, 3, none⟩ (by show w.heap.size < w2.heap.size; omega) (.int .i64 nv))
    go_wp2
    refine bodyPost_ret (results_cell_row rfl _ _ w.heap.size 24 #[.int .i64 3, .string tx, .int .i64 cm, .int .i64 nv, .slice none 0 0] (0, 0) _ rfl (HOd.out.done ⟨3, tx, cm, nv, []⟩ none 0 (Kd.R_nil _ _ _ _ _)).1 Tryz.underlying24 rfl (by kernel_rfl)) rfl ?_
    rw [H64.out, HCM.out]
    exact (HOd.out.done ⟨3, tx, cm, nv, []⟩ none 0 (Kd.R_nil _ _ _ _ _)).2
  ·have e3 : (kv != 2) = true := by simpa using g3
   have h62 := H62.out
   rw [if_pos (show kv ≠ 2 from g3)] at h62
   have H63 := Aside0.mk h62
   clear g3 h62
   go_wp2_with fail
   refine (fail_calls b n s4 5 av _ HOa.out.par).mono ?_
   rintro e w10 ⟨rfl, hI, hS⟩
   have HTb := Aside0.mk ((hS.block w1.heap.size (lt_of_block HTa.out) (by unfold OnlyP; omega)).trans HTa.out)
   have H6b := Aside0.mk ((hS.block w2.heap.size (lt_of_block H6a.out) (by unfold OnlyP; omega)).trans H6a.out)
   have HOb := Aside0.mk (HOa.out.step hI hS)
   clear hI hS HOa HTa H6a HT9 H69 HO9 ht0 ht1 ht2 ht3 hu0 hu1 hu2 hu3 hk0 hk1 hk2 hk3 hk4 hl0 hl1 hl2 hl3 hl4 hf0 hf1 hf2 hf3 hf4 hg0 hg1 hg2 hg3 hg4
   have ht0 := blk_cell HTb.out 0
   have hu0 := blk_frozen HTb.out 0
   have ht1 := blk_cell HTb.out 1
   have hu1 := blk_frozen HTb.out 1
   have ht2 := blk_cell HTb.out 2
   have hu2 := blk_frozen HTb.out 2
   have ht3 := blk_cell HTb.out 3
   have hu3 := blk_frozen HTb.out 3
   have hk0 := blk_cell H6b.out 0
   have hl0 := blk_frozen H6b.out 0
   have hk1 := blk_cell H6b.out 1
   have hl1 := blk_frozen H6b.out 1
   have hk2 := blk_cell H6b.out 2
   have hl2 := blk_frozen H6b.out 2
   have hk3 := blk_cell H6b.out 3
   have hl3 := blk_frozen H6b.out 3
   have hk4 := blk_cell H6b.out 4
   have hl4 := blk_frozen H6b.out 4
   have hf0 := blk_cell HOb.out.res 0
   have hg0 := blk_frozen HOb.out.res 0
   have hf1 := blk_cell HOb.out.res 1
   have hg1 := blk_frozen HOb.out.res 1
   have hf2 := blk_cell HOb.out.res 2
   have hg2 := blk_frozen HOb.out.res 2
   have hf3 := blk_cell HOb.out.res 3
   have hg3 := blk_frozen HOb.out.res 3
   have hf4 := blk_cell HOb.out.res 4
   have hg4 := blk_frozen HOb.out.res 4
   by_cases g4 : 1000000 < nv
   ·have H64 := Aside0.mk (H63.out.trans (if_pos g4))
    go_wp2_with fail
    refine (fail_calls b n _ 10 av _ HOb.out.par).mono ?_
    rintro e w11 ⟨rfl, hI, hS⟩
    have HTc := Aside0.mk ((hS.block w1.heap.size (lt_of_block HTb.out) (by unfold OnlyP; omega)).trans HTb.out)
    have H6c := Aside0.mk ((hS.block w2.heap.size (lt_of_block H6b.out) (by unfold OnlyP; omega)).trans H6b.out)
    have HOc := Aside0.mk (HOb.out.step hI hS)
    clear hI hS ht0 ht1 ht2 ht3 hu0 hu1 hu2 hu3 hk0 hk1 hk2 hk3 hk4 hl0 hl1 hl2 hl3 hl4 hf0 hf1 hf2 hf3 hf4 hg0 hg1 hg2 hg3 hg4
    have ht0 := blk_cell HTc.out 0
    have hu0 := blk_frozen HTc.out 0
    have ht1 := blk_cell HTc.out 1
    have hu1 := blk_frozen HTc.out 1
    have ht2 := blk_cell HTc.out 2
    have hu2 := blk_frozen HTc.out 2
    have ht3 := blk_cell HTc.out 3
    have hu3 := blk_frozen HTc.out 3
    have hk0 := blk_cell H6c.out 0
    have hl0 := blk_frozen H6c.out 0
    have hk1 := blk_cell H6c.out 1
    have hl1 := blk_frozen H6c.out 1
    have hk2 := blk_cell H6c.out 2
    have hl2 := blk_frozen H6c.out 2
    have hk3 := blk_cell H6c.out 3
    have hl3 := blk_frozen H6c.out 3
    have hk4 := blk_cell H6c.out 4
    have hl4 := blk_frozen H6c.out 4
    have hf0 := blk_cell HOc.out.res 0
    have hg0 := blk_frozen HOc.out.res 0
    have hf1 := blk_cell HOc.out.res 1
    have hg1 := blk_frozen HOc.out.res 1
    have hf2 := blk_cell HOc.out.res 2
    have hg2 := blk_frozen HOc.out.res 2
    have hf3 := blk_cell HOc.out.res 3
    have hg3 := blk_frozen HOc.out.res 3
    have hf4 := blk_cell HOc.out.res 4
    have hg4 := blk_frozen HOc.out.res 4
    have HOd := Aside0.mk (HOc.out.put ⟨w2.heap.size, 3, none⟩ (by show w.heap.size < w2.heap.size; omega) (.int .i64 nv))
    go_wp2
    refine bodyPost_ret (results_cell_row rfl _ _ w.heap.size 24 #[.int .i64 3, .string tx, .int .i64 cm, .int .i64 nv, .slice none 0 0] (0, 0) _ rfl (HOd.out.done ⟨3, tx, cm, nv, []⟩ none 0 (Kd.R_nil _ _ _ _ _)).1 Tryz.underlying24 rfl (by kernel_rfl)) rfl ?_
    rw [H64.out, HCM.out]
    exact (HOd.out.done ⟨3, tx, cm, nv, []⟩ none 0 (Kd.R_nil _ _ _ _ _)).2
   ·have H64 := Aside0.mk (H63.out.trans (if_neg g4))
    have HOd := Aside0.mk (HOb.out.put ⟨w2.heap.size, 3, none⟩ (by show w.heap.size < w2.heap.size; omega) (.int .i64 nv))
    go_wp2
    refine bodyPost_ret (results_cell_row rfl _ _ w.heap.size 24 #[.int .i64 3, .string tx, .int .i64 cm, .int .i64 nv, .slice none 0 0] (0, 0) _ rfl (HOd.out.done ⟨3, tx, cm, nv, []⟩ none 0 (Kd.R_nil _ _ _ _ _)).1 Tryz.underlying24 rfl (by kernel_rfl)) rfl ?_
    rw [H64.out, HCM.out]
    exact (HOd.out.done ⟨3, tx, cm, nv, []⟩ none 0 (Kd.R_nil _ _ _ _ _)).2
end Go.Proofs.YtkgmempifggajaaGreatDoor.P
/- formula's (*parser).one, for every state; how large what it returns is. -/
namespace Go.Proofs.YtkgmempifggajaaGreatDoor.P
open Go.RowKit Go.Proofs.YtkgmempifggajaaGreatDoorW.PrintWords Go.Proofs.YtkgmempifggajaaGreatDoorW.PrintLast Go.Proofs.YtkgmempifggajaaGreatDoorW.PrintMore
set_option linter.unusedVariables false
set_option linter.unusedSimpArgs false
theorem failP_len (e a : Int) (s : PS) : (failP e a s).toks.length ≤ s.toks.length := by unfold failP; split <;> simp
theorem takeP_len (n : Int) (s : PS) : (takeP n s).2.toks.length ≤ s.toks.length := by
 unfold takeP
 split
 ·exact failP_len _ _ _
 ·rename_i t r h; simp [h]
theorem takeP_some {n : Int} {s : PS} {t : Tok} {s1 : PS} (h : takeP n s = (t, s1)) (h0 : t.f0 ≠ 0) : s1.toks.length + 1 = s.toks.length := by
 unfold takeP at h
 split at h
 ·injection h with h1 _
  subst h1
  exact absurd rfl h0
 ·rename_i t' r hq
  injection h with _ h2
  subst h2
  simp [hq]
def Small2 (part : PS → Fm × PS) : Prop := ∀ s, size (part s).1 + 2 * (part s).2.toks.length ≤ 2 * s.toks.length + 1
theorem small_shrinks {part : PS → Fm × PS} (h : Small2 part) : Shrinks part := fun s => by
 have h1 := h s
 have h2 := size_pos (part s).1
 omega
theorem listLoop_small {part : PS → Fm × PS} (hp : Small2 part) (word : ByteArray) (f : Nat) (acc : List Fm) (s : PS) :
  sizes (listLoop part word f acc s).1 + (listLoop part word f acc s).1.length + 2 * (listLoop part word f acc s).2.toks.length ≤ sizes acc + acc.length + 2 * s.toks.length := by
 induction f generalizing acc s with
 | zero => simp [listLoop]
 | succ f ih =>
  unfold listLoop
  split
  ·simp
  ·rename_i t r hq
   rw [hq]
   split
   ·have h1 := ih (acc ++ [(part ⟨r, s.err, s.at_⟩).1]) (part ⟨r, s.err, s.at_⟩).2
    have h2 := hp ⟨r, s.err, s.at_⟩
    rw [sizes_append] at h1
    simp only [sizes, List.length_append, List.length_cons, List.length_nil] at h1 h2 ⊢
    omega
   ·rw [hq]; simp
theorem listP_small {part : PS → Fm × PS} (hp : Small2 part) (op : Int) (word : ByteArray) : Small2 (listP part op word) := by
 intro s
 have h1 := listLoop_small hp word (part s).2.toks.length [(part s).1] (part s).2
 have h2 := hp s
 have h3 := listLoop_pos part word (part s).2.toks.length [(part s).1] (part s).2
 unfold listP
 obtain ⟨q, hq⟩ : ∃ q, listLoop part word (part s).2.toks.length [(part s).1] (part s).2 = q := ⟨_, rfl⟩
 rw [hq] at h1 h3 ⊢
 obtain ⟨ks, st⟩ := q
 simp only [sizes, List.length_cons, List.length_nil] at h1 h3 ⊢
 by_cases hl : ks.length = 1
 ·rw [if_pos hl]
  obtain ⟨x, rfl⟩ := List.length_eq_one_iff.1 hl
  simp only [sizes, List.length_cons, List.length_nil, List.headD_cons] at h1 ⊢
  omega
 ·rw [if_neg hl, size_eq]
  simp only
  omega
theorem testP_small (n : Int) (name : ByteArray) : Small2 (testP n name) := by
 intro s
 have h1 := takeP_len n s
 have h2 := failP_len 5 (takeP n s).1.f1 (takeP n s).2
 simp only [testP]
 obtain ⟨s3, h3⟩ : ∃ s3, (if (takeP n s).1.f0 ≠ 4 ∨ symIx (takeP n s).1.f3 < 1 then failP 5 (takeP n s).1.f1 (takeP n s).2 else (takeP n s).2) = s3 := ⟨_, rfl⟩
 have h4 : s3.toks.length ≤ s.toks.length := by rw [← h3]; split <;> omega
 rw [h3]
 have h5 := takeP_len n s3
 have h6 := failP_len 5 (takeP n s3).1.f1 (takeP n s3).2
 obtain ⟨s5, h7⟩ : ∃ s5, (if (takeP n s3).1.f0 ≠ 2 then failP 5 (takeP n s3).1.f1 (takeP n s3).2 else (takeP n s3).2) = s5 := ⟨_, rfl⟩
 have h8 : s5.toks.length ≤ s.toks.length := by rw [← h7]; split <;> omega
 rw [h7]
 have h9 := failP_len 10 (takeP n s3).1.f1 s5
 rw [size_eq]
 simp only [sizes]
 split <;> omega
theorem size_eFm (op : Int) (kids : List Fm) : size (eFm op kids) = 1 + sizes kids := by rw [size_eq]; rfl
theorem oneP_small (n : Int) (f : Nat) : Small2 (oneP n f) := by
 induction f with
 | zero => intro s; simp only [oneP]; show size z24 + _ ≤ _; rw [size_eq]; simp [z24, sizes]; omega
 | succ f ih =>
  intro s
  obtain ⟨⟨t, s1⟩, ht⟩ : ∃ q, takeP n s = q := ⟨_, rfl⟩
  have hl := takeP_len n s
  have hf := failP_len 5 t.f1 s1
  rw [ht] at hl
  simp only at hl
  simp only [oneP, ht]
  have hsm := takeP_some ht
  split
  ·rename_i h1
   have h2 := hsm (by rw [h1]; decide)
   split
   ·have := ih s1; simp only [size_eFm, sizes]; omega
   ·split
    ·simp only [size_eFm, sizes]; omega
    ·split
     ·simp only [size_eFm, sizes]; omega
     ·split
      ·simp only [size_eFm, sizes]; omega
      ·have := testP_small n t.f3 s1; omega
  ·split
   ·rename_i h1
    have h2 := hsm (by rw [h1.1]; decide)
    have h3 := (listP_small (listP_small ih 5 wAnd) 6 wOr) s1
    have h4 := takeP_len n (eitherP (oneP n f) s1).2
    have h5 := failP_len 5 (takeP n (eitherP (oneP n f) s1).2).1.f1 (takeP n (eitherP (oneP n f) s1).2).2
    simp only [closeP]
    unfold eitherP at h4 h5 ⊢
    split <;> omega
   ·simp only [size_eFm, sizes]; omega
theorem eitherP_small {part : PS → Fm × PS} (h : Small2 part) : Small2 (eitherP part) := listP_small (listP_small h 5 wAnd) 6 wOr
theorem one_all (L : Nat) : ∀ f, L < f → L ≤ 100000 → ∀ (b : Nat) (n : Int), At_one L b n (oneP n f) := by
 induction L with
 | zero =>
  intro f hf hL b n s w hs hI
  obtain ⟨f, rfl⟩ : ∃ g, f = g + 1 := ⟨f - 1, by omega⟩
  obtain ⟨⟨t, s1⟩, ht⟩ : ∃ q, takeP n s = q := ⟨_, rfl⟩
  have h0 : t.f0 = 0 := Decidable.byContradiction (fun h => by have := takeP_some ht h; omega)
  simp only [oneP, ht]
  rw [if_neg (by rw [h0]; decide), if_neg (by rw [h0]; exact fun h => absurd h.1 (by decide))]
  exact one_other b n s t s1 ht (by rw [h0]; decide) (by rw [h0]; decide) w hI
 | succ L ih =>
  intro f hf hL b n s w hs hI
  obtain ⟨f, rfl⟩ : ∃ g, f = g + 1 := ⟨f - 1, by omega⟩
  obtain ⟨⟨t, s1⟩, ht⟩ : ∃ q, takeP n s = q := ⟨_, rfl⟩
  have hsm := takeP_some ht
  have IH := ih f (by omega) (by omega) b n
  simp only [oneP, ht]
  by_cases h1 : t.f0 = 1
  ·have hl := hsm (by rw [h1]; decide)
   rw [if_pos h1]
   by_cases n1 : t.f3.toList = lNot
   ·rw [if_pos n1]
    exact one_not b n s t s1 ht h1 n1 (oneP n f) (fun w h => IH s1 w (by omega) h) w hI
   rw [if_neg n1]
   by_cases n2 : t.f3.toList = lTrue
   ·rw [if_pos n2]
    exact one_true b n s t s1 ht h1 n2 w hI
   rw [if_neg n2]
   by_cases n3 : t.f3.toList = lFalse
   ·rw [if_pos n3]
    exact one_false b n s t s1 ht h1 n3 w hI
   rw [if_neg n3]
   by_cases n0 : t.f3.toList = []
   ·rw [if_pos (.inl n0)]
    exact one_empty b n s t s1 ht h1 n0 w hI
   cases hk : isKey t.f3
   ·rw [if_neg (fun h => h.elim n0 (fun h => by cases h))]
    exact one_test b n s t s1 ht h1 n1 n2 n3 n0 hk (takeP n s1).1 _ (takeP n s1).2 _ _ _ rfl rfl rfl rfl w hI
   ·rw [if_pos (.inr rfl)]
    exact one_key b n s t s1 ht h1 n1 n2 n3 n0 hk w hI
  ·rw [if_neg h1]
   by_cases h4 : t.f0 = 4
   ·have hl := hsm (by rw [h4]; decide)
    by_cases h40 : t.f3.toList = [40]
    ·rw [if_pos ⟨h4, h40⟩]
     refine one_paren b n s t s1 ht h1 h4 h40 (eitherP (oneP n f)) (fun w h => ?_) w hI
     have hA := all_calls L (by omega) b n (oneP n f) IH (small_shrinks (oneP_small n f))
     exact either_calls L (by omega) b n (listP (oneP n f) 5 wAnd) hA (small_shrinks (listP_small (oneP_small n f) 5 wAnd)) s1 w (by omega) h
    ·rw [if_neg (fun h => h40 h.2)]
     exact one_sym b n s t s1 ht h1 h4 h40 w hI
   ·rw [if_neg (fun h => h4 h.1)]
    exact one_other b n s t s1 ht h1 h4 w hI
theorem either_all (L : Nat) (f : Nat) (hf : L < f) (hL : L ≤ 100000) (b : Nat) (n : Int) : At_either L b n (eitherP (oneP n f)) :=
 either_calls L hL b n (listP (oneP n f) 5 wAnd) (all_calls L hL b n (oneP n f) (one_all L f hf hL b n) (small_shrinks (oneP_small n f))) (small_shrinks (listP_small (oneP_small n f) 5 wAnd))
end Go.Proofs.YtkgmempifggajaaGreatDoor.P
/- The reference's reader: Token. -/
namespace Go.Proofs.YtkgmempifggajaaGreatDoor.P
open Go.RowKit Go.Proofs.YtkgmempifggajaaGreatDoorW.PrintWords Go.Proofs.YtkgmempifggajaaGreatDoorW.PrintLast Go.Proofs.YtkgmempifggajaaGreatDoorW.PrintMore
set_option linter.unusedVariables false
set_option linter.unusedSimpArgs false
variable {Z : RZ}
theorem cell_stay {w w1 : World} {a : Addr} {v : Value} (hk : w1.heap[a.block]? = w.heap[a.block]?) (h : w.cell? a = some v) : w1.cell? a = some v := (World.cell?_of_block (a := a) hk).trans h
set_option maxHeartbeats 4000000 in
set_option maxRecDepth 100000 in
theorem rtoken_some (b : Nat) (n : Int) (t : Tok) (r : List Tok) (err at_ : Int) (w : World) (h : IsR Z w b n ⟨t :: r, err, at_⟩) :
  Calls Tryz.prog 120 #[.pointer (some ⟨b, 0, none⟩)] w fun x w' => x = .returned (tokV t) ∧ IsR Z w' b n ⟨r, err, at_⟩ ∧ Same (OnlyP b) w w' := by
 have hlt := h.lt
 obtain ⟨L, A, c, I, hb, h2, h3, hF, hc, h6⟩ := h.blk
 have hm := Kd.F_max hF
 simp only at h3 hb
 obtain ⟨h0, hI, ht, hN, hNS⟩ := next_at hb h3 hF hc h6
 subst h0
 obtain ⟨ad, rfl, hok, k0, k1, k2, k3⟩ := tok_atF hF I hI
 rw [← ht] at k0 k1 k2 k3
 have HN := Aside0.mk hN
 have HNS := Aside0.mk hNS
 have hadb : ad.block < w.heap.size := by omega
 have hane : ad.block ≠ b := Nat.ne_of_lt hok
 have hbA := blk_alloc_old hb (.cells #[.int .i64 0, .int .i64 0, .int .i64 0, .string ⟨#[]⟩] 75)
 have hc0 := blk_cell hbA 0
 have hc1 := blk_cell hbA 1
 have hc3 := blk_cell hbA 3
 have hf1 := blk_frozen hbA 1
 have bI : decide ((L.length : Int) ≤ (I : Int)) = false := decide_eq_false (by omega)
 have hb2 : (w.setCell ⟨b, 1, none⟩ (.int .i64 ((I : Int) + 1))).heap[b]? = some (.cells #[.slice (some ad) L.length c, .int .i64 ((I : Int) + 1), .int .i64 n, .int .i64 0, .int .i64 at_] 78 (0, 0)) := blk_put hb 1 _ rfl
 have hbB := blk_alloc_old hb2 (.cells #[.int .i64 0, .int .i64 0, .int .i64 0, .string ⟨#[]⟩] 75)
 have hst : ((w.setCell ⟨b, 1, none⟩ (.int .i64 ((I : Int) + 1))).alloc (.cells #[.int .i64 0, .int .i64 0, .int .i64 0, .string ⟨#[]⟩] 75)).drew.heap[ad.block]? = w.heap[ad.block]? :=
  (Below.heap_alloc _ _ ad.block (by simp [World.setCell]; omega)).trans (Below.heap_setCell _ _ _ _ hane)
 have hst2 : ∀ (a : Addr) (v : Value), a.block = ad.block → w.cell? a = some v → ((w.setCell ⟨b, 1, none⟩ (.int .i64 ((I : Int) + 1))).alloc (.cells #[.int .i64 0, .int .i64 0, .int .i64 0, .string ⟨#[]⟩] 75)).drew.cell? a = some v := fun a v ha h => cell_stay (by rw [ha]; exact hst) h
 have hab : (ad.add (I * 4)).block = ad.block := by unfold Addr.add; split <;> rfl
 have HAB := Aside0.mk (show (ad.add (I * 4)).block ≠ w.heap.size by rw [hab]; omega)
 have j0 := hst2 (ad.add (I * 4)) _ hab k0
 have j1 := hst2 ⟨(ad.add (I * 4)).block, (ad.add (I * 4)).off + 1, none⟩ _ hab k1
 have j2 := hst2 ⟨(ad.add (I * 4)).block, (ad.add (I * 4)).off + 2, none⟩ _ hab k2
 have j3 := hst2 ⟨(ad.add (I * 4)).block, (ad.add (I * 4)).off + 3, none⟩ _ hab k3
 have HK := Aside0.mk (And.intro j0 (And.intro j1 (And.intro j2 j3)))
 have HB := Aside0.mk hbB
 have HRES := Aside0.mk (blk_new (w.setCell ⟨b, 1, none⟩ (.int .i64 ((I : Int) + 1))) (.cells #[.int .i64 0, .int .i64 0, .int .i64 0, .string ⟨#[]⟩] 75) (n := w.heap.size) (by simp [World.setCell]))
 clear ht hb2 hbB hN hNS h3 hb hF h6 h k0 k1 k2 k3 hst hst2 hab j0 j1 j2 j3
 go_enter Tryz.func120, Tryz.ntmps120
 go_wp2_with fail
 first | (go_region_held3 (fun w' => w'.cell? ⟨b, 0, none⟩ = some (.slice (some ad) L.length c) ∧ w'.cell? ⟨b, 1, none⟩ = some (.int .i64 (I : Int))) (first | (exact ⟨hc0, hc1⟩) | (with_reducible assumption)) (fail)) | fail
 go_wp2_with fail
 clear hc0 hc1 hc3 hf1
 have c0 := blk_cell (blk_drew_old HB.out) 0
 have c1 := blk_cell (blk_drew_old HB.out) 1
 have r0 := blk_cell (blk_drew_old HRES.out) 0
 have r1 := blk_cell (blk_drew_old HRES.out) 1
 have r2 := blk_cell (blk_drew_old HRES.out) 2
 have r3 := blk_cell (blk_drew_old HRES.out) 3
 have f0 := blk_frozen (blk_drew_old HRES.out) 0
 have f1 := blk_frozen (blk_drew_old HRES.out) 1
 have f2 := blk_frozen (blk_drew_old HRES.out) 2
 have f3 := blk_frozen (blk_drew_old HRES.out) 3
 obtain ⟨k0, k1, k2, k3⟩ := HK.out
 clear HK
 obtain ⟨W1, hW1⟩ : ∃ W, ((w.setCell ⟨b, 1, none⟩ (.int .i64 ((I : Int) + 1))).alloc (.cells #[.int .i64 0, .int .i64 0, .int .i64 0, .string ⟨#[]⟩] 75)).drew = W := ⟨_, rfl⟩
 rw [hW1] at c0 c1 r0 r1 r2 r3 f0 f1 f2 f3 k0 k1 k2 k3 ⊢
 have HW := Aside0.mk hW1
 clear hW1
 have i1 : (0 : Int) ≤ (I : Int) := by omega
 have i3 : IntKind.i64.wrap (I : Int) = (I : Int) := by rw [IntKind.wrap_i64]; omega
 have i4 : IntKind.i64.wrap ((I : Int) + 1 - 1) = (I : Int) := by rw [Int.add_sub_cancel]; exact i3
 have hS : W1.drew.cell? ⟨b, 0, none⟩ = some (.slice (some ad) L.length c) ∧ W1.drew.cell? ⟨b, 1, none⟩ = some (.int .i64 ((I : Int) + 1)) ∧ W1.drew.cell? (ad.add (I * 4)) = some (.int .i64 t.f0) ∧ W1.drew.cell? ⟨(ad.add (I * 4)).block, (ad.add (I * 4)).off + 1, none⟩ = some (.int .i64 t.f1) ∧ W1.drew.cell? ⟨(ad.add (I * 4)).block, (ad.add (I * 4)).off + 2, none⟩ = some (.int .i64 t.f2) ∧ W1.drew.cell? ⟨(ad.add (I * 4)).block, (ad.add (I * 4)).off + 3, none⟩ = some (.string t.f3) := ⟨c0, c1, k0, k1, k2, k3⟩
 have hzz : w.heap.size ≠ b := by omega
 have HP4 : ∀ (a : Addr) (v : Value), a.block ≠ w.heap.size → W1.cell? a = some v → ((((W1.setCell ⟨w.heap.size, 0, none⟩ (.int .i64 t.f0)).setCell ⟨w.heap.size, 1, none⟩ (.int .i64 t.f1)).setCell ⟨w.heap.size, 2, none⟩ (.int .i64 t.f2)).setCell ⟨w.heap.size, 3, none⟩ (.string t.f3)).drew.cell? a = some v :=
  fun a v ha h => cell_stay (put4_other W1 w.heap.size _ _ _ _ ha) h
 have hS2 : ((((W1.setCell ⟨w.heap.size, 0, none⟩ (.int .i64 t.f0)).setCell ⟨w.heap.size, 1, none⟩ (.int .i64 t.f1)).setCell ⟨w.heap.size, 2, none⟩ (.int .i64 t.f2)).setCell ⟨w.heap.size, 3, none⟩ (.string t.f3)).drew.cell? ⟨b, 0, none⟩ = some (.slice (some ad) L.length c) ∧ ((((W1.setCell ⟨w.heap.size, 0, none⟩ (.int .i64 t.f0)).setCell ⟨w.heap.size, 1, none⟩ (.int .i64 t.f1)).setCell ⟨w.heap.size, 2, none⟩ (.int .i64 t.f2)).setCell ⟨w.heap.size, 3, none⟩ (.string t.f3)).drew.cell? ⟨b, 1, none⟩ = some (.int .i64 ((I : Int) + 1)) ∧ ((((W1.setCell ⟨w.heap.size, 0, none⟩ (.int .i64 t.f0)).setCell ⟨w.heap.size, 1, none⟩ (.int .i64 t.f1)).setCell ⟨w.heap.size, 2, none⟩ (.int .i64 t.f2)).setCell ⟨w.heap.size, 3, none⟩ (.string t.f3)).drew.cell? (ad.add (I * 4)) = some (.int .i64 t.f0) ∧ ((((W1.setCell ⟨w.heap.size, 0, none⟩ (.int .i64 t.f0)).setCell ⟨w.heap.size, 1, none⟩ (.int .i64 t.f1)).setCell ⟨w.heap.size, 2, none⟩ (.int .i64 t.f2)).setCell ⟨w.heap.size, 3, none⟩ (.string t.f3)).drew.cell? ⟨(ad.add (I * 4)).block, (ad.add (I * 4)).off + 1, none⟩ = some (.int .i64 t.f1) ∧ ((((W1.setCell ⟨w.heap.size, 0, none⟩ (.int .i64 t.f0)).setCell ⟨w.heap.size, 1, none⟩ (.int .i64 t.f1)).setCell ⟨w.heap.size, 2, none⟩ (.int .i64 t.f2)).setCell ⟨w.heap.size, 3, none⟩ (.string t.f3)).drew.cell? ⟨(ad.add (I * 4)).block, (ad.add (I * 4)).off + 2, none⟩ = some (.int .i64 t.f2) ∧ ((((W1.setCell ⟨w.heap.size, 0, none⟩ (.int .i64 t.f0)).setCell ⟨w.heap.size, 1, none⟩ (.int .i64 t.f1)).setCell ⟨w.heap.size, 2, none⟩ (.int .i64 t.f2)).setCell ⟨w.heap.size, 3, none⟩ (.string t.f3)).drew.cell? ⟨(ad.add (I * 4)).block, (ad.add (I * 4)).off + 3, none⟩ = some (.string t.f3) := And.intro (HP4 ⟨b, 0, none⟩ _ (Ne.symm hzz) c0) (And.intro (HP4 ⟨b, 1, none⟩ _ (Ne.symm hzz) c1) (And.intro (HP4 (ad.add (I * 4)) _ HAB.out k0) (And.intro (HP4 ⟨(ad.add (I * 4)).block, (ad.add (I * 4)).off + 1, none⟩ _ HAB.out k1) (And.intro (HP4 ⟨(ad.add (I * 4)).block, (ad.add (I * 4)).off + 2, none⟩ _ HAB.out k2) (HP4 ⟨(ad.add (I * 4)).block, (ad.add (I * 4)).off + 3, none⟩ _ HAB.out k3)))))
 clear HP4 hzz
 have i2 : (I : Int) < (L.length : Int) := by omega
 go_region_held3 (fun w' => w'.cell? ⟨b, 0, none⟩ = some (.slice (some ad) L.length c) ∧ w'.cell? ⟨b, 1, none⟩ = some (.int .i64 ((I : Int) + 1)) ∧ w'.cell? (ad.add (I * 4)) = some (.int .i64 t.f0) ∧ w'.cell? ⟨(ad.add (I * 4)).block, (ad.add (I * 4)).off + 1, none⟩ = some (.int .i64 t.f1) ∧ w'.cell? ⟨(ad.add (I * 4)).block, (ad.add (I * 4)).off + 2, none⟩ = some (.int .i64 t.f2) ∧ w'.cell? ⟨(ad.add (I * 4)).block, (ad.add (I * 4)).off + 3, none⟩ = some (.string t.f3)) (first | (with_reducible exact hS) | (with_reducible exact hS2) | (with_reducible assumption)) (fail)
 go_wp2
 refine bodyPost_ret (results_cell_row rfl _ _ w.heap.size 75 #[.int .i64 t.f0, .int .i64 t.f1, .int .i64 t.f2, .string t.f3] (0, 0) _ rfl (put4 (HW.out ▸ blk_drew_old HRES.out) _ _ _ _) Tryz.underlying75 rfl (by kernel_rfl)) rfl ?_
 have HS0 : Same (OnlyP b) w W1 := HW.out ▸ ((HNS.out.alloc _).thenB (below_drew (Below.refl _ _)))
 have HI0 : IsR Z W1 b n ⟨r, 0, at_⟩ := HW.out ▸ (HN.out.below (below_drew (below_alloc (Below.refl _ _) _)))
 refine ⟨rfl, (HI0.keep (fun k hk => put4_other _ _ _ _ _ _ (by omega))).below (below_drew (Below.refl _ _)), Same.thenB ((((HS0.setNew (p := ⟨w.heap.size, 0, none⟩) (Nat.le_refl _) _).setNew (p := ⟨w.heap.size, 1, none⟩) (Nat.le_refl _) _).setNew (p := ⟨w.heap.size, 2, none⟩) (Nat.le_refl _) _).setNew (p := ⟨w.heap.size, 3, none⟩) (Nat.le_refl _) _) (below_drew (Below.refl _ _))⟩
end Go.Proofs.YtkgmempifggajaaGreatDoor.P
/- The reference's reader: Token where no token is left. -/
namespace Go.Proofs.YtkgmempifggajaaGreatDoor.P
open Go.RowKit Go.Proofs.YtkgmempifggajaaGreatDoorW.PrintWords Go.Proofs.YtkgmempifggajaaGreatDoorW.PrintLast Go.Proofs.YtkgmempifggajaaGreatDoorW.PrintMore
set_option linter.unusedVariables false
set_option linter.unusedSimpArgs false
variable {Z : RZ}
abbrev zTok : Array Value := #[.int .i64 0, .int .i64 0, .int .i64 0, .string ⟨#[]⟩]
set_option maxHeartbeats 4000000 in
set_option maxRecDepth 100000 in
theorem rtoken_stop (b : Nat) (n : Int) (err at_ : Int) (w : World) (h : IsR Z w b n ⟨[], err, at_⟩) (L : List Tok) (A : Option Addr) (c I : Nat)
  (hb : w.heap[b]? = some (.cells #[.slice A L.length c, .int .i64 (I : Int), .int .i64 n, .int .i64 err, .int .i64 at_] 78 (0, 0))) (he : err ≠ 0) (hI : I < L.length) :
  Calls Tryz.prog 120 #[.pointer (some ⟨b, 0, none⟩)] w fun x w' => x = .returned (tokV z75) ∧ IsR Z w' b n ⟨[], err, at_⟩ ∧ Same (OnlyP b) w w' := by
 have hlt := h.lt
 have H := Aside0.mk h
 have hbA := blk_alloc_old hb (.cells zTok 75)
 have hc0 : (w.alloc (.cells zTok 75)).drew.cell? ⟨b, 0, none⟩ = some (.slice A L.length c) := blk_cell hbA 0
 have hc1 : (w.alloc (.cells zTok 75)).drew.cell? ⟨b, 1, none⟩ = some (.int .i64 (I : Int)) := blk_cell hbA 1
 have hc3 := blk_cell hbA 3
 have bE : (err != 0) = true := by simpa using he
 have bJ : decide (L.length ≤ I) = false := decide_eq_false (by omega)
 have HR := Aside0.mk (blk_new w (.cells zTok 75) rfl)
 clear hb h hbA he
 go_enter Tryz.func120, Tryz.ntmps120
 go_wp2_with fail
 have hS : (w.alloc (.cells zTok 75)).drew.cell? ⟨b, 0, none⟩ = some (.slice A L.length c) ∧ (w.alloc (.cells zTok 75)).drew.cell? ⟨b, 1, none⟩ = some (.int .i64 (I : Int)) := ⟨hc0, hc1⟩
 go_region_held3 (fun w' => w'.cell? ⟨b, 0, none⟩ = some (.slice A L.length c) ∧ w'.cell? ⟨b, 1, none⟩ = some (.int .i64 (I : Int))) (first | (with_reducible exact hS) | (with_reducible assumption)) (fail)
 obtain ⟨W1, hW1⟩ : ∃ W, (w.alloc (.cells zTok 75)).drew = W := ⟨_, rfl⟩
 have HS0 := Aside0.mk (show Same (OnlyP b) w W1 from hW1 ▸ ((Same.refl (OnlyP b) w).alloc _).thenB (below_drew (Below.refl _ _)))
 have HI0 := Aside0.mk (show IsR Z W1 b n ⟨[], err, at_⟩ from hW1 ▸ H.out.below (below_drew (below_alloc (Below.refl _ _) _)))
 have HRES := Aside0.mk (show W1.heap[w.heap.size]? = some (.cells zTok 75 (0, 0)) from hW1 ▸ blk_drew_old HR.out)
 have hd3 : W1.cell? ⟨b, 3, none⟩ = some (.int .i64 err) := hW1 ▸ hc3
 rw [hW1]
 have r0 := blk_cell HRES.out 0
 have r1 := blk_cell HRES.out 1
 have r2 := blk_cell HRES.out 2
 have r3 := blk_cell HRES.out 3
 have f0 := blk_frozen HRES.out 0
 have f1 := blk_frozen HRES.out 1
 have f2 := blk_frozen HRES.out 2
 have f3 := blk_frozen HRES.out 3
 clear hW1 hc0 hc1 hc3 hS HR H
 go_wp2
 refine bodyPost_ret (results_cell_row rfl _ _ w.heap.size 75 zTok (0, 0) _ rfl (put4 HRES.out _ _ _ _) Tryz.underlying75 rfl (by kernel_rfl)) rfl ?_
 exact ⟨rfl, (HI0.out.keep (fun k hk => put4_other _ _ _ _ _ _ (by omega))), ((((HS0.out.setNew (p := ⟨w.heap.size, 0, none⟩) (Nat.le_refl _) _).setNew (p := ⟨w.heap.size, 1, none⟩) (Nat.le_refl _) _).setNew (p := ⟨w.heap.size, 2, none⟩) (Nat.le_refl _) _).setNew (p := ⟨w.heap.size, 3, none⟩) (Nat.le_refl _) _)⟩
set_option maxHeartbeats 4000000 in
set_option maxRecDepth 100000 in
theorem rtoken_end (b : Nat) (n : Int) (err at_ : Int) (w : World) (h : IsR Z w b n ⟨[], err, at_⟩) (L : List Tok) (A : Option Addr) (c I : Nat)
  (hb : w.heap[b]? = some (.cells #[.slice A L.length c, .int .i64 (I : Int), .int .i64 n, .int .i64 err, .int .i64 at_] 78 (0, 0))) (hI : L.length ≤ I) :
  Calls Tryz.prog 120 #[.pointer (some ⟨b, 0, none⟩)] w fun x w' => x = .returned (tokV z75) ∧ IsR Z w' b n (failP 6 n ⟨[], err, at_⟩) ∧ Same (OnlyP b) w w' := by
 have hlt := h.lt
 have H := Aside0.mk h
 have hbA := blk_alloc_old hb (.cells zTok 75)
 have hc0 : (w.alloc (.cells zTok 75)).drew.cell? ⟨b, 0, none⟩ = some (.slice A L.length c) := blk_cell hbA 0
 have hc1 : (w.alloc (.cells zTok 75)).drew.cell? ⟨b, 1, none⟩ = some (.int .i64 (I : Int)) := blk_cell hbA 1
 have hc2 := blk_cell hbA 2
 have bJ : decide (L.length ≤ I) = true := decide_eq_true (by omega)
 have HR := blk_new w (.cells zTok 75) rfl
 have HRES := Aside0.mk HR
 clear hb h hbA HR
 go_enter Tryz.func120, Tryz.ntmps120
 go_wp2_with fail
 have hS : (w.alloc (.cells zTok 75)).drew.cell? ⟨b, 0, none⟩ = some (.slice A L.length c) ∧ (w.alloc (.cells zTok 75)).drew.cell? ⟨b, 1, none⟩ = some (.int .i64 (I : Int)) := ⟨hc0, hc1⟩
 go_region_held3 (fun w' => w'.cell? ⟨b, 0, none⟩ = some (.slice A L.length c) ∧ w'.cell? ⟨b, 1, none⟩ = some (.int .i64 (I : Int))) (first | (with_reducible exact hS) | (with_reducible assumption)) (fail)
 go_wp2_with fail
 have HI0 := H.out.below (below_drew (below_alloc (Below.refl w.heap.size w) (.cells zTok 75)))
 refine (rfail_calls b n _ 6 n (by decide) _ HI0).mono ?_
 rintro e w1 ⟨rfl, hP, hS⟩
 obtain ⟨s1, hs1⟩ : ∃ s1, failP 6 n ⟨[], err, at_⟩ = s1 := ⟨_, rfl⟩
 have he1 : s1.err ≠ 0 := by
  rw [← hs1]
  unfold failP
  split
  ·show (6 : Int) ≠ 0; decide
  ·rename_i hh
   exact hh
 rw [hs1] at hP
 have HE1 := Aside0.mk hs1
 have HP := Aside0.mk hP
 have HS := Aside0.mk hS
 have hz : w.heap.size < w1.heap.size := by have := hS.size; simp at this; omega
 have hR : w1.heap[w.heap.size]? = some (.cells zTok 75 (0, 0)) := (hS.block _ (by simp) (by unfold OnlyP; omega)).trans (blk_drew_old HRES.out)
 have HR := Aside0.mk hR
 obtain ⟨L1, A1, c1, I1, hb1, _⟩ := hP.blk
 have hd3 := blk_cell hb1 3
 have bE : (s1.err != 0) = true := by simpa using he1
 have r0 := blk_cell hR 0
 have r1 := blk_cell hR 1
 have r2 := blk_cell hR 2
 have r3 := blk_cell hR 3
 have f0 := blk_frozen hR 0
 have f1 := blk_frozen hR 1
 have f2 := blk_frozen hR 2
 have f3 := blk_frozen hR 3
 clear hP hS hR hb1 hs1 he1 HI0 hc0 hc1 hc2
 go_wp2
 refine bodyPost_ret (results_cell_row rfl _ _ w.heap.size 75 zTok (0, 0) _ rfl (put4 HR.out _ _ _ _) Tryz.underlying75 rfl (by kernel_rfl)) rfl ?_
 have HS0 : Same (OnlyP b) w w1 := (((Same.refl (OnlyP b) w).alloc _).thenB (below_drew (Below.refl _ _))).trans HS.out
 rw [HE1.out]
 refine ⟨rfl, (HP.out.keep (fun k hk => put4_other _ _ _ _ _ _ (by omega))), ((((HS0.setNew (p := ⟨w.heap.size, 0, none⟩) (Nat.le_refl _) _).setNew (p := ⟨w.heap.size, 1, none⟩) (Nat.le_refl _) _).setNew (p := ⟨w.heap.size, 2, none⟩) (Nat.le_refl _) _).setNew (p := ⟨w.heap.size, 3, none⟩) (Nat.le_refl _) _)⟩
theorem rtoken_calls (b : Nat) (n : Int) (s : PS) (w : World) (h : IsR Z w b n s) :
  Calls Tryz.prog 120 #[.pointer (some ⟨b, 0, none⟩)] w fun x w' => x = .returned (tokV (takeP n s).1) ∧ IsR Z w' b n (takeP n s).2 ∧ Same (OnlyP b) w w' := by
 obtain ⟨toks, err, at_⟩ := s
 cases toks with
 | cons t r => exact rtoken_some b n t r err at_ w h
 | nil =>
  obtain ⟨L, A, c, I, hb, h2, h3, hF, hc, h6⟩ := h.blk
  by_cases hI : I < L.length
  ·have he : err ≠ 0 := fun he => by
    simp only at h3
    rw [if_pos he, List.drop_eq_getElem_cons hI] at h3
    cases h3
   have hp : failP 6 n ⟨[], err, at_⟩ = ⟨[], err, at_⟩ := if_neg he
   show Calls _ _ _ _ fun x w' => x = .returned (tokV z75) ∧ IsR Z w' b n (failP 6 n ⟨[], err, at_⟩) ∧ Same (OnlyP b) w w'
   rw [hp]
   exact rtoken_stop b n err at_ w h L A c I hb he hI
  ·exact rtoken_end b n err at_ w h L A c I hb (by omega)
end Go.Proofs.YtkgmempifggajaaGreatDoor.P
/- The reference's reader: Sees. -/
namespace Go.Proofs.YtkgmempifggajaaGreatDoor.P
open Go.RowKit Go.Proofs.YtkgmempifggajaaGreatDoorW.PrintWords Go.Proofs.YtkgmempifggajaaGreatDoorW.PrintLast Go.Proofs.YtkgmempifggajaaGreatDoorW.PrintMore
set_option linter.unusedVariables false
set_option linter.unusedSimpArgs false
variable {Z : RZ}
def seesP (word : ByteArray) (s : PS) : Bool := match s.toks with | [] => false | t :: _ => (t.f0 == 1) && (t.f3.toList == word.toList)
set_option maxHeartbeats 2000000 in
set_option maxRecDepth 100000 in
theorem rsees_err (b : Nat) (n : Int) (word : ByteArray) (w : World) (L : List Tok) (A : Option Addr) (c I : Nat) (err at_ : Int) (hb : w.heap[b]? = some (.cells #[.slice A L.length c, .int .i64 (I : Int), .int .i64 n, .int .i64 err, .int .i64 at_] 78 (0, 0)))
  (hF : Kd.F kTok w (fun q => q < b) A L.length L) (h0 : err ≠ 0) :
  Calls Tryz.prog 85 #[.pointer (some ⟨b, 0, none⟩), .int .i64 1, .string word] w fun x w' => x = .returned (.bool false) ∧ Below w.heap.size w w' := by
 have hm := Kd.F_max hF
 have hc0 : w.cell? ⟨b, 0, none⟩ = some (.slice A L.length c) := blk_cell hb 0
 have hc1 : w.cell? ⟨b, 1, none⟩ = some (.int .i64 (I : Int)) := blk_cell hb 1
 have hc3 : w.cell? ⟨b, 3, none⟩ = some (.int .i64 err) := blk_cell hb 3
 have HB := Aside0.mk (show ∀ k, Below w.heap.size w (w.drewN k) from fun k => below_drewN (Below.refl w.heap.size w) k)
 have b0 : (err == 0) = false := by simpa using h0
 clear hb hF h0
 go_enter Tryz.func85, Tryz.ntmps85
 go_wp2_with fail
 go_quiet (fail)
 go_wp2
 go_ret
 exact ⟨rfl, HB.out _⟩
set_option maxHeartbeats 2000000 in
set_option maxRecDepth 100000 in
theorem rsees_end (b : Nat) (n : Int) (word : ByteArray) (w : World) (L : List Tok) (A : Option Addr) (c I : Nat) (err at_ : Int) (hb : w.heap[b]? = some (.cells #[.slice A L.length c, .int .i64 (I : Int), .int .i64 n, .int .i64 err, .int .i64 at_] 78 (0, 0)))
  (hF : Kd.F kTok w (fun q => q < b) A L.length L) (h0 : err = 0) (hI : L.length ≤ I) :
  Calls Tryz.prog 85 #[.pointer (some ⟨b, 0, none⟩), .int .i64 1, .string word] w fun x w' => x = .returned (.bool false) ∧ Below w.heap.size w w' := by
 have hm := Kd.F_max hF
 have hc0 : w.cell? ⟨b, 0, none⟩ = some (.slice A L.length c) := blk_cell hb 0
 have hc1 : w.cell? ⟨b, 1, none⟩ = some (.int .i64 (I : Int)) := blk_cell hb 1
 have hc3 : w.cell? ⟨b, 3, none⟩ = some (.int .i64 err) := blk_cell hb 3
 have HB := Aside0.mk (show ∀ k, Below w.heap.size w (w.drewN k) from fun k => below_drewN (Below.refl w.heap.size w) k)
 have b0 : (err == 0) = true := by simpa using h0
 have bI : decide ((I : Int) < (L.length : Int)) = false := decide_eq_false (by omega)
 have bJ : decide (I < L.length) = false := decide_eq_false (by omega)
 clear hb hF h0 hI
 go_enter Tryz.func85, Tryz.ntmps85
 go_wp2_with fail
 go_quiet (fail)
 go_wp2
 go_ret
 exact ⟨rfl, HB.out _⟩
set_option maxHeartbeats 2000000 in
set_option maxRecDepth 100000 in
theorem rsees_other (b : Nat) (n : Int) (word : ByteArray) (w : World) (L : List Tok) (A : Option Addr) (c I : Nat) (err at_ : Int) (hb : w.heap[b]? = some (.cells #[.slice A L.length c, .int .i64 (I : Int), .int .i64 n, .int .i64 err, .int .i64 at_] 78 (0, 0)))
  (hF : Kd.F kTok w (fun q => q < b) A L.length L) (t : Tok) (h0 : err = 0) (hI : I < L.length) (ht : L[I] = t) (h1 : t.f0 ≠ 1) :
  Calls Tryz.prog 85 #[.pointer (some ⟨b, 0, none⟩), .int .i64 1, .string word] w fun x w' => x = .returned (.bool false) ∧ Below w.heap.size w w' := by
 have hm := Kd.F_max hF
 have hc0 : w.cell? ⟨b, 0, none⟩ = some (.slice A L.length c) := blk_cell hb 0
 have hc1 : w.cell? ⟨b, 1, none⟩ = some (.int .i64 (I : Int)) := blk_cell hb 1
 have hc3 : w.cell? ⟨b, 3, none⟩ = some (.int .i64 err) := blk_cell hb 3
 have HB := Aside0.mk (show ∀ k, Below w.heap.size w (w.drewN k) from fun k => below_drewN (Below.refl w.heap.size w) k)
 obtain ⟨ad, rfl, hok, k0, k1, k2, k3⟩ := tok_atF hF I hI
 rw [ht] at k0 k3
 have b0 : (err == 0) = true := by simpa using h0
 have bI : decide ((I : Int) < (L.length : Int)) = true := decide_eq_true (by omega)
 have bJ : decide (I < L.length) = true := decide_eq_true (by omega)
 have i1 : (0 : Int) ≤ (I : Int) := by omega
 have i2 : (I : Int) < (L.length : Int) := by omega
 have b1 : (t.f0 == 1) = false := by simpa using h1
 clear hb hF h0 ht h1 hok k1 k2
 go_enter Tryz.func85, Tryz.ntmps85
 go_wp2_with fail
 go_quiet (fail)
 go_wp2
 go_ret
 exact ⟨rfl, HB.out _⟩
set_option maxHeartbeats 2000000 in
set_option maxRecDepth 100000 in
theorem rsees_word (b : Nat) (n : Int) (word : ByteArray) (w : World) (L : List Tok) (A : Option Addr) (c I : Nat) (err at_ : Int) (hb : w.heap[b]? = some (.cells #[.slice A L.length c, .int .i64 (I : Int), .int .i64 n, .int .i64 err, .int .i64 at_] 78 (0, 0)))
  (hF : Kd.F kTok w (fun q => q < b) A L.length L) (t : Tok) (h0 : err = 0) (hI : I < L.length) (ht : L[I] = t) (h1 : t.f0 = 1) :
  Calls Tryz.prog 85 #[.pointer (some ⟨b, 0, none⟩), .int .i64 1, .string word] w fun x w' => x = .returned (.bool (t.f3.toList == word.toList)) ∧ Below w.heap.size w w' := by
 have hm := Kd.F_max hF
 have hc0 : w.cell? ⟨b, 0, none⟩ = some (.slice A L.length c) := blk_cell hb 0
 have hc1 : w.cell? ⟨b, 1, none⟩ = some (.int .i64 (I : Int)) := blk_cell hb 1
 have hc3 : w.cell? ⟨b, 3, none⟩ = some (.int .i64 err) := blk_cell hb 3
 have HB := Aside0.mk (show ∀ k, Below w.heap.size w (w.drewN k) from fun k => below_drewN (Below.refl w.heap.size w) k)
 obtain ⟨ad, rfl, hok, k0, k1, k2, k3⟩ := tok_atF hF I hI
 rw [ht] at k0 k3
 have b0 : (err == 0) = true := by simpa using h0
 have bI : decide ((I : Int) < (L.length : Int)) = true := decide_eq_true (by omega)
 have bJ : decide (I < L.length) = true := decide_eq_true (by omega)
 have i1 : (0 : Int) ≤ (I : Int) := by omega
 have i2 : (I : Int) < (L.length : Int) := by omega
 have b1 : (t.f0 == 1) = true := by simpa using h1
 clear hb hF h0 ht h1 hok k1 k2
 go_enter Tryz.func85, Tryz.ntmps85
 go_wp2_with fail
 go_quiet (fail)
 go_wp2
 go_ret
 exact ⟨rfl, HB.out _⟩
theorem rsees_calls (b : Nat) (n : Int) (s : PS) (word : ByteArray) (w : World) (h : IsR Z w b n s) :
  Calls Tryz.prog 85 #[.pointer (some ⟨b, 0, none⟩), .int .i64 1, .string word] w fun x w' => x = .returned (.bool (seesP word s)) ∧ IsR Z w' b n s ∧ Same (OnlyP b) w w' := by
 obtain ⟨L, A, c, I, hb, h2, h3, hF, hc, h6⟩ := h.blk
 have fin : ∀ q, seesP word s = q → Calls Tryz.prog 85 #[.pointer (some ⟨b, 0, none⟩), .int .i64 1, .string word] w (fun x w' => x = .returned (.bool q) ∧ Below w.heap.size w w') →
   Calls Tryz.prog 85 #[.pointer (some ⟨b, 0, none⟩), .int .i64 1, .string word] w fun x w' => x = .returned (.bool (seesP word s)) ∧ IsR Z w' b n s ∧ Same (OnlyP b) w w' := by
  intro q hq hC
  refine hC.mono ?_
  rintro e w1 ⟨rfl, hB⟩
  exact ⟨by rw [hq], h.below hB, Same.of_below hB⟩
 by_cases h0 : s.err = 0
 ·rw [if_pos h0] at h3
  by_cases hI : I < L.length
  ·rw [List.drop_eq_getElem_cons hI] at h3
   by_cases h1 : L[I].f0 = 1
   ·refine fin (L[I].f3.toList == word.toList) ?_ (rsees_word b n word w L A c I s.err s.at_ hb hF L[I] h0 hI rfl h1)
    unfold seesP; rw [h3]; simp [h1]
   ·refine fin false ?_ (rsees_other b n word w L A c I s.err s.at_ hb hF L[I] h0 hI rfl h1)
    unfold seesP; rw [h3]; simp [h1]
  ·refine fin false ?_ (rsees_end b n word w L A c I s.err s.at_ hb hF h0 (by omega))
   rw [List.drop_eq_nil_of_le (by omega)] at h3
   unfold seesP; rw [h3]
 ·refine fin false ?_ (rsees_err b n word w L A c I s.err s.at_ hb hF h0)
  rw [if_neg h0] at h3
  unfold seesP; rw [h3]
end Go.Proofs.YtkgmempifggajaaGreatDoor.P
