/- What the statement's proof builds on: GoConnA. -/
import Derived.Test.YtkgmempifggajaaGreatDoorGD28
import Derived.Test.YtkgmempifggajaaGreatDoorGD32
-- the text YtkgmempifggajaaGreatDoorGoConnA
/- FormulaConnectives: its memory. -/
namespace Go.Proofs.YtkgmempifggajaaGreatDoor.PLawConn
open Go.RowKit Go.Proofs.YtkgmempifggajaaGreatDoorW.PrintWords Go.Proofs.YtkgmempifggajaaGreatDoorW.PrintLast Go.Proofs.YtkgmempifggajaaGreatDoorW.PrintMore
open Go.Proofs.YtkgmempifggajaaGreatDoor.P
set_option linter.unusedVariables false
set_option linter.unusedSimpArgs false
set_option linter.unusedSectionVars false

theorem good_room {x : Fm} {l : List Fact} {cs : List Int} (h : PLawFormulaMatters.Good x l cs) : Room x l 60 16 := ⟨h.size, h.depth, (check_first h.check).1⟩
abbrev fmC (x : Fm) (A : Option Addr) (c : Nat) : Array Value := #[.int .i64 x.f0, .string x.f1, .int .i64 x.f2, .int .i64 x.f3, .slice A x.f4.length c]
/-- The law's variables. -/
structure CP (w0 w : World) (b1 b2 b3 : Nat) (x y : Fm) (l : List Fact) (cs : List Int) (A B D E : Option Addr) (c d dc ec : Nat) : Prop where
  f : w.heap[b1]? = some (.cells (fmC x A c) 24 (0, 0))
  g : w.heap[b2]? = some (.cells (fmC y B d) 24 (0, 0))
  dom : w.heap[b3]? = some (.cells #[.slice D l.length dc] 27 (0, 0))
  fC : Kd.C kFm w A x.f4.length x.f4
  gC : Kd.C kFm w B y.f4.length y.f4
  dC : Kd.C kFact w D l.length l
  eC : Kd.C (Kd.int .i64) w E cs.length cs
  fl : x.f4.length ≤ c
  gl : y.f4.length ≤ d
  dl : l.length ≤ dc
  el : cs.length ≤ ec
  old : Below w0.heap.size w0 w
theorem CP.below {w0 w w1 : World} {b1 b2 b3 : Nat} {x y : Fm} {l : List Fact} {cs : List Int} {A B D E : Option Addr} {c d dc ec : Nat} (h : CP w0 w b1 b2 b3 x y l cs A B D E c d dc ec) (hb : Below w.heap.size w w1) : CP w0 w1 b1 b2 b3 x y l cs A B D E c d dc ec :=
  ⟨(hb.block _ (lt_of_block h.f)).trans h.f, (hb.block _ (lt_of_block h.g)).trans h.g, (hb.block _ (lt_of_block h.dom)).trans h.dom, Kd.C_below h.fC hb, Kd.C_below h.gC hb, Kd.C_below h.dC hb, Kd.C_below h.eC hb, h.fl, h.gl, h.dl, h.el, h.old.trans (hb.mono h.old.size)⟩
theorem CP.alloc {w0 w : World} {b1 b2 b3 : Nat} {x y : Fm} {l : List Fact} {cs : List Int} {A B D E : Option Addr} {c d dc ec : Nat} (h : CP w0 w b1 b2 b3 x y l cs A B D E c d dc ec) (o : Obj) : CP w0 (w.alloc o) b1 b2 b3 x y l cs A B D E c d dc ec := h.below (below_alloc (Below.refl _ _) o)
theorem CP.start {w : World} {x y : Fm} {l : List Fact} {cs : List Int} {A B D E : Option Addr} {c d dc ec : Nat} (hA : Kd.C kFm w A x.f4.length x.f4) (hc : x.f4.length ≤ c) (hB : Kd.C kFm w B y.f4.length y.f4) (hd : y.f4.length ≤ d)
    (hD : Kd.C kFact w D l.length l) (hdc : l.length ≤ dc) (hE : Kd.C (Kd.int .i64) w E cs.length cs) (hec : cs.length ≤ ec) :
    CP w (((w.alloc (.cells (fmC x A c) 24)).alloc (.cells (fmC y B d) 24)).alloc (.cells #[.slice D l.length dc] 27)) w.heap.size (w.heap.size + 1) (w.heap.size + 1 + 1) x y l cs A B D E c d dc ec := by
  have hb := below_alloc (below_alloc (below_alloc (Below.refl w.heap.size w) (.cells (fmC x A c) 24)) (.cells (fmC y B d) 24)) (.cells #[.slice D l.length dc] 27)
  exact ⟨by (repeat (first | (refine blk_new _ _ ?_; first | rfl | (simp; done)) | refine blk_alloc_old ?_ _ | refine blk_drew_old ?_ | refine blk_drewN_old ?_ _ | assumption)), by (repeat (first | (refine blk_new _ _ ?_; first | rfl | (simp; done)) | refine blk_alloc_old ?_ _ | refine blk_drew_old ?_ | refine blk_drewN_old ?_ _ | assumption)), by (repeat (first | (refine blk_new _ _ ?_; first | rfl | (simp; done)) | refine blk_alloc_old ?_ _ | refine blk_drew_old ?_ | refine blk_drewN_old ?_ _ | assumption)), Kd.C_below hA hb, Kd.C_below hB hb, Kd.C_below hD hb, Kd.C_below hE hb, hc, hd, hdc, hec, hb⟩
/-- A row of one formula, of two. -/
theorem one_C {w : World} {k : Nat} {x : Fm} {A : Option Addr} {c : Nat} {t : TypeId} (hk : w.heap[k]? = some (.cells #[.int .i64 x.f0, .string x.f1, .int .i64 x.f2, .int .i64 x.f3, .slice A x.f4.length c] t (0, 0))) (hA : Kd.C kFm w A x.f4.length x.f4) (hc : x.f4.length ≤ c) :
    Kd.C kFm w (some ⟨k, 0, none⟩) ([x] : List Fm).length [x] := by
  refine fms_C hk [x] (by simp) (fun j hj => ?_)
  obtain rfl : j = 0 := by simp at hj; omega
  refine ⟨A, c, hc, hA, fun i u hu => ?_⟩
  simpa using hu
theorem two_C {w : World} {k : Nat} {x y : Fm} {A B : Option Addr} {c d : Nat} {t : TypeId} (hk : w.heap[k]? = some (.cells #[.int .i64 x.f0, .string x.f1, .int .i64 x.f2, .int .i64 x.f3, .slice A x.f4.length c, .int .i64 y.f0, .string y.f1, .int .i64 y.f2, .int .i64 y.f3, .slice B y.f4.length d] t (0, 0)))
    (hA : Kd.C kFm w A x.f4.length x.f4) (hc : x.f4.length ≤ c) (hB : Kd.C kFm w B y.f4.length y.f4) (hd : y.f4.length ≤ d) :
    Kd.C kFm w (some ⟨k, 0, none⟩) ([x, y] : List Fm).length [x, y] := by
  refine fms_C hk [x, y] (by simp) (fun j hj => ?_)
  rcases (show j = 0 ∨ j = 1 by simp at hj; omega) with rfl | rfl
  · refine ⟨A, c, hc, hA, fun i u hu => ?_⟩
    have hi : i < 5 := by
      have := (List.getElem?_eq_some_iff.1 hu).1
      simpa using this
    rcases (show i = 0 ∨ i = 1 ∨ i = 2 ∨ i = 3 ∨ i = 4 by omega) with rfl | rfl | rfl | rfl | rfl <;> simpa using hu
  · refine ⟨B, d, hd, hB, fun i u hu => ?_⟩
    have hi : i < 5 := by
      have := (List.getElem?_eq_some_iff.1 hu).1
      simpa using this
    rcases (show i = 0 ∨ i = 1 ∨ i = 2 ∨ i = 3 ∨ i = 4 by omega) with rfl | rfl | rfl | rfl | rfl <;> simpa using hu
/-- Holds at a formula whose kids lie in a row. -/
theorem holds_kids {w0 w : World} {b1 b2 b3 : Nat} {x y : Fm} {l : List Fact} {cs : List Int} {A B D E : Option Addr} {c d dc ec : Nat} (h : CP w0 w b1 b2 b3 x y l cs A B D E c d dc ec) (hok : okDom l = true)
    {op : Int} {kids : List Fm} {n : Nat} {r : Bool} (K : Option Addr) (hK : Kd.C kFm w K kids.length kids) (hn : kids.length = n) (hs : size (nFm op kids) ≤ 200) (hr : holdsF (nFm op kids) l cs = r) :
    Calls Tryz.prog 20 #[.agg #[.int .i64 op, .string ⟨#[]⟩, .int .i64 0, .int .i64 0, .slice K n n], .agg #[.slice D l.length dc], .slice E cs.length ec] w fun e w' => e = .returned (.bool r) ∧ Below w.heap.size w w' := by
  subst hn
  have := holds_calls (nFm op kids) K kids.length l D dc cs E ec w hK (Nat.le_refl _) h.dC h.dl h.eC h.el (by omega) (okDom_len hok) (okDom_at hok)
  rw [hr] at this
  exact this
theorem blk_through {w w1 : World} {k : Nat} {o : Obj} (hb : Below w.heap.size w w1) (h : w.heap[k]? = some o) : w1.heap[k]? = some o := (hb.block _ (lt_of_block h)).trans h
abbrev notC (kb : Nat) : Array Value := #[.int .i64 4, .string ⟨#[]⟩, .int .i64 0, .int .i64 0, .slice (some ⟨kb, 0, none⟩) 1 1]
/-- .. with the negation of the first formula. -/
structure CN (w0 w : World) (b1 b2 b3 nb kb : Nat) (x y : Fm) (l : List Fact) (cs : List Int) (A B D E : Option Addr) (c d dc ec : Nat) : Prop where
  cp : CP w0 w b1 b2 b3 x y l cs A B D E c d dc ec
  n : w.heap[nb]? = some (.cells (notC kb) 24 (0, 0))
  k : w.heap[kb]? = some (.cells (fmC x A c) 24 (0, 0))
theorem CN.below {w0 w w1 : World} {b1 b2 b3 nb kb : Nat} {x y : Fm} {l : List Fact} {cs : List Int} {A B D E : Option Addr} {c d dc ec : Nat} (h : CN w0 w b1 b2 b3 nb kb x y l cs A B D E c d dc ec) (hb : Below w.heap.size w w1) : CN w0 w1 b1 b2 b3 nb kb x y l cs A B D E c d dc ec :=
  ⟨h.cp.below hb, blk_through hb h.n, blk_through hb h.k⟩
theorem cn_cells {w0 w : World} {b1 b2 b3 nb kb : Nat} {x y : Fm} {l : List Fact} {cs : List Int} {A B D E : Option Addr} {c d dc ec : Nat} (h : CN w0 w b1 b2 b3 nb kb x y l cs A B D E c d dc ec) :
    w.cell? ⟨nb, 0, none⟩ = some (.int .i64 4) ∧ w.cell? ⟨nb, 1, none⟩ = some (.string ⟨#[]⟩) ∧ w.cell? ⟨nb, 2, none⟩ = some (.int .i64 0) ∧ w.cell? ⟨nb, 3, none⟩ = some (.int .i64 0) ∧ w.cell? ⟨nb, 4, none⟩ = some (.slice (some ⟨kb, 0, none⟩) 1 1) ∧ w.cell? ⟨b1, 0, none⟩ = some (.int .i64 x.f0) ∧ w.cell? ⟨b1, 1, none⟩ = some (.string x.f1) ∧ w.cell? ⟨b1, 2, none⟩ = some (.int .i64 x.f2) ∧ w.cell? ⟨b1, 3, none⟩ = some (.int .i64 x.f3) ∧ w.cell? ⟨b1, 4, none⟩ = some (.slice A x.f4.length c) ∧ w.cell? ⟨b2, 0, none⟩ = some (.int .i64 y.f0) ∧ w.cell? ⟨b2, 1, none⟩ = some (.string y.f1) ∧ w.cell? ⟨b2, 2, none⟩ = some (.int .i64 y.f2) ∧ w.cell? ⟨b2, 3, none⟩ = some (.int .i64 y.f3) ∧ w.cell? ⟨b2, 4, none⟩ = some (.slice B y.f4.length d) ∧ w.cell? ⟨b3, 0, none⟩ = some (.slice D l.length dc) ∧ CN w0 w b1 b2 b3 nb kb x y l cs A B D E c d dc ec :=
  ⟨blk_cell h.n 0, blk_cell h.n 1, blk_cell h.n 2, blk_cell h.n 3, blk_cell h.n 4, blk_cell h.cp.f 0, blk_cell h.cp.f 1, blk_cell h.cp.f 2, blk_cell h.cp.f 3, blk_cell h.cp.f 4, blk_cell h.cp.g 0, blk_cell h.cp.g 1, blk_cell h.cp.g 2, blk_cell h.cp.g 3, blk_cell h.cp.g 4, blk_cell h.cp.dom 0, h⟩
theorem cn_of {w0 w : World} {b1 b2 b3 nb kb : Nat} {x y : Fm} {l : List Fact} {cs : List Int} {A B D E : Option Addr} {c d dc ec : Nat} {p0 p1 p2 p3 p4 p5 p6 p7 p8 p9 p10 p11 p12 p13 p14 p15 : Prop} (h : p0 ∧ p1 ∧ p2 ∧ p3 ∧ p4 ∧ p5 ∧ p6 ∧ p7 ∧ p8 ∧ p9 ∧ p10 ∧ p11 ∧ p12 ∧ p13 ∧ p14 ∧ p15 ∧ CN w0 w b1 b2 b3 nb kb x y l cs A B D E c d dc ec) : CN w0 w b1 b2 b3 nb kb x y l cs A B D E c d dc ec := h.2.2.2.2.2.2.2.2.2.2.2.2.2.2.2.2
section
variable {w0 w W : World} {b1 b2 b3 nb kb : Nat} {x y : Fm} {l : List Fact} {cs : List Int} {A B D E : Option Addr} {c d dc ec : Nat} {r : Bool} (h : CN w0 w b1 b2 b3 nb kb x y l cs A B D E c d dc ec) (hok : okDom l = true) (hx : P.size x ≤ 60) (hy : P.size y ≤ 60)
include h hok hx hy
theorem cn_not (hr : holdsF (nFm 4 [x]) l cs = r) : Calls Tryz.prog 20 #[.agg #[.int .i64 4, .string ⟨#[]⟩, .int .i64 0, .int .i64 0, .slice (some ⟨kb, 0, none⟩) 1 1], .agg #[.slice D l.length dc], .slice E cs.length ec] w fun e w' => e = .returned (.bool r) ∧ Below w.heap.size w w' :=
  holds_kids h.cp hok _ (one_C h.k h.cp.fC h.cp.fl) rfl (by rw [size_eq]; show 1 + (P.size x + 0) ≤ _; omega) hr
theorem cn_xy (op : Int) (hb : Below (W.alloc (.cells #[.int .i64 x.f0, .string x.f1, .int .i64 x.f2, .int .i64 x.f3, .slice A x.f4.length c, .int .i64 y.f0, .string y.f1, .int .i64 y.f2, .int .i64 y.f3, .slice B y.f4.length d] 24)).heap.size (W.alloc (.cells #[.int .i64 x.f0, .string x.f1, .int .i64 x.f2, .int .i64 x.f3, .slice A x.f4.length c, .int .i64 y.f0, .string y.f1, .int .i64 y.f2, .int .i64 y.f3, .slice B y.f4.length d] 24)) w) (hr : holdsF (nFm op [x, y]) l cs = r) :
    Calls Tryz.prog 20 #[.agg #[.int .i64 op, .string ⟨#[]⟩, .int .i64 0, .int .i64 0, .slice (some ⟨W.heap.size, 0, none⟩) 2 2], .agg #[.slice D l.length dc], .slice E cs.length ec] w fun e w' => e = .returned (.bool r) ∧ Below w.heap.size w w' :=
  holds_kids h.cp hok _ (two_C (blk_through hb (blk_new _ _ rfl)) h.cp.fC h.cp.fl h.cp.gC h.cp.gl) rfl (by rw [size_eq]; show 1 + (P.size x + (P.size y + 0)) ≤ _; omega) hr
theorem cn_yx (op : Int) (hb : Below (W.alloc (.cells #[.int .i64 y.f0, .string y.f1, .int .i64 y.f2, .int .i64 y.f3, .slice B y.f4.length d, .int .i64 x.f0, .string x.f1, .int .i64 x.f2, .int .i64 x.f3, .slice A x.f4.length c] 24)).heap.size (W.alloc (.cells #[.int .i64 y.f0, .string y.f1, .int .i64 y.f2, .int .i64 y.f3, .slice B y.f4.length d, .int .i64 x.f0, .string x.f1, .int .i64 x.f2, .int .i64 x.f3, .slice A x.f4.length c] 24)) w) (hr : holdsF (nFm op [y, x]) l cs = r) :
    Calls Tryz.prog 20 #[.agg #[.int .i64 op, .string ⟨#[]⟩, .int .i64 0, .int .i64 0, .slice (some ⟨W.heap.size, 0, none⟩) 2 2], .agg #[.slice D l.length dc], .slice E cs.length ec] w fun e w' => e = .returned (.bool r) ∧ Below w.heap.size w w' :=
  holds_kids h.cp hok _ (two_C (blk_through hb (blk_new _ _ rfl)) h.cp.gC h.cp.gl h.cp.fC h.cp.fl) rfl (by rw [size_eq]; show 1 + (P.size y + (P.size x + 0)) ≤ _; omega) hr
theorem cn_xyd (op : Int) (hb : Below (W.alloc (.cells #[.int .i64 x.f0, .string x.f1, .int .i64 x.f2, .int .i64 x.f3, .slice A x.f4.length c, .int .i64 y.f0, .string y.f1, .int .i64 y.f2, .int .i64 y.f3, .slice B y.f4.length d] 24)).drew.heap.size (W.alloc (.cells #[.int .i64 x.f0, .string x.f1, .int .i64 x.f2, .int .i64 x.f3, .slice A x.f4.length c, .int .i64 y.f0, .string y.f1, .int .i64 y.f2, .int .i64 y.f3, .slice B y.f4.length d] 24)).drew w) (hr : holdsF (nFm op [x, y]) l cs = r) :
    Calls Tryz.prog 20 #[.agg #[.int .i64 op, .string ⟨#[]⟩, .int .i64 0, .int .i64 0, .slice (some ⟨W.heap.size, 0, none⟩) 2 2], .agg #[.slice D l.length dc], .slice E cs.length ec] w fun e w' => e = .returned (.bool r) ∧ Below w.heap.size w w' :=
  holds_kids h.cp hok _ (two_C (blk_through hb (show (W.alloc (.cells #[.int .i64 x.f0, .string x.f1, .int .i64 x.f2, .int .i64 x.f3, .slice A x.f4.length c, .int .i64 y.f0, .string y.f1, .int .i64 y.f2, .int .i64 y.f3, .slice B y.f4.length d] 24)).drew.heap[W.heap.size]? = _ from blk_new _ _ rfl)) h.cp.fC h.cp.fl h.cp.gC h.cp.gl) rfl (by rw [size_eq]; show 1 + (P.size x + (P.size y + 0)) ≤ _; omega) hr
theorem cn_yxd (op : Int) (hb : Below (W.alloc (.cells #[.int .i64 y.f0, .string y.f1, .int .i64 y.f2, .int .i64 y.f3, .slice B y.f4.length d, .int .i64 x.f0, .string x.f1, .int .i64 x.f2, .int .i64 x.f3, .slice A x.f4.length c] 24)).drew.heap.size (W.alloc (.cells #[.int .i64 y.f0, .string y.f1, .int .i64 y.f2, .int .i64 y.f3, .slice B y.f4.length d, .int .i64 x.f0, .string x.f1, .int .i64 x.f2, .int .i64 x.f3, .slice A x.f4.length c] 24)).drew w) (hr : holdsF (nFm op [y, x]) l cs = r) :
    Calls Tryz.prog 20 #[.agg #[.int .i64 op, .string ⟨#[]⟩, .int .i64 0, .int .i64 0, .slice (some ⟨W.heap.size, 0, none⟩) 2 2], .agg #[.slice D l.length dc], .slice E cs.length ec] w fun e w' => e = .returned (.bool r) ∧ Below w.heap.size w w' :=
  holds_kids h.cp hok _ (two_C (blk_through hb (show (W.alloc (.cells #[.int .i64 y.f0, .string y.f1, .int .i64 y.f2, .int .i64 y.f3, .slice B y.f4.length d, .int .i64 x.f0, .string x.f1, .int .i64 x.f2, .int .i64 x.f3, .slice A x.f4.length c] 24)).drew.heap[W.heap.size]? = _ from blk_new _ _ rfl)) h.cp.gC h.cp.gl h.cp.fC h.cp.fl) rfl (by rw [size_eq]; show 1 + (P.size y + (P.size x + 0)) ≤ _; omega) hr
theorem cn_nand {k1 k2 : Nat} (h2 : w.heap[k2]? = some (.cells #[.int .i64 5, .string ⟨#[]⟩, .int .i64 0, .int .i64 0, .slice (some ⟨k1, 0, none⟩) 2 2] 24 (0, 0))) (h1 : w.heap[k1]? = some (.cells #[.int .i64 x.f0, .string x.f1, .int .i64 x.f2, .int .i64 x.f3, .slice A x.f4.length c, .int .i64 y.f0, .string y.f1, .int .i64 y.f2, .int .i64 y.f3, .slice B y.f4.length d] 24 (0, 0))) (hr : holdsF (nFm 4 [nFm 5 [x, y]]) l cs = r) :
    Calls Tryz.prog 20 #[.agg #[.int .i64 4, .string ⟨#[]⟩, .int .i64 0, .int .i64 0, .slice (some ⟨k2, 0, none⟩) 1 1], .agg #[.slice D l.length dc], .slice E cs.length ec] w fun e w' => e = .returned (.bool r) ∧ Below w.heap.size w w' :=
  holds_kids h.cp hok _ (one_C (x := nFm 5 [x, y]) (A := some ⟨k1, 0, none⟩) (c := 2) h2 (two_C h1 h.cp.fC h.cp.fl h.cp.gC h.cp.gl) (Nat.le_refl _)) rfl (by rw [size_eq]; show 1 + (P.size (nFm 5 [x, y]) + 0) ≤ _; rw [size_eq]; show 1 + (1 + (P.size x + (P.size y + 0)) + 0) ≤ _; omega) hr
theorem cn_orn {k3 k4 : Nat} (h2 : w.heap[k4]? = some (.cells #[.int .i64 4, .string ⟨#[]⟩, .int .i64 0, .int .i64 0, .slice (some ⟨kb, 0, none⟩) 1 1, .int .i64 4, .string ⟨#[]⟩, .int .i64 0, .int .i64 0, .slice (some ⟨k3, 0, none⟩) 1 1] 24 (0, 0))) (h1 : w.heap[k3]? = some (.cells (fmC y B d) 24 (0, 0))) (hr : holdsF (nFm 6 [nFm 4 [x], nFm 4 [y]]) l cs = r) :
    Calls Tryz.prog 20 #[.agg #[.int .i64 6, .string ⟨#[]⟩, .int .i64 0, .int .i64 0, .slice (some ⟨k4, 0, none⟩) 2 2], .agg #[.slice D l.length dc], .slice E cs.length ec] w fun e w' => e = .returned (.bool r) ∧ Below w.heap.size w w' :=
  holds_kids h.cp hok _ (two_C (x := nFm 4 [x]) (y := nFm 4 [y]) (A := some ⟨kb, 0, none⟩) (B := some ⟨k3, 0, none⟩) (c := 1) (d := 1) h2 (one_C h.k h.cp.fC h.cp.fl) (Nat.le_refl _) (one_C h1 h.cp.gC h.cp.gl) (Nat.le_refl _)) rfl
    (by rw [size_eq]; show 1 + (P.size (nFm 4 [x]) + (P.size (nFm 4 [y]) + 0)) ≤ _; rw [size_eq, size_eq]; show 1 + (1 + (P.size x + 0) + (1 + (P.size y + 0) + 0)) ≤ _; omega) hr
end
end Go.Proofs.YtkgmempifggajaaGreatDoor.PLawConn
