/- What the statement's proof builds on: HeadB, HeadC, Head, Ext, FLaw. -/
import Derived.Test.YtkgmempifggajaaGreatDoorGD14
import Derived.Deep.RegionHeld3
-- the text YtkgmempifggajaaGreatDoorHeadB
/- head's makers of formulas; rows of formulas just laid. -/
namespace Go.Proofs.YtkgmempifggajaaGreatDoor.P
open Go.RowKit Go.Proofs.YtkgmempifggajaaGreatDoorW.PrintWords Go.Proofs.YtkgmempifggajaaGreatDoorW.PrintLast Go.Proofs.YtkgmempifggajaaGreatDoorW.PrintMore
set_option linter.unusedVariables false
set_option linter.unusedSimpArgs false

theorem test_calls (name : ByteArray) (cmp n : Int) (w : World) :
    Calls Tryz.prog 32 #[.string name, .int .i64 cmp, .int .i64 n] w fun e w' => e = .returned (.agg #[.int .i64 3, .string name, .int .i64 cmp, .int .i64 n, .slice none 0 0]) ∧ Below w.heap.size w w' := by
  go_enter Tryz.func32, Tryz.ntmps32
  go_wp2
  refine bodyPost_ret (results_cell_row rfl _ _ w.heap.size 24 #[.int .i64 3, .string name, .int .i64 cmp, .int .i64 n, .slice none 0 0] (0, 0) _ rfl (by (repeat (first | (refine blk_new _ _ ?_; first | rfl | (simp; done)) | refine blk_alloc_old ?_ _ | refine blk_drew_old ?_ | refine blk_drewN_old ?_ _ | assumption))) Tryz.underlying24 rfl (by kernel_rfl)) rfl ?_
  exact ⟨rfl, below_alloc (Below.refl _ _) _⟩
theorem both_calls (op : Int) (A : Option Addr) (n c : Nat) (w : World) (hc : n ≤ c) :
    Calls Tryz.prog 29 #[.int .i64 op, .slice A n c] w fun e w' => e = .returned (.agg #[.int .i64 op, .string ⟨#[]⟩, .int .i64 0, .int .i64 0, .slice A n c]) ∧ Below w.heap.size w w' := by
  go_enter Tryz.func29, Tryz.ntmps29
  go_wp2
  refine bodyPost_ret (results_cell_row rfl _ _ w.heap.size 24 #[.int .i64 op, .string ⟨#[]⟩, .int .i64 0, .int .i64 0, .slice A n c] (0, 0) _ rfl (by (repeat (first | (refine blk_new _ _ ?_; first | rfl | (simp; done)) | refine blk_alloc_old ?_ _ | refine blk_drew_old ?_ | refine blk_drewN_old ?_ _ | assumption))) Tryz.underlying24 rfl (by kernel_rfl)) rfl ?_
  exact ⟨rfl, below_alloc (Below.refl _ _) _⟩

/-- A block of formulas' cells is a row of formulas. -/
theorem fms_C {w : World} {g : Nat} {cells : Array Value} {t : TypeId} (hb : w.heap[g]? = some (.cells cells t (0, 0))) (xs : List Fm) (hn : xs.length ≤ 9223372036854775807)
    (h : ∀ j (hj : j < xs.length), ∃ A c, xs[j].f4.length ≤ c ∧ Kd.C kFm w A xs[j].f4.length xs[j].f4 ∧ ∀ i u, [Value.int .i64 xs[j].f0, .string xs[j].f1, .int .i64 xs[j].f2, .int .i64 xs[j].f3, .slice A xs[j].f4.length c][i]? = some u → cells[j * 5 + i]? = some u) :
    Kd.C kFm w (some ⟨g, 0, none⟩) xs.length xs := by
  refine ⟨rfl, hn, fun _ => ⟨⟨g, 0, none⟩, rfl, fun j p hj => ?_⟩⟩
  obtain ⟨hj1, rfl⟩ := List.getElem?_eq_some_iff.1 hj
  obtain ⟨A, c, hc, hC, hcells⟩ := h j hj1
  refine ⟨[Value.int .i64 xs[j].f0, .string xs[j].f1, .int .i64 xs[j].f2, .int .i64 xs[j].f3, .slice A xs[j].f4.length c], rfl, k24_mk w xs[j] hc hC, fun i u hu => ?_⟩
  have h5 : kFm.sz = 5 := rfl
  rw [h5]
  have := blk_cell hb (j * 5 + i)
  have e : (⟨g, 0, none⟩ : Addr).add (j * 5 + i) = ⟨g, j * 5 + i, none⟩ := by
    unfold Addr.add
    split
    · rename_i h0; rw [h0]
    · simp
  rw [e, this]
  exact hcells i u hu
theorem fms_nil (w : World) : Kd.C kFm w none ([] : List Fm).length [] := Kd.C_nil _ _
end Go.Proofs.YtkgmempifggajaaGreatDoor.P
-- the text YtkgmempifggajaaGreatDoorHeadC
/- head's own memory. -/
namespace Go.Proofs.YtkgmempifggajaaGreatDoor.P
open Go.RowKit Go.Proofs.YtkgmempifggajaaGreatDoorW.PrintWords Go.Proofs.YtkgmempifggajaaGreatDoorW.PrintLast Go.Proofs.YtkgmempifggajaaGreatDoorW.PrintMore
set_option linter.unusedVariables false
set_option linter.unusedSimpArgs false

abbrev cT2 : Array Value := #[.int .i64 3, .string ⟨#[117, 115, 101, 100]⟩, .int .i64 1, .int .i64 1, .slice none 0 0]
abbrev cK2 (k1 : Nat) : Array Value := #[.int .i64 3, .string ⟨#[119, 101, 105, 103, 104, 116]⟩, .int .i64 6, .int .i64 18, .slice none 0 0, .int .i64 4, .string ⟨#[]⟩, .int .i64 0, .int .i64 0, .slice (some ⟨k1, 0, none⟩) 1 1]
abbrev cF (k2 : Nat) : Array Value := #[.int .i64 5, .string ⟨#[]⟩, .int .i64 0, .int .i64 0, .slice (some ⟨k2, 0, none⟩) 2 2]
abbrev cDom : Array Value := #[.string ⟨#[119, 101, 105, 103, 104, 116]⟩, .int .i64 2, .int .i64 0, .int .i64 150, .string ⟨#[117, 115, 101, 100]⟩, .int .i64 1, .int .i64 0, .int .i64 1]
/-- The domain and the case in memory. -/
structure HD (w0 w : World) : Prop where
  d0 : w.heap[w0.heap.size]? = some (.cells cDom 49 (0, 0))
  d1 : w.heap[w0.heap.size + 1]? = some (.cells #[.slice (some ⟨w0.heap.size, 0, none⟩) 2 2] 27 (0, 0))
  d2 : w.heap[w0.heap.size + 1 + 1]? = some (.cells #[.int .i64 20, .int .i64 0] 3 (0, 0))
  old : Below w0.heap.size w0 w
theorem HD.below {w0 w w1 : World} (h : HD w0 w) (hb : Below w.heap.size w w1) : HD w0 w1 :=
  ⟨(hb.block _ (lt_of_block h.d0)).trans h.d0, (hb.block _ (lt_of_block h.d1)).trans h.d1, (hb.block _ (lt_of_block h.d2)).trans h.d2, h.old.trans (hb.mono h.old.size)⟩
theorem HD.alloc {w0 w : World} (h : HD w0 w) (o : Obj) : HD w0 (w.alloc o) := h.below (below_alloc (Below.refl _ _) o)
/-- The formula f in memory: its rows, and its variable. -/
structure HFm (w0 w : World) (k1 k2 g : Nat) : Prop where
  hd : HD w0 w
  b1 : w.heap[k1]? = some (.cells cT2 24 (0, 0))
  b2 : w.heap[k2]? = some (.cells (cK2 k1) 24 (0, 0))
  b3 : w.heap[g]? = some (.cells (cF k2) 24 (0, 0))
theorem HFm.below {w0 w w1 : World} {k1 k2 g : Nat} (h : HFm w0 w k1 k2 g) (hb : Below w.heap.size w w1) : HFm w0 w1 k1 k2 g :=
  ⟨h.hd.below hb, (hb.block _ (lt_of_block h.b1)).trans h.b1, (hb.block _ (lt_of_block h.b2)).trans h.b2, (hb.block _ (lt_of_block h.b3)).trans h.b3⟩
theorem HFm.alloc {w0 w : World} {k1 k2 g : Nat} (h : HFm w0 w k1 k2 g) (o : Obj) : HFm w0 (w.alloc o) k1 k2 g := h.below (below_alloc (Below.refl _ _) o)
theorem rows_C {w : World} {k1 k2 : Nat} (b1 : w.heap[k1]? = some (.cells cT2 24 (0, 0))) (b2 : w.heap[k2]? = some (.cells (cK2 k1) 24 (0, 0))) : Kd.C kFm w (some ⟨k2, 0, none⟩) hF.f4.length hF.f4 := by
  have h1 : Kd.C kFm w (some ⟨k1, 0, none⟩) hNot.f4.length hNot.f4 := by
    refine fms_C b1 [hT2] (by decide) (fun j hj => ?_)
    obtain rfl : j = 0 := by simp at hj; omega
    refine ⟨none, 0, Nat.le_refl _, fms_nil w, fun i u hu => ?_⟩
    simpa [hT2, hUsed] using hu
  refine fms_C b2 [hT1, hNot] (by decide) (fun j hj => ?_)
  rcases (show j = 0 ∨ j = 1 by simp at hj; omega) with rfl | rfl
  · refine ⟨none, 0, Nat.le_refl _, fms_nil w, fun i u hu => ?_⟩
    have hi : i < 5 := by
      have := (List.getElem?_eq_some_iff.1 hu).1
      simpa using this
    rcases (show i = 0 ∨ i = 1 ∨ i = 2 ∨ i = 3 ∨ i = 4 by omega) with rfl | rfl | rfl | rfl | rfl <;> simpa [hT1, hWeight] using hu
  · refine ⟨some ⟨k1, 0, none⟩, 1, Nat.le_refl _, h1, fun i u hu => ?_⟩
    have hi : i < 5 := by
      have := (List.getElem?_eq_some_iff.1 hu).1
      simpa using this
    rcases (show i = 0 ∨ i = 1 ∨ i = 2 ∨ i = 3 ∨ i = 4 by omega) with rfl | rfl | rfl | rfl | rfl <;> simpa [hNot] using hu
theorem HFm.C {w0 w : World} {k1 k2 g : Nat} (h : HFm w0 w k1 k2 g) : Kd.C kFm w (some ⟨k2, 0, none⟩) hF.f4.length hF.f4 := rows_C h.b1 h.b2

theorem dom_C {w : World} {b : Nat} (hb : w.heap[b]? = some (.cells cDom 49 (0, 0))) : Kd.C kFact w (some ⟨b, 0, none⟩) hDom.length hDom := by
  refine ⟨rfl, by decide, fun _ => ⟨⟨b, 0, none⟩, rfl, fun j p hj => ?_⟩⟩
  obtain ⟨hj1, rfl⟩ := List.getElem?_eq_some_iff.1 hj
  refine ⟨[.string hDom[j].f0, .int .i64 hDom[j].f1, .int .i64 hDom[j].f2, .int .i64 hDom[j].f3], rfl, k49_mk w hDom[j], fun i u hu => ?_⟩
  have h4 : kFact.sz = 4 := rfl
  rw [h4]
  have := blk_cell hb (j * 4 + i)
  have e : (⟨b, 0, none⟩ : Addr).add (j * 4 + i) = ⟨b, j * 4 + i, none⟩ := by
    unfold Addr.add
    split
    · rename_i h0; rw [h0]
    · simp
  rw [e, this]
  have hi : i < 4 := by
    have := (List.getElem?_eq_some_iff.1 hu).1
    simpa using this
  rcases (show j = 0 ∨ j = 1 by simp [hDom] at hj1; omega) with rfl | rfl <;> rcases (show i = 0 ∨ i = 1 ∨ i = 2 ∨ i = 3 by omega) with rfl | rfl | rfl | rfl <;> simpa [hDom, hWeight, hUsed] using hu
theorem case_C {w : World} {b : Nat} {t : TypeId} (hb : w.heap[b]? = some (.cells #[.int .i64 20, .int .i64 0] t (0, 0))) : Kd.C kInt w (some ⟨b, 0, none⟩) ([20, 0] : List Int).length [20, 0] := by
  refine ⟨rfl, by decide, fun _ => ⟨⟨b, 0, none⟩, rfl, fun j p hj => ?_⟩⟩
  obtain ⟨hj1, rfl⟩ := List.getElem?_eq_some_iff.1 hj
  refine ⟨[.int .i64 ([20, 0] : List Int)[j]], rfl, rfl, fun i u hu => ?_⟩
  have h1 : kInt.sz = 1 := rfl
  rw [h1]
  have := blk_cell hb (j * 1 + i)
  have e : (⟨b, 0, none⟩ : Addr).add (j * 1 + i) = ⟨b, j * 1 + i, none⟩ := by
    unfold Addr.add
    split
    · rename_i h0; rw [h0]
    · simp
  rw [e, this]
  have hi : i < 1 := by
    have := (List.getElem?_eq_some_iff.1 hu).1
    simpa using this
  obtain rfl : i = 0 := by omega
  rcases (show j = 0 ∨ j = 1 by simp at hj1; omega) with rfl | rfl <;> simpa using hu
/-- All that head has in memory behind its seventh line. -/
structure HQ (w0 w : World) (k1 k2 g gg : Nat) (A : Option Addr) (c : Nat) : Prop where
  fm : HFm w0 w k1 k2 g
  gb : w.heap[gg]? = some (.cells #[.int .i64 6, .string ⟨#[]⟩, .int .i64 0, .int .i64 0, .slice A 2 c] 24 (0, 0))
  gc : Kd.C kFm w A hG.f4.length hG.f4
  gl : hG.f4.length ≤ c
theorem HQ.below {w0 w w1 : World} {k1 k2 g gg c : Nat} {A : Option Addr} (h : HQ w0 w k1 k2 g gg A c) (hb : Below w.heap.size w w1) : HQ w0 w1 k1 k2 g gg A c :=
  ⟨h.fm.below hb, (hb.block _ (lt_of_block h.gb)).trans h.gb, Kd.C_below h.gc hb, h.gl⟩
theorem hDom_sz : ∀ f ∈ hDom, f.f0.size ≤ 9223372036854775807 := by
  intro f hf
  simp only [hDom, List.mem_cons, List.not_mem_nil, or_false] at hf
  rcases hf with rfl | rfl
  · show (6 : Nat) ≤ _; decide
  · show (4 : Nat) ≤ _; decide
theorem hq_holds {w0 w : World} {k1 k2 g gg c : Nat} {A : Option Addr} (h : HQ w0 w k1 k2 g gg A c) :
    Calls Tryz.prog 20 #[.agg (cF k2), .agg #[.slice (some ⟨w0.heap.size, 0, none⟩) 2 2], .slice (some ⟨w0.heap.size + 1 + 1, 0, none⟩) 2 2] w fun e w' => e = .returned (.bool true) ∧ Below w.heap.size w w' := by
  have := holds_calls hF (some ⟨k2, 0, none⟩) 2 hDom (some ⟨w0.heap.size, 0, none⟩) 2 [20, 0] (some ⟨w0.heap.size + 1 + 1, 0, none⟩) 2 w h.fm.C (Nat.le_refl _) (dom_C h.fm.hd.d0) (Nat.le_refl _) (case_C h.fm.hd.d2) (Nat.le_refl _) (by rw [h_size.1]; decide) (by decide) (fun k hk => hDom_sz _ (List.getElem_mem hk))
  rw [h_holds] at this
  exact this
theorem hq_check1 {w0 w : World} {k1 k2 g gg c : Nat} {A : Option Addr} (h : HQ w0 w k1 k2 g gg A c) :
    Calls Tryz.prog 18 #[.agg #[.int .i64 3, .string ⟨#[119, 101, 105, 103, 104, 116]⟩, .int .i64 1, .int .i64 1000001, .slice none 0 0], .agg #[.slice (some ⟨w0.heap.size, 0, none⟩) 2 2]] w fun e w' => e = .returned (.int .i64 10) ∧ Below w.heap.size w w' := by
  have := check_calls ⟨3, hWeight, 1, 1000001, []⟩ none 0 hDom (some ⟨w0.heap.size, 0, none⟩) 2 w (fms_nil w) (Nat.le_refl _) (dom_C h.fm.hd.d0) (by rw [size_eq]; decide)
  rw [h_check1] at this
  exact this
theorem hq_check2 {w0 w : World} {k1 k2 g gg c : Nat} {A : Option Addr} (h : HQ w0 w k1 k2 g gg A c) :
    Calls Tryz.prog 18 #[.agg #[.int .i64 3, .string ⟨#[110, 111, 110, 101]⟩, .int .i64 1, .int .i64 1, .slice none 0 0], .agg #[.slice (some ⟨w0.heap.size, 0, none⟩) 2 2]] w fun e w' => e = .returned (.int .i64 7) ∧ Below w.heap.size w w' := by
  have := check_calls ⟨3, hNone, 1, 1, []⟩ none 0 hDom (some ⟨w0.heap.size, 0, none⟩) 2 w (fms_nil w) (Nat.le_refl _) (dom_C h.fm.hd.d0) (by rw [size_eq]; decide)
  rw [h_check2] at this
  exact this
theorem hq_check3 {w0 W w : World} {k1 k2 g gg c : Nat} {A : Option Addr} (h : HQ w0 w k1 k2 g gg A c) (hb : Below (W.alloc (.cells (cF k2) 24)).heap.size (W.alloc (.cells (cF k2) 24)) w) :
    Calls Tryz.prog 18 #[.agg #[.int .i64 5, .string ⟨#[]⟩, .int .i64 0, .int .i64 0, .slice (some ⟨W.heap.size, 0, none⟩) 1 1], .agg #[.slice (some ⟨w0.heap.size, 0, none⟩) 2 2]] w fun e w' => e = .returned (.int .i64 1) ∧ Below w.heap.size w w' := by
  have hblk : w.heap[W.heap.size]? = some (.cells (cF k2) 24 (0, 0)) := (hb.block _ (by simp)).trans (blk_new _ _ rfl)
  have hC : Kd.C kFm w (some ⟨W.heap.size, 0, none⟩) ([hF] : List Fm).length [hF] := by
    refine fms_C hblk [hF] (by decide) (fun j hj => ?_)
    obtain rfl : j = 0 := by simp at hj; omega
    refine ⟨some ⟨k2, 0, none⟩, 2, Nat.le_refl _, h.fm.C, fun i u hu => ?_⟩
    have hi : i < 5 := by
      have := (List.getElem?_eq_some_iff.1 hu).1
      simpa using this
    rcases (show i = 0 ∨ i = 1 ∨ i = 2 ∨ i = 3 ∨ i = 4 by omega) with rfl | rfl | rfl | rfl | rfl <;> simpa [hF] using hu
  have := check_calls ⟨5, ⟨#[]⟩, 0, 0, [hF]⟩ (some ⟨W.heap.size, 0, none⟩) 1 hDom (some ⟨w0.heap.size, 0, none⟩) 2 w hC (Nat.le_refl _) (dom_C h.fm.hd.d0) (by rw [size_eq]; simp only [sizes]; rw [h_size.1]; decide)
  rw [h_check3] at this
  exact this
theorem hq_same1 {w0 w : World} {k1 k2 g gg c : Nat} {A : Option Addr} (h : HQ w0 w k1 k2 g gg A c) :
    Calls Tryz.prog 22 #[.agg (cF k2), .agg (cF k2)] w fun e w' => e = .returned (.bool true) ∧ Below w.heap.size w w' := by
  have := same_calls hF hF (some ⟨k2, 0, none⟩) (some ⟨k2, 0, none⟩) 2 2 w h.fm.C h.fm.C (Nat.le_refl _) (Nat.le_refl _)
  rw [h_same] at this
  exact this
theorem hq_same2 {w0 w : World} {k1 k2 g gg c : Nat} {A : Option Addr} (h : HQ w0 w k1 k2 g gg A c) :
    Calls Tryz.prog 22 #[.agg (cF k2), .agg #[.int .i64 6, .string ⟨#[]⟩, .int .i64 0, .int .i64 0, .slice A 2 c]] w fun e w' => e = .returned (.bool false) ∧ Below w.heap.size w w' := by
  have := same_calls hF hG (some ⟨k2, 0, none⟩) A 2 c w h.fm.C h.gc (Nat.le_refl _) h.gl
  rw [h_same2] at this
  exact this

/-- What the regions hold: the formula's cells, the domain's cell, and the rest. -/
abbrev HSt (w0 : World) (k1 k2 g gg : Nat) (A : Option Addr) (c : Nat) (w : World) : Prop :=
  w.cell? ⟨g, 0, none⟩ = some (.int .i64 5) ∧ w.cell? ⟨g, 1, none⟩ = some (.string ⟨#[]⟩) ∧ w.cell? ⟨g, 2, none⟩ = some (.int .i64 0) ∧ w.cell? ⟨g, 3, none⟩ = some (.int .i64 0) ∧ w.cell? ⟨g, 4, none⟩ = some (.slice (some ⟨k2, 0, none⟩) 2 2) ∧
    w.cell? ⟨w0.heap.size + 1, 0, none⟩ = some (.slice (some ⟨w0.heap.size, 0, none⟩) 2 2) ∧ HQ w0 w k1 k2 g gg A c
theorem HQ.st {w0 w : World} {k1 k2 g gg c : Nat} {A : Option Addr} (h : HQ w0 w k1 k2 g gg A c) : HSt w0 k1 k2 g gg A c w :=
  ⟨blk_cell h.fm.b3 0, blk_cell h.fm.b3 1, blk_cell h.fm.b3 2, blk_cell h.fm.b3 3, blk_cell h.fm.b3 4, blk_cell h.fm.hd.d1 0, h⟩
theorem keepQ {w0 w1 w2 : World} {k1 k2 g gg c : Nat} {A : Option Addr} (hb : Below w1.heap.size w1 w2) (h : HSt w0 k1 k2 g gg A c w1) : HSt w0 k1 k2 g gg A c w2 := (h.2.2.2.2.2.2.below hb).st
theorem hq_of {w0 w : World} {k1 k2 g gg c : Nat} {A : Option Addr} (h : HSt w0 k1 k2 g gg A c w) : HQ w0 w k1 k2 g gg A c := h.2.2.2.2.2.2
end Go.Proofs.YtkgmempifggajaaGreatDoor.P
-- the text YtkgmempifggajaaGreatDoorHead
/- head returns true. -/
namespace Go.Proofs.YtkgmempifggajaaGreatDoor.P
open Go.RowKit Go.Proofs.YtkgmempifggajaaGreatDoorW.PrintWords Go.Proofs.YtkgmempifggajaaGreatDoorW.PrintLast Go.Proofs.YtkgmempifggajaaGreatDoorW.PrintMore
set_option linter.unusedVariables false
set_option linter.unusedSimpArgs false

set_option maxHeartbeats 4000000 in
set_option maxRecDepth 100000 in
theorem head_calls (w : World) : Calls Tryz.prog 12 #[] w fun e w' => e = .returned (.bool true) ∧ Below w.heap.size w w' := by
  go_enter Tryz.func12, Tryz.ntmps12
  go_wp2_with fail
  have HD0 := Aside0.mk (show HD w (((w.alloc (.cells cDom 49)).alloc (.cells #[.slice (some ⟨w.heap.size, 0, none⟩) 2 2] 27)).alloc (.cells #[.int .i64 20, .int .i64 0] 3)) from ⟨by (repeat (first | (refine blk_new _ _ ?_; first | rfl | (simp; done)) | refine blk_alloc_old ?_ _ | refine blk_drew_old ?_ | refine blk_drewN_old ?_ _ | assumption)), by (repeat (first | (refine blk_new _ _ ?_; first | rfl | (simp; done)) | refine blk_alloc_old ?_ _ | refine blk_drew_old ?_ | refine blk_drewN_old ?_ _ | assumption)), by (repeat (first | (refine blk_new _ _ ?_; first | rfl | (simp; done)) | refine blk_alloc_old ?_ _ | refine blk_drew_old ?_ | refine blk_drewN_old ?_ _ | assumption)), below_alloc (below_alloc (below_alloc (Below.refl _ _) _) _) _⟩)
  refine (test_calls _ 6 18 _).mono ?_
  rintro e w1 ⟨rfl, hb⟩
  have HD1 := Aside0.mk (HD0.out.below hb)
  clear hb HD0
  go_wp2_with fail
  refine (test_calls _ 1 1 _).mono ?_
  rintro e w2 ⟨rfl, hb⟩
  have HD2 := Aside0.mk (HD1.out.below hb)
  clear hb HD1
  go_wp2_with fail
  refine (both_calls 4 _ 1 1 _ (Nat.le_refl _)).mono ?_
  rintro e w3 ⟨rfl, hb⟩
  have hz3 : w2.heap.size < w3.heap.size := by have := hb.size; simp at this; omega
  have HD3 := Aside0.mk ((HD2.out.alloc (.cells cT2 24)).below hb)
  have B1 := Aside0.mk (show w3.heap[w2.heap.size]? = some (.cells cT2 24 (0, 0)) from (hb.block _ (by simp)).trans (blk_new _ _ rfl))
  clear hb HD2
  go_wp2_with fail
  refine (both_calls 5 _ 2 2 _ (Nat.le_refl _)).mono ?_
  rintro e w4 ⟨rfl, hb⟩
  have hz4 : w3.heap.size < w4.heap.size := by have := hb.size; simp at this; omega
  have HD4 := Aside0.mk ((HD3.out.alloc (.cells (cK2 w2.heap.size) 24)).below hb)
  have B14 := Aside0.mk (show w4.heap[w2.heap.size]? = some (.cells cT2 24 (0, 0)) from (hb.block _ (by simp; omega)).trans (blk_alloc_old B1.out _))
  have B24 := Aside0.mk (show w4.heap[w3.heap.size]? = some (.cells (cK2 w2.heap.size) 24 (0, 0)) from (hb.block _ (by simp)).trans (blk_new _ _ rfl))
  clear hb HD3 B1
  have HF5 := Aside0.mk (show HFm w (w4.alloc (.cells (cF w3.heap.size) 24)) w2.heap.size w3.heap.size w4.heap.size from ⟨HD4.out.alloc _, blk_alloc_old B14.out _, blk_alloc_old B24.out _, blk_new _ _ rfl⟩)
  clear B14 B24 HD4
  have k0 := blk_cell HF5.out.b3 0
  go_wp2_with fail
  refine (Size_calls hF (some ⟨w3.heap.size, 0, none⟩) 2 _ HF5.out.C (Nat.le_refl _) (by rw [h_size.1]; decide)).mono ?_
  rintro e w6 ⟨rfl, hb⟩
  have HF6 := Aside0.mk (HF5.out.below hb)
  rw [h_size.1, h_size.2]
  clear hb HF5 k0
  have k0 := blk_cell HF6.out.b3 0
  have k1 := blk_cell HF6.out.b3 1
  have k2 := blk_cell HF6.out.b3 2
  have k3 := blk_cell HF6.out.b3 3
  have k4 := blk_cell HF6.out.b3 4
  go_wp2_with fail
  refine (text_top 99 hF (some ⟨w3.heap.size, 0, none⟩) 2 _ HF6.out.C (Nat.le_refl _) (by rw [h_size.1]; decide) h_len.1 (Tab.small _) h_num.1).mono ?_
  rintro e w7 ⟨rfl, hb⟩
  have HF7 := Aside0.mk (HF6.out.below hb)
  rw [h_text]
  clear hb HF6 k0 k1 k2 k3 k4
  go_wp2_with fail
  refine (parse_calls hS1 _ (by decide)).mono ?_
  rintro e w8 ⟨v8, rfl, hR, hb⟩
  rw [h_parse1] at hR ⊢
  obtain ⟨A8, c8, rfl⟩ := Kd.R_slice hR
  have HF8 := Aside0.mk (HF7.out.below hb)
  have HC8 := Aside0.mk (show Kd.C kFm w8 A8 hG.f4.length hG.f4 ∧ hG.f4.length ≤ c8 from by obtain ⟨_, _, he, hl, hC⟩ := Kd.R_reads hR; injection he with h1 h2 h3; subst h1; subst h3; exact ⟨hC, hl⟩)
  clear hR hb HF7
  have HF9 := Aside0.mk (HF8.out.alloc (.cells #[.int .i64 6, .string ⟨#[]⟩, .int .i64 0, .int .i64 0, .slice A8 2 c8] 24))
  have HG9 := Aside0.mk (show (w8.alloc (.cells #[.int .i64 6, .string ⟨#[]⟩, .int .i64 0, .int .i64 0, .slice A8 2 c8] 24)).heap[w8.heap.size]? = some (.cells #[.int .i64 6, .string ⟨#[]⟩, .int .i64 0, .int .i64 0, .slice A8 2 c8] 24 (0, 0)) from blk_new _ _ rfl)
  have HC9 := Aside0.mk (Kd.C_below HC8.out.1 (below_alloc (Below.refl _ _) (.cells #[.int .i64 6, .string ⟨#[]⟩, .int .i64 0, .int .i64 0, .slice A8 2 c8] 24)))
  go_wp2_with fail
  refine (text_top 99 hG A8 c8 _ HC9.out HC8.out.2 h_len.2.2 h_len.2.1 (Tab.small _) h_num.2).mono ?_
  rintro e w10 ⟨rfl, hb⟩
  have HF10 := Aside0.mk (HF9.out.below hb)
  have HG10 := Aside0.mk ((hb.block _ (lt_of_block HG9.out)).trans HG9.out)
  have HC10 := Aside0.mk (Kd.C_below HC9.out hb)
  rw [h_text2]
  clear hb HF8 HF9 HG9 HC9
  go_wp2_with fail
  refine (parse_calls hS2 _ (by decide)).mono ?_
  rintro e w11 ⟨v11, rfl, hR, hb⟩
  rw [h_parse2] at hR ⊢
  obtain ⟨A11, c11, rfl⟩ := Kd.R_slice hR
  have HF11 := Aside0.mk ((HF10.out.below hb).alloc (.cells #[.int .i64 0, .string ⟨#[]⟩, .int .i64 0, .int .i64 0, .slice A11 0 c11] 24))
  have HG11 := Aside0.mk (blk_alloc_old ((hb.block _ (lt_of_block HG10.out)).trans HG10.out) (.cells #[.int .i64 0, .string ⟨#[]⟩, .int .i64 0, .int .i64 0, .slice A11 0 c11] 24))
  have HC11 := Aside0.mk (Kd.C_below (Kd.C_below HC10.out hb) (below_alloc (Below.refl _ _) (.cells #[.int .i64 0, .string ⟨#[]⟩, .int .i64 0, .int .i64 0, .slice A11 0 c11] 24)))
  clear hR hb HF10 HG10 HC10
  go_wp2_with fail
  refine (parse_calls hS3 _ (by decide)).mono ?_
  rintro e w12 ⟨v12, rfl, hR, hb⟩
  rw [h_parse3] at hR ⊢
  obtain ⟨A12, c12, rfl⟩ := Kd.R_slice hR
  have HF12 := Aside0.mk ((HF11.out.below hb).alloc (.cells #[.int .i64 0, .string ⟨#[]⟩, .int .i64 0, .int .i64 0, .slice A12 0 c12] 24))
  have HG12 := Aside0.mk (blk_alloc_old ((hb.block _ (lt_of_block HG11.out)).trans HG11.out) (.cells #[.int .i64 0, .string ⟨#[]⟩, .int .i64 0, .int .i64 0, .slice A12 0 c12] 24))
  have HC12 := Aside0.mk (Kd.C_below (Kd.C_below HC11.out hb) (below_alloc (Below.refl _ _) (.cells #[.int .i64 0, .string ⟨#[]⟩, .int .i64 0, .int .i64 0, .slice A12 0 c12] 24)))
  clear hR hb HF11 HG11 HC11
  go_wp2_with fail
  refine (parse_calls hS4 _ (by decide)).mono ?_
  rintro e w13 ⟨v13, rfl, hR, hb⟩
  rw [h_parse4] at hR ⊢
  obtain ⟨A13, c13, rfl⟩ := Kd.R_slice hR
  have HF13 := Aside0.mk ((HF12.out.below hb).alloc (.cells #[.int .i64 0, .string ⟨#[]⟩, .int .i64 0, .int .i64 0, .slice A13 0 c13] 24))
  have HG13 := Aside0.mk (blk_alloc_old ((hb.block _ (lt_of_block HG12.out)).trans HG12.out) (.cells #[.int .i64 0, .string ⟨#[]⟩, .int .i64 0, .int .i64 0, .slice A13 0 c13] 24))
  have HC13 := Aside0.mk (Kd.C_below (Kd.C_below HC12.out hb) (below_alloc (Below.refl _ _) (.cells #[.int .i64 0, .string ⟨#[]⟩, .int .i64 0, .int .i64 0, .slice A13 0 c13] 24)))
  clear hR hb HF12 HG12 HC12
  have HQ13 := Aside0.mk (show HQ w (w13.alloc (.cells #[.int .i64 z24.f0, .string z24.f1, .int .i64 z24.f2, .int .i64 z24.f3, .slice A13 z24.f4.length c13] 24)) w2.heap.size w3.heap.size w4.heap.size w8.heap.size A8 c8 from ⟨HF13.out, HG13.out, HC13.out, HC8.out.2⟩)
  clear HF13 HG13 HC13 HC8
  go_wp2_with fail
  obtain ⟨W, hW⟩ : ∃ W, w13.alloc (.cells #[.int .i64 z24.f0, .string z24.f1, .int .i64 z24.f2, .int .i64 z24.f3, .slice A13 z24.f4.length c13] 24) = W := ⟨_, rfl⟩
  rw [hW] at HQ13 ⊢
  clear hW
  obtain ⟨k1, hk1⟩ : ∃ k, w2.heap.size = k := ⟨_, rfl⟩
  obtain ⟨k2, hk2⟩ : ∃ k, w3.heap.size = k := ⟨_, rfl⟩
  obtain ⟨g, hg⟩ : ∃ k, w4.heap.size = k := ⟨_, rfl⟩
  obtain ⟨gg, hgg⟩ : ∃ k, w8.heap.size = k := ⟨_, rfl⟩
  rw [hk1, hk2, hg, hgg] at HQ13
  simp only [hk1, hk2, hg, hgg]
  have hS : HSt w k1 k2 g gg A8 c8 W.drew := (HQ13.out.below (below_drew (Below.refl _ _))).st
  go_region_held3 (fun w' => w'.cell? ⟨g, 0, none⟩ = some (.int .i64 5) ∧ w'.cell? ⟨g, 1, none⟩ = some (.string ⟨#[]⟩) ∧ w'.cell? ⟨g, 2, none⟩ = some (.int .i64 0) ∧ w'.cell? ⟨g, 3, none⟩ = some (.int .i64 0) ∧ w'.cell? ⟨g, 4, none⟩ = some (.slice (some ⟨k2, 0, none⟩) 2 2) ∧
    w'.cell? ⟨w.heap.size + 1, 0, none⟩ = some (.slice (some ⟨w.heap.size, 0, none⟩) 2 2) ∧ HQ w w' k1 k2 g gg A8 c8)
    (first | (with_reducible exact hS) | (with_reducible exact keepQ hb (by assumption)) | (refine keepQ ?_ (by assumption); exact below_alloc (Below.refl _ _) _))
    (first
      | (go_at_call 20; refine (hq_holds (hq_of (by with_reducible assumption))).mono ?_; rintro e w' ⟨rfl, hb⟩)
      | (go_at_call 18; with_reducible refine Calls.mono (hq_check1 (hq_of (by assumption))) ?_; rintro e w' ⟨rfl, hb⟩)
      | (go_at_call 18; with_reducible refine Calls.mono (hq_check2 (hq_of (by assumption))) ?_; rintro e w' ⟨rfl, hb⟩)
      | (go_at_call 18; refine (hq_check3 (hq_of (by with_reducible assumption)) hb).mono ?_; rintro e w' ⟨rfl, hb⟩)
      | (go_at_call 32; refine (test_calls _ _ _ _).mono ?_; rintro e w' ⟨rfl, hb⟩)
      | (go_at_call 29; refine (both_calls 5 _ 1 1 _ (Nat.le_refl _)).mono ?_; rintro e w' ⟨rfl, hb⟩))
  rename_i hH
  have HQ14 := Aside0.mk (hq_of hH)
  clear hH hS HQ13
  have e1 : ((ba [119, 101, 105, 103, 104, 116, 32, 62, 61, 32, 49, 56, 32, 97, 110, 100, 32, 110, 111, 116, 32, 117, 115, 101, 100, 32, 61, 32, 49]).toList == [119, 101, 105, 103, 104, 116, 32, 62, 61, 32, 49, 56, 32, 97, 110, 100, 32, 110, 111, 116, 32, 117, 115, 101, 100, 32, 61, 32, 49]) = true := by rw [ByteArray.toList_eq]; rfl
  have e2 : ((ba [97, 32, 61, 32, 49, 32, 97, 110, 100, 32, 98, 32, 61, 32, 50, 32, 111, 114, 32, 99, 32, 61, 32, 51]).toList == [97, 32, 61, 32, 49, 32, 97, 110, 100, 32, 98, 32, 61, 32, 50, 32, 111, 114, 32, 99, 32, 61, 32, 51]) = true := by rw [ByteArray.toList_eq]; rfl
  have k0 := blk_cell HQ14.out.fm.b3 0
  have k1 := blk_cell HQ14.out.fm.b3 1
  have k2 := blk_cell HQ14.out.fm.b3 2
  have k3 := blk_cell HQ14.out.fm.b3 3
  have k4 := blk_cell HQ14.out.fm.b3 4
  go_wp2_with fail
  refine (hq_same1 HQ14.out).mono ?_
  rintro e w15 ⟨rfl, hb⟩
  have HQ15 := Aside0.mk (HQ14.out.below hb)
  clear hb HQ14 k0 k1 k2 k3 k4
  have k0 := blk_cell HQ15.out.fm.b3 0
  have k1 := blk_cell HQ15.out.fm.b3 1
  have k2 := blk_cell HQ15.out.fm.b3 2
  have k3 := blk_cell HQ15.out.fm.b3 3
  have k4 := blk_cell HQ15.out.fm.b3 4
  have l0 := blk_cell HQ15.out.gb 0
  have l1 := blk_cell HQ15.out.gb 1
  have l2 := blk_cell HQ15.out.gb 2
  have l3 := blk_cell HQ15.out.gb 3
  have l4 := blk_cell HQ15.out.gb 4
  go_wp2_with fail
  refine (hq_same2 HQ15.out).mono ?_
  rintro e w16 ⟨rfl, hb⟩
  have HQ16 := Aside0.mk (HQ15.out.below hb)
  clear hb HQ15
  go_wp2
  go_ret
  exact ⟨rfl, HQ16.out.fm.hd.old⟩
end Go.Proofs.YtkgmempifggajaaGreatDoor.P
-- the text YtkgmempifggajaaGreatDoorExt
/- The hand-proved contracts in the form in which the kit's printer words a callee's. -/
namespace Go.Proofs.YtkgmempifggajaaGreatDoor.P
open Go.RowKit Go.Proofs.YtkgmempifggajaaGreatDoorW.PrintWords Go.Proofs.YtkgmempifggajaaGreatDoorW.PrintLast Go.Proofs.YtkgmempifggajaaGreatDoorW.PrintMore
set_option linter.unusedVariables false

def formula_Size.f (a0_0 : Int) (a0_1 : ByteArray) (a0_2 : Int) (a0_3 : Int) (l0_4 : List Fm) : Option (Int × Int) :=
  if size ⟨a0_0, a0_1, a0_2, a0_3, l0_4⟩ ≤ 100000000 then some ((size ⟨a0_0, a0_1, a0_2, a0_3, l0_4⟩ : Int), (depth ⟨a0_0, a0_1, a0_2, a0_3, l0_4⟩ : Int)) else none
theorem formula_Size.calls (a0_0 : Int) (a0_1 : ByteArray) (a0_2 : Int) (a0_3 : Int) (A0_4 : Option Addr) (c0_4 : Nat) (l0_4 : List Fm) (r1 : Int) (r2 : Int) (w : World) (hr0_4 : Kd.C kFm w A0_4 l0_4.length l0_4) (hc0_4 : l0_4.length ≤ c0_4) (h : formula_Size.f a0_0 a0_1 a0_2 a0_3 l0_4 = some (r1, r2)) :
    Calls Tryz.prog 16 #[.agg #[.int .i64 a0_0, .string a0_1, .int .i64 a0_2, .int .i64 a0_3, .slice A0_4 l0_4.length c0_4]] w fun e w' => e = .returned (.tuple #[.int .i64 r1, .int .i64 r2]) ∧ Below w.heap.size w w' := by
  unfold formula_Size.f at h
  split at h
  · rename_i hs
    injection h with h
    injection h with h1 h2
    subst h1
    subst h2
    exact Size_calls ⟨a0_0, a0_1, a0_2, a0_3, l0_4⟩ A0_4 c0_4 w hr0_4 hc0_4 hs
  · cases h

def formula_Check.f (a0_0 : Int) (a0_1 : ByteArray) (a0_2 : Int) (a0_3 : Int) (l0_4 : List Fm) (l1_0 : List Fact) : Option Int :=
  if size ⟨a0_0, a0_1, a0_2, a0_3, l0_4⟩ ≤ 100000000 then some (checkF ⟨a0_0, a0_1, a0_2, a0_3, l0_4⟩ l1_0) else none
theorem formula_Check.calls (a0_0 : Int) (a0_1 : ByteArray) (a0_2 : Int) (a0_3 : Int) (A0_4 : Option Addr) (c0_4 : Nat) (l0_4 : List Fm) (A1_0 : Option Addr) (c1_0 : Nat) (l1_0 : List Fact) (r : Int) (w : World) (hr0_4 : Kd.C kFm w A0_4 l0_4.length l0_4) (hc0_4 : l0_4.length ≤ c0_4) (hr1_0 : Kd.C kFact w A1_0 l1_0.length l1_0) (hc1_0 : l1_0.length ≤ c1_0) (h : formula_Check.f a0_0 a0_1 a0_2 a0_3 l0_4 l1_0 = some r) :
    Calls Tryz.prog 18 #[.agg #[.int .i64 a0_0, .string a0_1, .int .i64 a0_2, .int .i64 a0_3, .slice A0_4 l0_4.length c0_4], .agg #[.slice A1_0 l1_0.length c1_0]] w fun e w' => e = .returned (.int .i64 r) ∧ Below w.heap.size w w' := by
  unfold formula_Check.f at h
  split at h
  · rename_i hs
    injection h with h
    subst h
    exact check_calls ⟨a0_0, a0_1, a0_2, a0_3, l0_4⟩ A0_4 c0_4 l1_0 A1_0 c1_0 w hr0_4 hc0_4 hr1_0 hs
  · cases h

/-- A domain whose size the walks can bear. -/
def okDom (l : List Fact) : Bool := decide (l.length ≤ 1000000000) && l.all (fun f => decide (f.f0.size ≤ 9223372036854775807))
theorem okDom_len {l : List Fact} (h : okDom l = true) : l.length ≤ 1000000000 := by
  unfold okDom at h
  simp only [Bool.and_eq_true, decide_eq_true_eq] at h
  exact h.1
theorem okDom_at {l : List Fact} (h : okDom l = true) (k : Nat) (hk : k < l.length) : l[k].f0.size ≤ 9223372036854775807 := by
  unfold okDom at h
  simp only [Bool.and_eq_true, List.all_eq_true, decide_eq_true_eq] at h
  exact h.2 _ (List.getElem_mem hk)

def fact_Fits.f (l0_0 : List Fact) (l1 : List Int) : Option Bool := if okDom l0_0 = true then some (fitsB l0_0 l1) else none
theorem fact_Fits.calls (A0_0 : Option Addr) (c0_0 : Nat) (l0_0 : List Fact) (A1 : Option Addr) (c1 : Nat) (l1 : List Int) (r : Bool) (w : World) (hr0_0 : Kd.C kFact w A0_0 l0_0.length l0_0) (hc0_0 : l0_0.length ≤ c0_0) (hr1 : Kd.C (Kd.int .i64) w A1 l1.length l1) (hc1 : l1.length ≤ c1) (h : fact_Fits.f l0_0 l1 = some r) :
    Calls Tryz.prog 30 #[.agg #[.slice A0_0 l0_0.length c0_0], .slice A1 l1.length c1] w fun e w' => e = .returned (.bool r) ∧ Below w.heap.size w w' := by
  unfold fact_Fits.f at h
  split at h
  · rename_i hs
    injection h with h
    subst h
    exact fits_calls l0_0 A0_0 c0_0 l1 A1 c1 w hr0_0 hc0_0 hr1 hc1 (okDom_len hs) (okDom_at hs)
  · cases h

end Go.Proofs.YtkgmempifggajaaGreatDoor.P
-- the text YtkgmempifggajaaGreatDoorFLaw
/- What the functions of formula tell, by a formula as one thing. -/
namespace Go.Proofs.YtkgmempifggajaaGreatDoor.P
set_option linter.unusedVariables false
theorem size_fm (x : Fm) (h : size x ≤ 100000000) : formula_Size.f x.f0 x.f1 x.f2 x.f3 x.f4 = some ((size x : Int), (depth x : Int)) := by cases x; exact if_pos h
theorem check_fm (x : Fm) (l : List Fact) (h : size x ≤ 100000000) : formula_Check.f x.f0 x.f1 x.f2 x.f3 x.f4 l = some (checkF x l) := by cases x; exact if_pos h
end Go.Proofs.YtkgmempifggajaaGreatDoor.P
