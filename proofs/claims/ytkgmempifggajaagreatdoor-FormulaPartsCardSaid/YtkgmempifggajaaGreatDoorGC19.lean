/- What the statement's proof builds on: GoParts. -/
import Derived.Test.YtkgmempifggajaaGreatDoorGC17
import Derived.Test.YtkgmempifggajaaGreatDoorGC18
import Derived.Deep.RegionHeld3
-- the text YtkgmempifggajaaGreatDoorGoParts
/- FormulaParts, walked. -/
namespace Go.Proofs.YtkgmempifggajaaGreatDoor.PLawParts
open Go.RowKit Go.Proofs.YtkgmempifggajaaGreatDoorW.PrintWords Go.Proofs.YtkgmempifggajaaGreatDoorW.PrintLast Go.Proofs.YtkgmempifggajaaGreatDoorW.PrintMore
open Go.Proofs.YtkgmempifggajaaGreatDoor.P
set_option linter.unusedVariables false
set_option linter.unusedSimpArgs false

theorem good_room {x : Fm} {l : List Fact} {cs : List Int} (h : PLawFormulaMatters.Good x l cs) : Room x l 60 16 := ⟨h.size, h.depth, (check_first h.check).1⟩
abbrev fmC (x : Fm) (A : Option Addr) (c : Nat) : Array Value := #[.int .i64 x.f0, .string x.f1, .int .i64 x.f2, .int .i64 x.f3, .slice A x.f4.length c]
theorem blk_through {w w1 : World} {k : Nat} {o : Obj} (hb : Below w.heap.size w w1) (h : w.heap[k]? = some o) : w1.heap[k]? = some o := (hb.block _ (lt_of_block h)).trans h
/-- The law's variables. -/
structure PP (w0 w : World) (b1 b2 : Nat) (x : Fm) (l : List Fact) (cs : List Int) (A D E : Option Addr) (c dc ec : Nat) : Prop where
  f : w.heap[b1]? = some (.cells (fmC x A c) 24 (0, 0))
  dom : w.heap[b2]? = some (.cells #[.slice D l.length dc] 27 (0, 0))
  fC : Kd.C kFm w A x.f4.length x.f4
  dC : Kd.C kFact w D l.length l
  eC : Kd.C (Kd.int .i64) w E cs.length cs
  fl : x.f4.length ≤ c
  dl : l.length ≤ dc
  el : cs.length ≤ ec
  old : Below w0.heap.size w0 w
theorem PP.below {w0 w w1 : World} {b1 b2 : Nat} {x : Fm} {l : List Fact} {cs : List Int} {A D E : Option Addr} {c dc ec : Nat} (h : PP w0 w b1 b2 x l cs A D E c dc ec) (hb : Below w.heap.size w w1) : PP w0 w1 b1 b2 x l cs A D E c dc ec :=
  ⟨blk_through hb h.f, blk_through hb h.dom, Kd.C_below h.fC hb, Kd.C_below h.dC hb, Kd.C_below h.eC hb, h.fl, h.dl, h.el, h.old.trans (hb.mono h.old.size)⟩
theorem PP.alloc {w0 w : World} {b1 b2 : Nat} {x : Fm} {l : List Fact} {cs : List Int} {A D E : Option Addr} {c dc ec : Nat} (h : PP w0 w b1 b2 x l cs A D E c dc ec) (o : Obj) : PP w0 (w.alloc o) b1 b2 x l cs A D E c dc ec := h.below (below_alloc (Below.refl _ _) o)
theorem PP.start {w : World} {x : Fm} {l : List Fact} {cs : List Int} {A D E : Option Addr} {c dc ec : Nat} (hA : Kd.C kFm w A x.f4.length x.f4) (hc : x.f4.length ≤ c)
    (hD : Kd.C kFact w D l.length l) (hdc : l.length ≤ dc) (hE : Kd.C (Kd.int .i64) w E cs.length cs) (hec : cs.length ≤ ec) :
    PP w ((w.alloc (.cells (fmC x A c) 24)).alloc (.cells #[.slice D l.length dc] 27)) w.heap.size (w.heap.size + 1) x l cs A D E c dc ec := by
  have hb := below_alloc (below_alloc (Below.refl w.heap.size w) (.cells (fmC x A c) 24)) (.cells #[.slice D l.length dc] 27)
  exact ⟨by (repeat (first | (refine blk_new _ _ ?_; first | rfl | (simp; done)) | refine blk_alloc_old ?_ _ | refine blk_drew_old ?_ | refine blk_drewN_old ?_ _ | assumption)), by (repeat (first | (refine blk_new _ _ ?_; first | rfl | (simp; done)) | refine blk_alloc_old ?_ _ | refine blk_drew_old ?_ | refine blk_drewN_old ?_ _ | assumption)), Kd.C_below hA hb, Kd.C_below hD hb, Kd.C_below hE hb, hc, hdc, hec, hb⟩
theorem two_C {w : World} {k : Nat} {x y : Fm} {A B : Option Addr} {c d : Nat} {t : TypeId} (hk : w.heap[k]? = some (.cells #[.int .i64 x.f0, .string x.f1, .int .i64 x.f2, .int .i64 x.f3, .slice A x.f4.length c, .int .i64 y.f0, .string y.f1, .int .i64 y.f2, .int .i64 y.f3, .slice B y.f4.length d] t (0, 0)))
    (hA : Kd.C kFm w A x.f4.length x.f4) (hc : x.f4.length ≤ c) (hB : Kd.C kFm w B y.f4.length y.f4) (hd : y.f4.length ≤ d) :
    Kd.C kFm w (some ⟨k, 0, none⟩) ([x, y] : List Fm).length [x, y] := by
  refine fms_C hk [x, y] (by simp) (fun j hj => ?_)
  rcases (show j = 0 ∨ j = 1 by simp at hj; omega) with rfl | rfl
  · refine ⟨A, c, hc, hA, fun i u hu => ?_⟩
    have hi : i < 5 := by
      have := (List.getElem?_eq_some_iff.1 hu).1
      simpa using this
    rcases (show i = 0 ∨ i = 1 ∨ i = 2 ∨ i = 3 ∨ i = 4 by omega) with rfl | rfl | rfl | rfl | rfl <;> simpa using hu
  · refine ⟨B, d, hd, hB, fun i u hu => ?_⟩
    have hi : i < 5 := by
      have := (List.getElem?_eq_some_iff.1 hu).1
      simpa using this
    rcases (show i = 0 ∨ i = 1 ∨ i = 2 ∨ i = 3 ∨ i = 4 by omega) with rfl | rfl | rfl | rfl | rfl <;> simpa using hu
theorem one_C {w : World} {k : Nat} {x : Fm} {A : Option Addr} {c : Nat} {t : TypeId} (hk : w.heap[k]? = some (.cells #[.int .i64 x.f0, .string x.f1, .int .i64 x.f2, .int .i64 x.f3, .slice A x.f4.length c] t (0, 0))) (hA : Kd.C kFm w A x.f4.length x.f4) (hc : x.f4.length ≤ c) :
    Kd.C kFm w (some ⟨k, 0, none⟩) ([x] : List Fm).length [x] := by
  refine fms_C hk [x] (by simp) (fun j hj => ?_)
  obtain rfl : j = 0 := by simp at hj; omega
  refine ⟨A, c, hc, hA, fun i u hu => ?_⟩
  simpa using hu
theorem keepK {w0 w1 w2 : World} {b1 b2 : Nat} {x : Fm} {l : List Fact} {cs : List Int} {A D E : Option Addr} {c dc ec : Nat} {a0 a1 a2 a3 a4 a5 a6 : Addr} {v0 v1 v2 v3 v4 v5 v6 : Value} (hb : Below w1.heap.size w1 w2)
    (h : w1.cell? a5 = some v5 ∧ w1.cell? a6 = some v6 ∧ w1.cell? a0 = some v0 ∧ w1.cell? a1 = some v1 ∧ w1.cell? a2 = some v2 ∧ w1.cell? a3 = some v3 ∧ w1.cell? a4 = some v4 ∧ PP w0 w1 b1 b2 x l cs A D E c dc ec) :
    w2.cell? a5 = some v5 ∧ w2.cell? a6 = some v6 ∧ w2.cell? a0 = some v0 ∧ w2.cell? a1 = some v1 ∧ w2.cell? a2 = some v2 ∧ w2.cell? a3 = some v3 ∧ w2.cell? a4 = some v4 ∧ PP w0 w2 b1 b2 x l cs A D E c dc ec :=
  ⟨cell_step hb h.1, cell_step hb h.2.1, cell_step hb h.2.2.1, cell_step hb h.2.2.2.1, cell_step hb h.2.2.2.2.1, cell_step hb h.2.2.2.2.2.1, cell_step hb h.2.2.2.2.2.2.1, h.2.2.2.2.2.2.2.below hb⟩
set_option maxHeartbeats 8000000 in
set_option maxRecDepth 100000 in
theorem parts_walk (k : Nat) (x : Fm) (l : List Fact) (cs : List Int) (op : Int) (A D E : Option Addr) (c dc ec : Nat) (w : World) (s1 : Bool)
    (hA : Kd.C kFm w A x.f4.length x.f4) (hc : x.f4.length ≤ c) (hD : Kd.C kFact w D l.length l) (hdc : l.length ≤ dc) (hE : Kd.C (Kd.int .i64) w E cs.length cs) (hec : cs.length ≤ ec)
    (h1 : PLawFormulaMatters.customhouselaw25_good.f k x.f0 x.f1 x.f2 x.f3 x.f4 l cs = some s1) (g1 : s1 = true → PLawFormulaMatters.Good x l cs) :
    Calls Tryz.prog 9 #[.agg (fmC x A c), .agg #[.slice D l.length dc], .slice E cs.length ec, .int .i64 op] w fun e w' => e = .returned (.bool true) ∧ Below w.heap.size w w' := by
  have hm : x.f4.length ≤ 9223372036854775807 := hA.2.1
  have HP := Aside0.mk (PP.start hA hc hD hdc hE hec)
  have H1 := Aside0.mk h1
  clear hA hD hE h1
  go_enter Tryz.func9, Tryz.ntmps9
  go_wp2_with fail
  refine (head_calls _).mono ?_
  rintro e w1 ⟨rfl, hb⟩
  replace HP := Aside0.mk (HP.out.below hb)
  clear hb
  have c0 := blk_cell HP.out.f 0
  have c1 := blk_cell HP.out.f 1
  have c2 := blk_cell HP.out.f 2
  have c3 := blk_cell HP.out.f 3
  have c4 := blk_cell HP.out.f 4
  have e0 := blk_cell HP.out.dom 0
  go_wp2_with fail
  refine (PLawFormulaMatters.customhouselaw25_good.calls k x.f0 x.f1 x.f2 x.f3 A c x.f4 D dc l E ec cs s1 _ HP.out.fC HP.out.fl HP.out.dC HP.out.dl HP.out.eC HP.out.el H1.out).mono ?_
  rintro e w2 ⟨rfl, hb⟩
  replace HP := Aside0.mk (HP.out.below hb)
  clear hb c0 c1 c2 c3 c4 e0
  cases s1
  · go_wp2
    go_ret
    exact ⟨rfl, HP.out.old⟩
  have G1 := Aside0.mk (g1 (by trivial))
  have R1 := Aside0.mk (good_room G1.out)
  have OK := Aside0.mk (PLawFormulaMatters.few_ok G1.out.few)
  have SZ := Aside0.mk (show size x = 1 + sizes x.f4 from size_eq x)
  have hc4 := blk_cell HP.out.f 4
  go_wp2
  go_loopw [10] (fun v10 wr => ∃ q : Nat, q ≤ x.f4.length ∧ v10 = .int .i64 q ∧ Aside0 (PP w wr w.heap.size (w.heap.size + 1) x l cs A D E c dc ec)) (fun v10 _ => x.f4.length - (intOf v10).toNat)
  case atStart => exact ⟨0, Nat.zero_le _, rfl, HP⟩
  case round =>
    obtain ⟨q, hq, rfl, HW⟩ := hrel
    clear hc4
    by_cases hlt : q < x.f4.length
    · obtain ⟨ad, A4, d4, rfl, k0, k1, k2, k3, k4, l4, C4⟩ := fm_atC HW.out.fC q hlt
      have HC4 := Aside0.mk C4
      have HCK := Aside0.mk (kid_check G1.out.check G1.out.size G1.out.depth q hlt)
      have HSZ := Aside0.mk (size_mem x.f4 q hlt)
      clear C4
      have hc4 := blk_cell HW.out.f 4
      have e0 := blk_cell HW.out.dom 0
      go_wp2_with fail
      have hPd := HW.out.below (below_drew (Below.refl _ _))
      have HBw := Aside0.mk (below_drew (Below.refl wr.heap.size wr))
      have hS : wr.drew.cell? ⟨w.heap.size, 4, none⟩ = some (.slice (some ad) x.f4.length c) ∧ wr.drew.cell? ⟨w.heap.size + 1, 0, none⟩ = some (.slice D l.length dc) ∧ wr.drew.cell? (ad.add (q * 5)) = some (.int .i64 x.f4[q].f0) ∧ wr.drew.cell? ⟨(ad.add (q * 5)).block, (ad.add (q * 5)).off + 1, none⟩ = some (.string x.f4[q].f1) ∧ wr.drew.cell? ⟨(ad.add (q * 5)).block, (ad.add (q * 5)).off + 2, none⟩ = some (.int .i64 x.f4[q].f2) ∧ wr.drew.cell? ⟨(ad.add (q * 5)).block, (ad.add (q * 5)).off + 3, none⟩ = some (.int .i64 x.f4[q].f3) ∧ wr.drew.cell? ⟨(ad.add (q * 5)).block, (ad.add (q * 5)).off + 4, none⟩ = some (.slice A4 x.f4[q].f4.length d4) ∧ PP w wr.drew w.heap.size (w.heap.size + 1) x l cs (some ad) D E c dc ec := keepK HBw.out ⟨hc4, e0, k0, k1, k2, k3, k4, HW.out⟩
      go_region_held3 (fun w' => w'.cell? ⟨w.heap.size, 4, none⟩ = some (.slice (some ad) x.f4.length c) ∧ w'.cell? ⟨w.heap.size + 1, 0, none⟩ = some (.slice D l.length dc) ∧
          w'.cell? (ad.add (q * 5)) = some (.int .i64 x.f4[q].f0) ∧ w'.cell? ⟨(ad.add (q * 5)).block, (ad.add (q * 5)).off + 1, none⟩ = some (.string x.f4[q].f1) ∧ w'.cell? ⟨(ad.add (q * 5)).block, (ad.add (q * 5)).off + 2, none⟩ = some (.int .i64 x.f4[q].f2) ∧ w'.cell? ⟨(ad.add (q * 5)).block, (ad.add (q * 5)).off + 3, none⟩ = some (.int .i64 x.f4[q].f3) ∧ w'.cell? ⟨(ad.add (q * 5)).block, (ad.add (q * 5)).off + 4, none⟩ = some (.slice A4 x.f4[q].f4.length d4) ∧ PP w w' w.heap.size (w.heap.size + 1) x l cs (some ad) D E c dc ec)
        (first | (with_reducible exact hS) | (with_reducible exact keepK hb (by assumption)))
        (first
          | (go_at_call 18; refine (check_calls x.f4[q] A4 d4 l D dc _ (Kd.C_below HC4.out HBw.out) l4 hPd.dC (by have := HSZ.out; have := SZ.out; have := G1.out.size; omega)).mono ?_; rw [HCK.out]; rintro e' w' ⟨rfl, hb⟩))
      rename_i hH
      have HW2 := Aside0.mk hH.2.2.2.2.2.2.2
      clear hH hS hPd k0 k1 k2 k3 k4 hc4 e0
      go_wp2
      go_roundw
      case rel => exact ⟨q + 1, by omega, by go_num, HW2⟩
      case measure => simp [intOf]; omega
    · have c0 := blk_cell HW.out.f 0
      have c1 := blk_cell HW.out.f 1
      have c2 := blk_cell HW.out.f 2
      have c3 := blk_cell HW.out.f 3
      have c4 := blk_cell HW.out.f 4
      go_wp2_with fail
      refine (both_calls 6 _ 2 2 _ (Nat.le_refl _)).mono ?_
      rintro e w3 ⟨rfl, hb⟩
      have hz := hb.size
      simp at hz
      obtain ⟨y, hy⟩ : ∃ y : Fm, (⟨op, ⟨#[]⟩, 7, 0, []⟩ : Fm) = y := ⟨_, rfl⟩
      have HK := Aside0.mk (show (w3.alloc (.cells #[.int .i64 6, .string ⟨#[]⟩, .int .i64 0, .int .i64 0, .slice (some ⟨wr.heap.size, 0, none⟩) 2 2] 24)).heap[wr.heap.size]? = some (.cells #[.int .i64 x.f0, .string x.f1, .int .i64 x.f2, .int .i64 x.f3, .slice A x.f4.length c, .int .i64 op, .string ⟨#[]⟩, .int .i64 7, .int .i64 0, .slice none 0 0] 24 (0, 0)) from
        blk_alloc_old ((hb.block _ (by simp)).trans (blk_new _ _ rfl)) _)
      replace HW := Aside0.mk (HW.out.below (below_then (below_alloc (Below.refl wr.heap.size wr) (.cells #[.int .i64 x.f0, .string x.f1, .int .i64 x.f2, .int .i64 x.f3, .slice A x.f4.length c, .int .i64 op, .string ⟨#[]⟩, .int .i64 7, .int .i64 0, .slice none 0 0] 24)) (by simp) (below_alloc hb (.cells #[.int .i64 6, .string ⟨#[]⟩, .int .i64 0, .int .i64 0, .slice (some ⟨wr.heap.size, 0, none⟩) 2 2] 24))))
      have HN := Aside0.mk (show (w3.alloc (.cells #[.int .i64 6, .string ⟨#[]⟩, .int .i64 0, .int .i64 0, .slice (some ⟨wr.heap.size, 0, none⟩) 2 2] 24)).heap[w3.heap.size]? = some (.cells #[.int .i64 6, .string ⟨#[]⟩, .int .i64 0, .int .i64 0, .slice (some ⟨wr.heap.size, 0, none⟩) 2 2] 24 (0, 0)) from blk_new _ _ rfl)
      have HR := Aside0.mk (two_C (x := x) (y := ⟨op, ⟨#[]⟩, 7, 0, []⟩) HK.out HW.out.fC HW.out.fl (fms_nil _) (Nat.le_refl _))
      clear hb c0 c1 c2 c3 c4 HK hz hy
      have n0 := blk_cell HN.out 0
      have n1 := blk_cell HN.out 1
      have n2 := blk_cell HN.out 2
      have n3 := blk_cell HN.out 3
      have n4 := blk_cell HN.out 4
      have e0 := blk_cell HW.out.dom 0
      have BS := beside_size x op
      have sz := G1.out.size
      go_wp2_with fail
      refine (check_calls (besideFm x op) (some ⟨wr.heap.size, 0, none⟩) 2 l D dc _ HR.out (Nat.le_refl _) HW.out.dC (by omega)).mono ?_
      rw [beside_check op R1.out]
      rintro e w4 ⟨rfl, hb⟩
      replace HW := Aside0.mk (HW.out.below hb)
      replace HR := Aside0.mk (Kd.C_below HR.out hb)
      replace HN := Aside0.mk (blk_through hb HN.out)
      clear hb n0 n1 n2 n3 n4 e0
      have n0 := blk_cell HN.out 0
      have n1 := blk_cell HN.out 1
      have n2 := blk_cell HN.out 2
      have n3 := blk_cell HN.out 3
      have n4 := blk_cell HN.out 4
      have e0 := blk_cell HW.out.dom 0
      go_wp2_with fail
      refine (holds_calls (besideFm x op) (some ⟨wr.heap.size, 0, none⟩) 2 l D dc cs E ec _ HR.out (Nat.le_refl _) HW.out.dC HW.out.dl HW.out.eC HW.out.el (by omega) (okDom_len OK.out) (okDom_at OK.out)).mono ?_
      rw [beside_holds op R1.out]
      rintro e w5 ⟨rfl, hb⟩
      replace HW := Aside0.mk (HW.out.below hb)
      clear hb n0 n1 n2 n3 n4 e0 HR HN
      have c0 := blk_cell HW.out.f 0
      have c1 := blk_cell HW.out.f 1
      have c2 := blk_cell HW.out.f 2
      have c3 := blk_cell HW.out.f 3
      have c4 := blk_cell HW.out.f 4
      by_cases h3 : x.f0 = 3
      · have b3 : (x.f0 == 3) = true := by rw [h3]; rfl
        have HAA := Aside0.mk ((HW.out.alloc (.cells #[.int .i64 3, .string x.f1, .int .i64 x.f2, .int .i64 x.f3, .slice (some ⟨w5.heap.size + 1, 0, none⟩) 1 1] 24)).alloc (.cells #[.int .i64 1, .string ⟨#[]⟩, .int .i64 0, .int .i64 0, .slice none 0 0] 24))
        have HCK := Aside0.mk (test_kids (l := l) h3)
        rw [h3] at HCK
        have HRB := Aside0.mk (show ((w5.alloc (.cells #[.int .i64 3, .string x.f1, .int .i64 x.f2, .int .i64 x.f3, .slice (some ⟨w5.heap.size + 1, 0, none⟩) 1 1] 24)).alloc (.cells #[.int .i64 1, .string ⟨#[]⟩, .int .i64 0, .int .i64 0, .slice none 0 0] 24)).heap[w5.heap.size + 1]? = some (.cells #[.int .i64 1, .string ⟨#[]⟩, .int .i64 0, .int .i64 0, .slice none 0 0] 24 (0, 0)) by (repeat (first | (refine blk_new _ _ ?_; first | rfl | (simp; done)) | refine blk_alloc_old ?_ _ | refine blk_drew_old ?_ | refine blk_drewN_old ?_ _ | assumption)))
        have e0 := blk_cell HAA.out.dom 0
        go_wp2_with fail
        refine (check_calls ⟨3, x.f1, x.f2, x.f3, [⟨1, ⟨#[]⟩, 0, 0, []⟩]⟩ (some ⟨w5.heap.size + 1, 0, none⟩) 1 l D dc _ (one_C (x := ⟨1, ⟨#[]⟩, 0, 0, []⟩) HRB.out (fms_nil _) (Nat.le_refl _)) (Nat.le_refl _) HAA.out.dC (by rw [size_eq]; show 1 + (size (⟨1, ⟨#[]⟩, 0, 0, []⟩ : Fm) + 0) ≤ _; rw [size_eq]; show 1 + (1 + 0 + 0) ≤ _; omega)).mono ?_
        rw [HCK.out]
        rintro e w6 ⟨rfl, hb⟩
        have HZ := Aside0.mk (HAA.out.below hb)
        clear hb
        go_wp2
        go_ret
        exact ⟨rfl, HZ.out.old⟩
      · have b3 : (x.f0 == 3) = false := beq_eq_false_iff_ne.2 h3
        have HA1 := Aside0.mk (HW.out.alloc (.cells #[.int .i64 x.f0, .string ⟨#[97]⟩, .int .i64 x.f2, .int .i64 x.f3, .slice A x.f4.length c] 24))
        have HAA := Aside0.mk (HA1.out.alloc (.cells #[.int .i64 x.f0, .string x.f1, .int .i64 x.f2, .int .i64 1, .slice A x.f4.length c] 24))
        have d0 := blk_cell HA1.out.f 0
        have d1 := blk_cell HA1.out.f 1
        have d2 := blk_cell HA1.out.f 2
        have d3 := blk_cell HA1.out.f 3
        have d4 := blk_cell HA1.out.f 4
        have e0 := blk_cell HAA.out.dom 0
        have sz1 : size (⟨x.f0, ⟨#[97]⟩, x.f2, x.f3, x.f4⟩ : Fm) ≤ 100000000 := by rw [size_eq] at sz ⊢; show 1 + sizes x.f4 ≤ _; omega
        have sz2 : size (⟨x.f0, x.f1, x.f2, 1, x.f4⟩ : Fm) ≤ 100000000 := by rw [size_eq] at sz ⊢; show 1 + sizes x.f4 ≤ _; omega
        go_wp2_with fail
        refine (check_calls ⟨x.f0, ⟨#[97]⟩, x.f2, x.f3, x.f4⟩ A c l D dc _ HAA.out.fC HAA.out.fl HAA.out.dC sz1).mono ?_
        rw [name_kids R1.out h3]
        rintro e w6 ⟨rfl, hb⟩
        have HNB := Aside0.mk (show w6.heap[w5.heap.size + 1]? = some (.cells #[.int .i64 x.f0, .string x.f1, .int .i64 x.f2, .int .i64 1, .slice A x.f4.length c] 24 (0, 0)) from blk_through hb (by (repeat (first | (refine blk_new _ _ ?_; first | rfl | (simp; done)) | refine blk_alloc_old ?_ _ | refine blk_drew_old ?_ | refine blk_drewN_old ?_ _ | assumption))))
        have HZ := Aside0.mk (HAA.out.below hb)
        clear hb d0 d1 d2 d3 d4 e0 c0 c1 c2 c3 c4
        have n0 := blk_cell HNB.out 0
        have n1 := blk_cell HNB.out 1
        have n2 := blk_cell HNB.out 2
        have n3 := blk_cell HNB.out 3
        have n4 := blk_cell HNB.out 4
        have e0 := blk_cell HZ.out.dom 0
        go_wp2_with fail
        refine (check_calls ⟨x.f0, x.f1, x.f2, 1, x.f4⟩ A c l D dc _ HZ.out.fC HZ.out.fl HZ.out.dC sz2).mono ?_
        rw [num_kids R1.out h3]
        rintro e w7 ⟨rfl, hb⟩
        have HY := Aside0.mk (HZ.out.below hb)
        clear hb n0 n1 n2 n3 n4 e0
        go_wp2
        go_ret
        exact ⟨rfl, HY.out.old⟩
theorem parts_card {w : World} (x : Fm) (hx : Held x) (A : Option Addr) (c : Nat) (hA : Kd.C kFm w A x.f4.length x.f4) (hc : x.f4.length ≤ c) (l : List Fact) (hl : l.length ≤ 9223372036854775807) (_ : ∀ y ∈ l, HeldFact y) (D : Option Addr) (dc : Nat) (hD : Kd.C kFact w D l.length l) (hdc : l.length ≤ dc)
    (cs : List Int) (_ : cs.length ≤ 9223372036854775807) (_ : ∀ y ∈ cs, (Lit.int .i64 y).wf = true) (E : Option Addr) (ec : Nat) (hE : Kd.C (Kd.int .i64) w E cs.length cs) (hec : cs.length ≤ ec) (op : Int) (_ : (Lit.int .i64 op).wf = true) (_ : World) :
    Calls Tryz.prog 9 #[.agg (fmC x A c), .agg #[.slice D l.length dc], .slice E cs.length ec, .int .i64 op] w fun e w' => e = .returned (.bool true) ∧ Below w.heap.size w w' := by
  obtain ⟨b, g1, g2⟩ := PLawFormulaMatters.good_tells hx.low l cs hl
  obtain ⟨k, hk⟩ := g1.run
  exact parts_walk k x l cs op A D E c dc ec w b hA hc hD hdc hE hec hk g2
end Go.Proofs.YtkgmempifggajaaGreatDoor.PLawParts
