/- What the statement's proof builds on: RdO, RdP. -/
import Derived.Test.YtkgmempifggajaaGreatDoorGF15
import Derived.Test.YtkgmempifggajaaGreatDoorGF17
import Derived.Deep.RegionHeld3
import Derived.Deep.DeepCutAuto
/- The reference's (*Reader).not at a test. (Printed by wip/tools/gen_rtest.py.) -/
namespace Go.Proofs.YtkgmempifggajaaGreatDoor.P
open Go.RowKit Go.Proofs.YtkgmempifggajaaGreatDoorW.PrintWords Go.Proofs.YtkgmempifggajaaGreatDoorW.PrintLast Go.Proofs.YtkgmempifggajaaGreatDoorW.PrintMore
set_option linter.unusedVariables false
set_option linter.unusedSimpArgs false
variable {Z : RZ}
theorem rkey (s : ByteArray) : PLawFormulaTextsAsReference.customhouseref25_Key.f s = some (isKey s) := by
 have e : isKey s = ((s.toList == [111, 114]) || ((s.toList == [97, 110, 100]) || ((s.toList == [110, 111, 116]) || ((s.toList == [116, 114, 117, 101]) || (s.toList == [102, 97, 108, 115, 101]))))) := by
  unfold isKey keyWords
  simp only [List.any_cons, List.any_nil, Bool.or_false]
  simp only [ByteArray.toList_eq]
 rw [e]
 unfold PLawFormulaTextsAsReference.customhouseref25_Key.f
 generalize s.toList = q
 by_cases h1 : q = [111, 114]
 ·subst h1; rfl
 by_cases h2 : q = [97, 110, 100]
 ·subst h2; rfl
 by_cases h3 : q = [110, 111, 116]
 ·subst h3; rfl
 by_cases h4 : q = [116, 114, 117, 101]
 ·subst h4; rfl
 rw [if_neg h1, if_neg h2, if_neg h3, if_neg h4, beq_eq_false_iff_ne.2 h1, beq_eq_false_iff_ne.2 h2, beq_eq_false_iff_ne.2 h3, beq_eq_false_iff_ne.2 h4]
 rfl
theorem comparisons_ (w : World) : Calls Tryz.prog 75 #[] w fun e w' => ∃ A c, e = .returned (.slice A 7 c) ∧ (∀ k : Nat, k < 7 → ∃ ad, A = some ad ∧ w'.cell? (ad.add k) = some (.string (symB.getD k ⟨#[]⟩))) ∧ Below w.heap.size w w' := by
 refine (PLawFormulaTextsAsReference.customhouseref25_comparisons.calls symB w rfl).mono ?_
 rintro e w' ⟨v, rfl, hR, hb⟩
 obtain ⟨A, c, rfl⟩ := Kd.R_slice hR
 refine ⟨A, c, rfl, fun k hk => ?_, hb⟩
 obtain ⟨ad, e, h⟩ := Kd.at_string (Kd.R_reads' hR).2.2 (k : Int) (by omega) (by show (k : Int) < (7 : Nat); omega)
 refine ⟨ad, e, ?_⟩
 rw [show (k : Int).toNat = k by omega] at h
 rw [h]
 match k, hk with
 | 0, _ => rfl
 | 1, _ => rfl
 | 2, _ => rfl
 | 3, _ => rfl
 | 4, _ => rfl
 | 5, _ => rfl
 | 6, _ => rfl
structure RT (Z : RZ) (w0 w : World) (b : Nat) (n : Int) (s : PS) (g : Nat) (t : Tok) (g2 : Nat) (tx : ByteArray) (cm nv : Int) : Prop where
 rn : RN Z w0 w b n s g t
 box : w.heap[g2]? = some (.cells #[.int .i64 3, .string tx, .int .i64 cm, .int .i64 nv, .slice none 0 0] 24 (0, 0))
 hg2 : g < g2
namespace RT
variable {w0 w w1 : World} {b g g2 : Nat} {n cm nv : Int} {s s' : PS} {t : Tok} {tx : ByteArray}
theorem below (h : RT Z w0 w b n s g t g2 tx cm nv) (hb : Below w.heap.size w w1) : RT Z w0 w1 b n s g t g2 tx cm nv := ⟨h.rn.below hb, (hb.block _ (lt_of_block h.box)).trans h.box, h.hg2⟩
theorem step (h : RT Z w0 w b n s g t g2 tx cm nv) (hp : IsR Z w1 b n s') (hs : Same (OnlyP b) w w1) : RT Z w0 w1 b n s' g t g2 tx cm nv :=
 ⟨h.rn.step hp hs, (hs.block _ (lt_of_block h.box) (by have := h.rn.ahead; have := h.rn.hg; have := h.hg2; unfold OnlyP; omega)).trans h.box, h.hg2⟩
theorem settok (h : RT Z w0 w b n s g t g2 tx cm nv) (u : Tok) : RT Z w0 ((((w.setCell ⟨g, 0, none⟩ (.int .i64 u.f0)).setCell ⟨g, 1, none⟩ (.int .i64 u.f1)).setCell ⟨g, 2, none⟩ (.int .i64 u.f2)).setCell ⟨g, 3, none⟩ (.string u.f3)) b n s g u g2 tx cm nv :=
 ⟨h.rn.settok u, (put4_other _ _ _ _ _ _ (by have := h.hg2; omega)).trans h.box, h.hg2⟩
theorem rnput (h : RN Z w0 w b n s g t) (i : Nat) (v : Value) (hg : g < g2) : RN Z w0 (w.setCell ⟨g2, i, none⟩ v) b n s g t := by
 have h1 := h.ahead
 have h2 := h.hg
 have ho : ∀ k, k ≠ g2 → (w.setCell ⟨g2, i, none⟩ v).heap[k]? = w.heap[k]? := fun k hk => Below.heap_setCell _ _ _ _ hk
 exact ⟨(ho _ (by omega)).trans h.res, h.par.keep (fun k hk => ho _ (by omega)), h.old.setNew (p := ⟨g2, i, none⟩) (by show w0.heap.size ≤ g2; omega) _, h1, h2, (ho _ (by omega)).trans h.tok⟩
theorem setcmp (h : RT Z w0 w b n s g t g2 tx cm nv) (c : Int) : RT Z w0 (w.setCell ⟨g2, 2, none⟩ (.int .i64 c)) b n s g t g2 tx c nv := ⟨rnput h.rn 2 _ h.hg2, blk_put h.box 2 _ rfl, h.hg2⟩
theorem setn (h : RT Z w0 w b n s g t g2 tx cm nv) (c : Int) : RT Z w0 (w.setCell ⟨g2, 3, none⟩ (.int .i64 c)) b n s g t g2 tx cm c := ⟨rnput h.rn 3 _ h.hg2, blk_put h.box 3 _ rfl, h.hg2⟩
end RT
theorem cmpTo_no {tx : ByteArray} {k : Nat} (h : (tx.toList == (symB.getD k ⟨#[]⟩).toList) = false) : cmpTo tx (k + 1) = cmpTo tx k := by
 show (if k ≠ 0 ∧ (tx.toList == (symB.getD k ⟨#[]⟩).toList) = true then (k : Int) else cmpTo tx k) = _
 rw [if_neg (fun hh => by rw [h] at hh; exact absurd hh.2 (by decide))]
theorem cmpTo_yes {tx : ByteArray} {k : Nat} (h0 : 1 ≤ k) (h : (tx.toList == (symB.getD k ⟨#[]⟩).toList) = true) : cmpTo tx (k + 1) = k := by
 show (if k ≠ 0 ∧ (tx.toList == (symB.getD k ⟨#[]⟩).toList) = true then (k : Int) else cmpTo tx k) = _
 rw [if_pos ⟨by omega, h⟩]
theorem rt_cells {w0 w : World} {b g g2 : Nat} {n cm nv : Int} {s : PS} {t : Tok} {tx : ByteArray} (h : RT Z w0 w b n s g t g2 tx cm nv) :
  w.cell? ⟨g, 0, none⟩ = some (.int .i64 t.f0) ∧ w.cell? ⟨g, 3, none⟩ = some (.string t.f3) ∧ RT Z w0 w b n s g t g2 tx cm nv := ⟨blk_cell h.rn.tok 0, blk_cell h.rn.tok 3, h⟩
theorem RT.done {w0 w : World} {b g g2 : Nat} {n cm nv : Int} {s : PS} {t : Tok} {tx : ByteArray} (h : RT Z w0 w b n s g t g2 tx cm nv) :
  (((((w.setCell ⟨w0.heap.size, 0, none⟩ (.int .i64 3)).setCell ⟨w0.heap.size, 1, none⟩ (.string tx)).setCell ⟨w0.heap.size, 2, none⟩ (.int .i64 cm)).setCell ⟨w0.heap.size, 3, none⟩ (.int .i64 nv)).setCell ⟨w0.heap.size, 4, none⟩ (.slice none 0 0)).heap[w0.heap.size]? = some (.cells #[.int .i64 3, .string tx, .int .i64 cm, .int .i64 nv, .slice none 0 0] 24 (0, 0)) ∧
  RPost Z b n w0 ⟨3, tx, cm, nv, []⟩ s (.returned (.agg #[.int .i64 3, .string tx, .int .i64 cm, .int .i64 nv, .slice none 0 0])) (((((w.setCell ⟨w0.heap.size, 0, none⟩ (.int .i64 3)).setCell ⟨w0.heap.size, 1, none⟩ (.string tx)).setCell ⟨w0.heap.size, 2, none⟩ (.int .i64 cm)).setCell ⟨w0.heap.size, 3, none⟩ (.int .i64 nv)).setCell ⟨w0.heap.size, 4, none⟩ (.slice none 0 0)) :=
 h.rn.done ⟨3, tx, cm, nv, []⟩ none 0 (Kd.R_nil _ _ _ _ _)
set_option maxHeartbeats 4000000 in
set_option maxRecDepth 100000 in
theorem rnot_test_key (b : Nat) (n : Int) (s : PS) (t : Tok) (s1 : PS) (ht : takeP n s = (t, s1)) (h1 : t.f0 = 1) (hk : isKey t.f3 = true) (n1 : t.f3.toList ≠ lNot) (n2 : t.f3.toList ≠ lTrue) (n3 : t.f3.toList ≠ lFalse) (w : World) (h : IsR Z w b n s) :
  Calls Tryz.prog 107 #[.pointer (some ⟨b, 0, none⟩)] w (RPost Z b n w (rtestP n t.f3 (failP 5 t.f1 s1)).1 (rtestP n t.f3 (failP 5 t.f1 s1)).2) := by
 have hlt := h.lt
 have HT := Aside0.mk ht
 have H := Aside0.mk h
 obtain ⟨kd, at_, num, tx⟩ := t
 simp only at h1 hk n1 n2 n3 ⊢
 clear h ht
 have c1 : (kd == 1) = true := by simp [h1]
 have c1n : (kd != 1) = false := by simp [h1]
 have c4 : (kd == 4) = false := by simp [h1]
 have d1 : (tx.toList == [110, 111, 116]) = false := beq_eq_false_iff_ne.2 n1
 have d2 : (tx.toList == [116, 114, 117, 101]) = false := beq_eq_false_iff_ne.2 n2
 have d3 : (tx.toList == [102, 97, 108, 115, 101]) = false := beq_eq_false_iff_ne.2 n3
 clear h1 n1 n2 n3
 obtain ⟨sA, hA⟩ : ∃ q, failP 5 at_ s1 = q := ⟨_, rfl⟩
 rw [hA]
 have HA := Aside0.mk hA
 clear hA
 obtain ⟨⟨⟨ku, au, nu, tu⟩, s2⟩, hu⟩ : ∃ q, takeP n sA = q := ⟨_, rfl⟩
 obtain ⟨cm, hcm⟩ : ∃ q, (if ku = 4 then cmpTo tu 7 else 0) = q := ⟨_, rfl⟩
 obtain ⟨s3, h3⟩ : ∃ q, (if cm = 0 then failP 5 au s2 else s2) = q := ⟨_, rfl⟩
 obtain ⟨⟨⟨kv, av, nv, tv⟩, s4⟩, hv⟩ : ∃ q, takeP n s3 = q := ⟨_, rfl⟩
 obtain ⟨s5, h5⟩ : ∃ q, (if kv ≠ 2 then failP 5 av s4 else s4) = q := ⟨_, rfl⟩
 obtain ⟨s6, h6⟩ : ∃ q, (if 1000000 < nv then failP 10 av s5 else s5) = q := ⟨_, rfl⟩
 have hX : rtestP n tx sA = (⟨3, tx, cm, nv, []⟩, s6) := by
  unfold rtestP cmpR
  simp only [hu, hcm, h3, hv, h5, h6]
 rw [hX]
 have HU := Aside0.mk hu
 have HCM := Aside0.mk hcm
 have HS3 := Aside0.mk h3.symm
 have HV := Aside0.mk hv
 have HS5 := Aside0.mk h5.symm
 have HS6 := Aside0.mk h6.symm
 clear hu hcm h3 hv h5 h6 hX
 go_enter Tryz.func107, Tryz.ntmps107
 go_wp2_with fail
 refine (rtoken_calls b n s _ (H.out.below (below_alloc (Below.refl _ _) _))).mono ?_
 rintro e w1 ⟨rfl, hI, hS⟩
 rw [HT.out] at hI ⊢
 have HO := Aside0.mk (rn_start ⟨kd, at_, num, tx⟩ H.out hI hS)
 have hz1 : w.heap.size < w1.heap.size := HO.out.hg
 clear hI hS
 go_upto_region 2 with fail
 obtain ⟨W1, hW1⟩ : ∃ W, w1.alloc (.cells #[.int .i64 kd, .int .i64 at_, .int .i64 num, .string tx] 75) = W := ⟨_, rfl⟩
 obtain ⟨g, hg⟩ : ∃ g, w1.heap.size = g := ⟨_, rfl⟩
 rw [hW1, hg] at HO
 rw [hW1]
 simp only [hg] at hz1 ⊢
 clear hW1 hg
 have ht0 := blk_cell HO.out.tok 0
 have ht1 := blk_cell HO.out.tok 1
 have ht3 := blk_cell HO.out.tok 3
 go_wp2_with fail
 refine (PLawFormulaTextsAsReference.customhouseref25_Key.calls tx true _ (by rw [rkey, hk])).mono ?_
 rintro e Wk ⟨rfl, hdr⟩
 replace HO := Aside0.mk (HO.out.below hdr.below)
 clear hdr ht0 ht1 ht3 hk
 have ht0 := blk_cell HO.out.tok 0
 have ht1 := blk_cell HO.out.tok 1
 have ht3 := blk_cell HO.out.tok 3
 go_wp2_with fail
 refine (rfail_calls b n s1 5 at_ (by decide) _ HO.out.par).mono ?_
 rintro e Wa ⟨rfl, hI, hS⟩
 rw [HA.out] at hI
 replace HO := Aside0.mk (HO.out.step hI hS)
 clear hI hS ht0 ht1 ht3
 have ht3 := blk_cell HO.out.tok 3
 go_upto_region 17 with fail
 obtain ⟨W2, hW2⟩ : ∃ W, Wa.alloc (.cells #[.int .i64 3, .string tx, .int .i64 0, .int .i64 0, .slice none 0 0] 24) = W := ⟨_, rfl⟩
 obtain ⟨g2, hg2⟩ : ∃ g2, Wa.heap.size = g2 := ⟨_, rfl⟩
 have HR := Aside0.mk (show RT Z w W2 b n sA g ⟨kd, at_, num, tx⟩ g2 tx 0 0 from hW2 ▸ hg2 ▸ ⟨HO.out.alloc _, blk_new _ _ rfl, HO.out.glt⟩)
 rw [hW2]
 simp only [hg2]
 clear hW2 hg2 HO ht3
 go_wp2_with fail
 refine (rtoken_calls b n sA _ HR.out.rn.par).mono ?_
 rintro e w3 ⟨rfl, hI, hS⟩
 rw [HU.out] at hI ⊢
 replace HR := Aside0.mk (HR.out.step hI hS)
 clear hI hS
 have ht0 := blk_cell HR.out.rn.tok 0
 have hv0 := blk_frozen HR.out.rn.tok 0
 have ht1 := blk_cell HR.out.rn.tok 1
 have hv1 := blk_frozen HR.out.rn.tok 1
 have ht2 := blk_cell HR.out.rn.tok 2
 have hv2 := blk_frozen HR.out.rn.tok 2
 have ht3 := blk_cell HR.out.rn.tok 3
 have hv3 := blk_frozen HR.out.rn.tok 3
 go_upto_region 18 with fail
 obtain ⟨W4, hW4⟩ : ∃ W, ((((w3.setCell ⟨g, 0, none⟩ (.int .i64 ku)).setCell ⟨g, 1, none⟩ (.int .i64 au)).setCell ⟨g, 2, none⟩ (.int .i64 nu)).setCell ⟨g, 3, none⟩ (.string tu)) = W := ⟨_, rfl⟩
 have HQ := HR.out.settok ⟨ku, au, nu, tu⟩
 simp only at HQ
 rw [hW4] at HQ ⊢
 replace HR := Aside0.mk HQ
 clear HQ hW4 ht0 ht1 ht2 ht3 hv0 hv1 hv2 hv3
 go_wp2
 go_loopw [6] (fun v6 wr => ∃ k : Nat, v6 = .int .i64 (k : Int) ∧ 1 ≤ k ∧ k ≤ 7 ∧ Aside0 (RT Z w wr b n s2 g ⟨ku, au, nu, tu⟩ g2 tx (if ku = 4 then cmpTo tu k else 0) 0)) (fun v6 _ => match v6 with | .int _ i => 7 - i.toNat | _ => 0)
 case atStart => exact ⟨1, rfl, by omega, by omega, ⟨by simpa [cmpTo] using HR.out⟩⟩
 case round =>
  obtain ⟨k, rfl, hk1, hk7, HR5⟩ := hrel
  clear HR
  go_wp2_with fail
  refine (comparisons_ _).mono ?_
  rintro e w6 ⟨A6, c6, rfl, hcell6, hb⟩
  have HR6 := Aside0.mk (HR5.out.below hb)
  clear hcell6 hb HR5
  by_cases hk : k < 7
  ·by_cases h4 : ku = 4
   ·have e4 : (ku == 4) = true := by simp [h4]
    have H4 := Aside0.mk h4
    clear h4
    have i1 : (0 : Int) ≤ (k : Int) := by omega
    have i2 : (k : Int) < 7 := by omega
    go_wp2_with fail
    refine wp_region_held_drew (S := (fun w' => w'.cell? ⟨g, 0, none⟩ = some (.int .i64 ku) ∧ w'.cell? ⟨g, 3, none⟩ = some (.string tu) ∧ RT Z w w' b n s2 g ⟨ku, au, nu, tu⟩ g2 tx (if ku = 4 then cmpTo tu k else 0) 0)) (by kernel_rfl) ?_ (fun hH0 => ?_)
    ·exact rt_cells (RT.below HR6.out (below_drew (Below.refl _ _)))
    refine wpAnyH_take (i := 0) (oi := { dst := some 87, op := Go.Op.fieldAddr 75 (Go.Operand.tmp 3) 0, type := 0, pos := "ref.go:263", after := #[], guard := none }) (v := ?_) rfl (by kernel_rfl) (by kernel_rfl) (by kernel_rfl) (fun _ _ _ h => h) (Or.inl ⟨by rfl, ?_⟩) (by assumption) ?_
    rotate_left 1
    ·((intro w hSw; (try dsimp only at hSw); go_simp); first | done | (with_reducible rfl))
    try simp only [Act.put, List.setIfInBounds_toArray, List.set_cons_zero, List.set_cons_succ]
    refine wpAnyH_take (i := 1) (oi := { dst := some 88, op := Go.Op.load 3 (Go.Operand.tmp 87), type := 3, pos := "ref.go:263", after := #[{ on := 0, ground := Go.Ground.data }], guard := none }) (v := ?_) rfl (by kernel_rfl) (by kernel_rfl) (by kernel_rfl) (fun _ _ _ h => h) (Or.inl ⟨by rfl, ?_⟩) (by assumption) ?_
    rotate_left 1
    ·((intro w hSw; (try dsimp only at hSw); go_simp); first | done | (with_reducible rfl))
    try simp only [Act.put, List.setIfInBounds_toArray, List.set_cons_zero, List.set_cons_succ]
    refine wpAnyH_take (i := 2) (oi := { dst := some 89, op := Go.Op.binOp Go.BinOp.eql 3 (Go.Operand.tmp 88) (Go.Operand.const (Go.Value.int Go.IntKind.i64 4)) 3, type := 4, pos := "ref.go:263", after := #[{ on := 1, ground := Go.Ground.data }], guard := none }) (v := ?_) rfl (by kernel_rfl) (by kernel_rfl) (by kernel_rfl) (fun _ _ _ h => h) (Or.inl ⟨by rfl, ?_⟩) (by assumption) ?_
    rotate_left 1
    ·((intro w hSw; (try dsimp only at hSw); go_simp); first | done | (with_reducible rfl))
    try simp only [Act.put, List.setIfInBounds_toArray, List.set_cons_zero, List.set_cons_succ]
    refine wpAnyH_take (i := 3) (oi := { dst := some 90, op := Go.Op.move (Go.Operand.tmp 89), type := 4, pos := "ref.go:263", after := #[{ on := 2, ground := Go.Ground.data }], guard := none }) (v := ?_) rfl (by kernel_rfl) (by kernel_rfl) (by kernel_rfl) (fun _ _ _ h => h) (Or.inl ⟨by rfl, ?_⟩) (by assumption) ?_
    rotate_left 1
    ·((intro w hSw; (try dsimp only at hSw); go_simp); first | done | (with_reducible rfl))
    try simp only [Act.put, List.setIfInBounds_toArray, List.set_cons_zero, List.set_cons_succ]
    refine wpAnyH_take (i := 4) (oi := { dst := some 91, op := Go.Op.fieldAddr 75 (Go.Operand.tmp 3) 3, type := 0, pos := "ref.go:263", after := #[{ on := 3, ground := Go.Ground.guard }], guard := some (3, true) }) (v := ?_) rfl (by kernel_rfl) (by kernel_rfl) (by kernel_rfl) (fun _ _ _ h => h) (Or.inl ⟨by rfl, ?_⟩) (by assumption) ?_
    rotate_left 1
    ·((intro w hSw; (try dsimp only at hSw); go_simp); first | done | (with_reducible rfl))
    try simp only [Act.put, List.setIfInBounds_toArray, List.set_cons_zero, List.set_cons_succ]
    refine wpAnyH_take (i := 5) (oi := { dst := some 92, op := Go.Op.load 9 (Go.Operand.tmp 91), type := 9, pos := "ref.go:263", after := #[{ on := 4, ground := Go.Ground.data }, { on := 3, ground := Go.Ground.guard }], guard := some (3, true) }) (v := ?_) rfl (by kernel_rfl) (by kernel_rfl) (by kernel_rfl) (fun _ _ _ h => h) (Or.inl ⟨by rfl, ?_⟩) (by assumption) ?_
    rotate_left 1
    ·((intro w hSw; (try dsimp only at hSw); go_simp); first | done | (with_reducible rfl))
    try simp only [Act.put, List.setIfInBounds_toArray, List.set_cons_zero, List.set_cons_succ]
    refine wpAnyH_take (i := 7) (oi := { dst := some 94, op := Go.Op.move (Go.Operand.tmp 6), type := 3, pos := "ref.go:263", after := #[{ on := 3, ground := Go.Ground.guard }], guard := some (3, true) }) (v := ?_) rfl (by kernel_rfl) (by kernel_rfl) (by kernel_rfl) (fun _ _ _ h => h) (Or.inl ⟨by rfl, ?_⟩) (by assumption) ?_
    rotate_left 1
    ·((intro w hSw; (try dsimp only at hSw); go_simp); first | done | (with_reducible rfl))
    try simp only [Act.put, List.setIfInBounds_toArray, List.set_cons_zero, List.set_cons_succ]
    refine wpAnyH_ready (rs := [6]) (by kernel_rfl) (by simp) ?_
    refine AllReadyH.cons (o := { dst := some 93, op := Go.Op.call { callee := Go.Callee.value (Go.Operand.func 75), args := #[], argTypes := #[] }, type := 86, pos := "ref.go:263", after := #[{ on := 3, ground := Go.Ground.chain }, { on := 3, ground := Go.Ground.guard }], guard := some (3, true) }) rfl (fun K hK => ?_) AllReadyH.nil
    go_simp
    refine (comparisons_ _).mono ?_
    rintro e w7 ⟨A7, c7, rfl, hcell, hb⟩
    obtain ⟨ad7, rfl, hcl⟩ := hcell k hk
    obtain ⟨sy, hs0⟩ : ∃ y, symB.getD k ⟨#[]⟩ = y := ⟨_, rfl⟩
    rw [hs0] at hcl
    have HSY := Aside0.mk hs0
    clear hcell hs0
    try go_wp2_with fail
    refine hK.out _ _ ?_ (fun hH1 => ?_)
    ·((try dsimp only); exact rt_cells (RT.below hH0.2.2 hb))
    clear hK K hH0
    try simp only [Act.put, List.setIfInBounds_toArray, List.set_cons_zero, List.set_cons_succ]
    refine wpAnyH_take (i := 8) (oi := { dst := some 95, op := Go.Op.indexAddr 86 (Go.Operand.tmp 93) (Go.Operand.tmp 94), type := 0, pos := "ref.go:263", after := #[{ on := 6, ground := Go.Ground.data }, { on := 7, ground := Go.Ground.data }, { on := 3, ground := Go.Ground.guard }], guard := some (3, true) }) (v := ?_) rfl (by kernel_rfl) (by kernel_rfl) (by kernel_rfl) (fun _ _ _ h => h) (Or.inl ⟨by rfl, ?_⟩) (by assumption) ?_
    rotate_left 1
    ·((intro w hSw; (try dsimp only at hSw); go_simp); first | done | (with_reducible rfl))
    try simp only [Act.put, List.setIfInBounds_toArray, List.set_cons_zero, List.set_cons_succ]
    refine wpAnyH_ready (rs := [9]) (by kernel_rfl) (by simp) ?_
    refine AllReadyH.cons (o := { dst := some 96, op := Go.Op.load 9 (Go.Operand.tmp 95), type := 9, pos := "ref.go:263", after := #[{ on := 8, ground := Go.Ground.data }, { on := 3, ground := Go.Ground.guard }], guard := some (3, true) }) rfl (fun K hK => ?_) AllReadyH.nil
    go_simp
    refine hK.out _ _ ?_ (fun hH2 => ?_)
    ·((try dsimp only); exact hH1)
    clear hK K hH1
    try simp only [Act.put, List.setIfInBounds_toArray, List.set_cons_zero, List.set_cons_succ]
    refine wpAnyH_take (i := 10) (oi := { dst := some 97, op := Go.Op.binOp Go.BinOp.eql 9 (Go.Operand.tmp 92) (Go.Operand.tmp 96) 9, type := 4, pos := "ref.go:263", after := #[{ on := 5, ground := Go.Ground.data }, { on := 9, ground := Go.Ground.data }, { on := 3, ground := Go.Ground.guard }], guard := some (3, true) }) (v := ?_) rfl (by kernel_rfl) (by kernel_rfl) (by kernel_rfl) (fun _ _ _ h => h) (Or.inl ⟨by rfl, ?_⟩) (by assumption) ?_
    rotate_left 1
    ·((intro w hSw; (try dsimp only at hSw); go_simp); first | done | (with_reducible rfl))
    try simp only [Act.put, List.setIfInBounds_toArray, List.set_cons_zero, List.set_cons_succ]
    refine wpAnyH_take (i := 11) (oi := { dst := some 98, op := Go.Op.pick (Go.Operand.tmp 90) (Go.Operand.tmp 97) (Go.Operand.const (Go.Value.bool false)), type := 4, pos := "ref.go:263", after := #[{ on := 3, ground := Go.Ground.data }, { on := 10, ground := Go.Ground.data }], guard := none }) (v := ?_) rfl (by kernel_rfl) (by kernel_rfl) (by kernel_rfl) (fun _ _ _ h => h) (Or.inl ⟨by rfl, ?_⟩) (by assumption) ?_
    rotate_left 1
    ·((intro w hSw; (try dsimp only at hSw); go_simp); first | done | (with_reducible rfl))
    try simp only [Act.put, List.setIfInBounds_toArray, List.set_cons_zero, List.set_cons_succ]
    refine wpAnyH_done (by kernel_rfl) ?_ _
    replace HR6 := Aside0.mk hH2.2.2
    clear hH2
    have hk2 := blk_cell HR6.out.box 2
    have hl2 := blk_frozen HR6.out.box 2
    cases hsy : tu.toList == sy.toList
    ·go_wp2
     go_roundw
     case rel => exact ⟨k + 1, by simp, by omega, by omega, ⟨by rw [if_pos H4.out, cmpTo_no (by rw [HSY.out]; exact hsy)]; have := HR6.out; rwa [if_pos H4.out] at this⟩⟩
     case measure => simp; omega
    ·go_wp2
     go_roundw
     case rel => exact ⟨k + 1, by simp, by omega, by omega, ⟨by rw [if_pos H4.out, cmpTo_yes hk1 (by rw [HSY.out]; exact hsy)]; exact HR6.out.setcmp k⟩⟩
     case measure => simp; omega
   ·have e4 : (ku == 4) = false := by simp [h4]
    have H4 := Aside0.mk h4
    clear h4
    have ht0 := blk_cell HR6.out.rn.tok 0
    go_wp2_with fail
    go_quiet (fail)
    go_wp2
    go_roundw
    case rel => exact ⟨k + 1, by simp, by omega, by omega, ⟨by rw [if_neg H4.out]; have := HR6.out; rw [if_neg H4.out] at this; exact this.below (below_drewN (Below.refl _ _) _)⟩⟩
    case measure => simp; omega
  ·obtain rfl : k = 7 := by omega
   have HR := Aside0.mk (show RT Z w w6 b n s2 g ⟨ku, au, nu, tu⟩ g2 tx cm 0 from by rw [← HCM.out]; exact HR6.out)
   clear HR6 hk hk1 hk7
   have hq2 := blk_cell HR.out.box 2
   have ht1 := blk_cell HR.out.rn.tok 1
   go_upto_if 103 with fail
   go_cut [] (fun wx => Aside0 (RT Z w wx b n s3 g ⟨ku, au, nu, tu⟩ g2 tx cm 0))
   case first =>
    by_cases hc : cm = 0
    ·have e0 : (cm == 0) = true := by simp [hc]
     have HC := Aside0.mk hc
     clear hc
     go_wp2_with fail
     refine (rfail_calls b n s2 5 au (by decide) _ HR.out.rn.par).mono ?_
     rintro e w9 ⟨rfl, hI, hS⟩
     go_wp2_with fail
     go_meet
     exact ⟨by rw [HS3.out, if_pos HC.out]; exact HR.out.step hI hS⟩
    ·have e0 : (cm == 0) = false := by simp [hc]
     have HC := Aside0.mk hc
     clear hc
     go_wp2_with fail
     go_meet
     exact ⟨by rw [HS3.out]; first | (rw [if_neg HC.out]; exact HR.out) | (rw [if_neg (Int.not_lt.2 HC.out)]; exact HR.out)⟩
   replace HR := hcut
   clear hcut
   clear hq2 ht1
   go_wp2_with fail
   refine (rtoken_calls b n s3 _ HR.out.rn.par).mono ?_
   rintro e w10 ⟨rfl, hI, hS⟩
   rw [HV.out] at hI ⊢
   replace HR := Aside0.mk (HR.out.step hI hS)
   clear hI hS
   have ht0 := blk_cell HR.out.rn.tok 0
   have hv0 := blk_frozen HR.out.rn.tok 0
   have ht1 := blk_cell HR.out.rn.tok 1
   have hv1 := blk_frozen HR.out.rn.tok 1
   have ht2 := blk_cell HR.out.rn.tok 2
   have hv2 := blk_frozen HR.out.rn.tok 2
   have ht3 := blk_cell HR.out.rn.tok 3
   have hv3 := blk_frozen HR.out.rn.tok 3
   go_upto_region 26 with fail
   obtain ⟨W10, hW10⟩ : ∃ W, ((((w10.setCell ⟨g, 0, none⟩ (.int .i64 kv)).setCell ⟨g, 1, none⟩ (.int .i64 av)).setCell ⟨g, 2, none⟩ (.int .i64 nv)).setCell ⟨g, 3, none⟩ (.string tv)) = W := ⟨_, rfl⟩
   have HQ := HR.out.settok ⟨kv, av, nv, tv⟩
   simp only at HQ
   rw [hW10] at HQ ⊢
   replace HR := Aside0.mk HQ
   clear HQ hW10 ht0 ht1 ht2 ht3 hv0 hv1 hv2 hv3
   have ht0 := blk_cell HR.out.rn.tok 0
   have ht1 := blk_cell HR.out.rn.tok 1
   go_upto_if 112 with fail
   go_cut [] (fun wx => Aside0 (RT Z w wx b n s5 g ⟨kv, av, nv, tv⟩ g2 tx cm 0))
   case first =>
    by_cases hc : kv ≠ 2
    ·have e2 : (kv != 2) = true := by simp [hc]
     have HC := Aside0.mk hc
     clear hc
     go_wp2_with fail
     refine (rfail_calls b n s4 5 av (by decide) _ HR.out.rn.par).mono ?_
     rintro e w9 ⟨rfl, hI, hS⟩
     go_wp2_with fail
     go_meet
     exact ⟨by rw [HS5.out, if_pos HC.out]; exact HR.out.step hI hS⟩
    ·have e2 : (kv != 2) = false := by simpa using hc
     have HC := Aside0.mk hc
     clear hc
     go_wp2_with fail
     go_meet
     exact ⟨by rw [HS5.out]; first | (rw [if_neg HC.out]; exact HR.out) | (rw [if_neg (Int.not_lt.2 HC.out)]; exact HR.out)⟩
   replace HR := hcut
   clear hcut
   clear ht0 ht1
   have ht1 := blk_cell HR.out.rn.tok 1
   have ht2 := blk_cell HR.out.rn.tok 2
   go_upto_if 119 with fail
   go_cut [] (fun wx => Aside0 (RT Z w wx b n s6 g ⟨kv, av, nv, tv⟩ g2 tx cm 0))
   case first =>
    by_cases hc : 1000000 < nv
    ·have e3 : decide (1000000 < nv) = true := decide_eq_true hc
     have HC := Aside0.mk hc
     skip
     go_wp2_with fail
     refine (rfail_calls b n s5 10 av (by decide) _ HR.out.rn.par).mono ?_
     rintro e w9 ⟨rfl, hI, hS⟩
     go_wp2_with fail
     go_meet
     exact ⟨by rw [HS6.out, if_pos HC.out]; exact HR.out.step hI hS⟩
    ·have e3 : decide (1000000 < nv) = false := decide_eq_false hc
     have HC := Aside0.mk hc
     skip
     go_wp2_with fail
     go_meet
     exact ⟨by rw [HS6.out]; first | (rw [if_neg HC.out]; exact HR.out) | (rw [if_neg (Int.not_lt.2 HC.out)]; exact HR.out)⟩
   replace HR := hcut
   clear hcut
   clear ht1 ht2
   have ht2 := blk_cell HR.out.rn.tok 2
   have hb3 := blk_cell HR.out.box 3
   have hl3 := blk_frozen HR.out.box 3
   have HR9 := HR.out.setn nv
   go_upto_region 31 with fail
   obtain ⟨W9, hW9⟩ : ∃ W, wc.setCell ⟨g2, 3, none⟩ (.int .i64 nv) = W := ⟨_, rfl⟩
   rw [hW9] at HR9 ⊢
   replace HR := Aside0.mk HR9
   clear HR9 hW9 ht2 hb3 hl3
   have hj0 := blk_cell HR.out.box 0
   have hj1 := blk_cell HR.out.box 1
   have hj2 := blk_cell HR.out.box 2
   have hj3 := blk_cell HR.out.box 3
   have hj4 := blk_cell HR.out.box 4
   have hf0 := blk_cell HR.out.rn.res 0
   have hg0 := blk_frozen HR.out.rn.res 0
   have hf1 := blk_cell HR.out.rn.res 1
   have hg1 := blk_frozen HR.out.rn.res 1
   have hf2 := blk_cell HR.out.rn.res 2
   have hg2 := blk_frozen HR.out.rn.res 2
   have hf3 := blk_cell HR.out.rn.res 3
   have hg3 := blk_frozen HR.out.rn.res 3
   have hf4 := blk_cell HR.out.rn.res 4
   have hg4 := blk_frozen HR.out.rn.res 4
   go_wp2
   refine bodyPost_ret (results_cell_row rfl _ _ w.heap.size 24 #[.int .i64 3, .string tx, .int .i64 cm, .int .i64 nv, .slice none 0 0] (0, 0) _ rfl HR.out.done.1 Tryz.underlying24 rfl (by kernel_rfl)) rfl ?_
   exact HR.out.done.2
set_option maxHeartbeats 4000000 in
set_option maxRecDepth 100000 in
theorem rnot_test_name (b : Nat) (n : Int) (s : PS) (t : Tok) (s1 : PS) (ht : takeP n s = (t, s1)) (h1 : t.f0 = 1) (hk : isKey t.f3 = false) (n1 : t.f3.toList ≠ lNot) (n2 : t.f3.toList ≠ lTrue) (n3 : t.f3.toList ≠ lFalse) (w : World) (h : IsR Z w b n s) :
  Calls Tryz.prog 107 #[.pointer (some ⟨b, 0, none⟩)] w (RPost Z b n w (rtestP n t.f3 s1).1 (rtestP n t.f3 s1).2) := by
 have hlt := h.lt
 have HT := Aside0.mk ht
 have H := Aside0.mk h
 obtain ⟨kd, at_, num, tx⟩ := t
 simp only at h1 hk n1 n2 n3 ⊢
 clear h ht
 have c1 : (kd == 1) = true := by simp [h1]
 have c1n : (kd != 1) = false := by simp [h1]
 have c4 : (kd == 4) = false := by simp [h1]
 have d1 : (tx.toList == [110, 111, 116]) = false := beq_eq_false_iff_ne.2 n1
 have d2 : (tx.toList == [116, 114, 117, 101]) = false := beq_eq_false_iff_ne.2 n2
 have d3 : (tx.toList == [102, 97, 108, 115, 101]) = false := beq_eq_false_iff_ne.2 n3
 clear h1 n1 n2 n3
 obtain ⟨sA, hA⟩ : ∃ q, s1 = q := ⟨_, rfl⟩
 rw [hA]
 have HA := Aside0.mk hA
 clear hA
 obtain ⟨⟨⟨ku, au, nu, tu⟩, s2⟩, hu⟩ : ∃ q, takeP n sA = q := ⟨_, rfl⟩
 obtain ⟨cm, hcm⟩ : ∃ q, (if ku = 4 then cmpTo tu 7 else 0) = q := ⟨_, rfl⟩
 obtain ⟨s3, h3⟩ : ∃ q, (if cm = 0 then failP 5 au s2 else s2) = q := ⟨_, rfl⟩
 obtain ⟨⟨⟨kv, av, nv, tv⟩, s4⟩, hv⟩ : ∃ q, takeP n s3 = q := ⟨_, rfl⟩
 obtain ⟨s5, h5⟩ : ∃ q, (if kv ≠ 2 then failP 5 av s4 else s4) = q := ⟨_, rfl⟩
 obtain ⟨s6, h6⟩ : ∃ q, (if 1000000 < nv then failP 10 av s5 else s5) = q := ⟨_, rfl⟩
 have hX : rtestP n tx sA = (⟨3, tx, cm, nv, []⟩, s6) := by
  unfold rtestP cmpR
  simp only [hu, hcm, h3, hv, h5, h6]
 rw [hX]
 have HU := Aside0.mk hu
 have HCM := Aside0.mk hcm
 have HS3 := Aside0.mk h3.symm
 have HV := Aside0.mk hv
 have HS5 := Aside0.mk h5.symm
 have HS6 := Aside0.mk h6.symm
 clear hu hcm h3 hv h5 h6 hX
 go_enter Tryz.func107, Tryz.ntmps107
 go_wp2_with fail
 refine (rtoken_calls b n s _ (H.out.below (below_alloc (Below.refl _ _) _))).mono ?_
 rintro e w1 ⟨rfl, hI, hS⟩
 rw [HT.out] at hI ⊢
 have HO := Aside0.mk (rn_start ⟨kd, at_, num, tx⟩ H.out hI hS)
 have hz1 : w.heap.size < w1.heap.size := HO.out.hg
 clear hI hS
 go_upto_region 2 with fail
 obtain ⟨W1, hW1⟩ : ∃ W, w1.alloc (.cells #[.int .i64 kd, .int .i64 at_, .int .i64 num, .string tx] 75) = W := ⟨_, rfl⟩
 obtain ⟨g, hg⟩ : ∃ g, w1.heap.size = g := ⟨_, rfl⟩
 rw [hW1, hg] at HO
 rw [hW1]
 simp only [hg] at hz1 ⊢
 clear hW1 hg
 have ht0 := blk_cell HO.out.tok 0
 have ht1 := blk_cell HO.out.tok 1
 have ht3 := blk_cell HO.out.tok 3
 go_wp2_with fail
 refine (PLawFormulaTextsAsReference.customhouseref25_Key.calls tx false _ (by rw [rkey, hk])).mono ?_
 rintro e Wk ⟨rfl, hdr⟩
 replace HO := Aside0.mk (HO.out.below hdr.below)
 clear hdr ht0 ht1 ht3 hk
 have ht0 := blk_cell HO.out.tok 0
 have ht1 := blk_cell HO.out.tok 1
 have ht3 := blk_cell HO.out.tok 3
 have hsA : s1 = sA := HA.out
 rw [hsA] at HO
 clear hsA
 clear ht0 ht1
 go_upto_region 17 with fail
 obtain ⟨W2, hW2⟩ : ∃ W, Wk.alloc (.cells #[.int .i64 3, .string tx, .int .i64 0, .int .i64 0, .slice none 0 0] 24) = W := ⟨_, rfl⟩
 obtain ⟨g2, hg2⟩ : ∃ g2, Wk.heap.size = g2 := ⟨_, rfl⟩
 have HR := Aside0.mk (show RT Z w W2 b n sA g ⟨kd, at_, num, tx⟩ g2 tx 0 0 from hW2 ▸ hg2 ▸ ⟨HO.out.alloc _, blk_new _ _ rfl, HO.out.glt⟩)
 rw [hW2]
 simp only [hg2]
 clear hW2 hg2 HO ht3
 go_wp2_with fail
 refine (rtoken_calls b n sA _ HR.out.rn.par).mono ?_
 rintro e w3 ⟨rfl, hI, hS⟩
 rw [HU.out] at hI ⊢
 replace HR := Aside0.mk (HR.out.step hI hS)
 clear hI hS
 have ht0 := blk_cell HR.out.rn.tok 0
 have hv0 := blk_frozen HR.out.rn.tok 0
 have ht1 := blk_cell HR.out.rn.tok 1
 have hv1 := blk_frozen HR.out.rn.tok 1
 have ht2 := blk_cell HR.out.rn.tok 2
 have hv2 := blk_frozen HR.out.rn.tok 2
 have ht3 := blk_cell HR.out.rn.tok 3
 have hv3 := blk_frozen HR.out.rn.tok 3
 go_upto_region 18 with fail
 obtain ⟨W4, hW4⟩ : ∃ W, ((((w3.setCell ⟨g, 0, none⟩ (.int .i64 ku)).setCell ⟨g, 1, none⟩ (.int .i64 au)).setCell ⟨g, 2, none⟩ (.int .i64 nu)).setCell ⟨g, 3, none⟩ (.string tu)) = W := ⟨_, rfl⟩
 have HQ := HR.out.settok ⟨ku, au, nu, tu⟩
 simp only at HQ
 rw [hW4] at HQ ⊢
 replace HR := Aside0.mk HQ
 clear HQ hW4 ht0 ht1 ht2 ht3 hv0 hv1 hv2 hv3
 go_wp2
 go_loopw [6] (fun v6 wr => ∃ k : Nat, v6 = .int .i64 (k : Int) ∧ 1 ≤ k ∧ k ≤ 7 ∧ Aside0 (RT Z w wr b n s2 g ⟨ku, au, nu, tu⟩ g2 tx (if ku = 4 then cmpTo tu k else 0) 0)) (fun v6 _ => match v6 with | .int _ i => 7 - i.toNat | _ => 0)
 case atStart => exact ⟨1, rfl, by omega, by omega, ⟨by simpa [cmpTo] using HR.out⟩⟩
 case round =>
  obtain ⟨k, rfl, hk1, hk7, HR5⟩ := hrel
  clear HR
  go_wp2_with fail
  refine (comparisons_ _).mono ?_
  rintro e w6 ⟨A6, c6, rfl, hcell6, hb⟩
  have HR6 := Aside0.mk (HR5.out.below hb)
  clear hcell6 hb HR5
  by_cases hk : k < 7
  ·by_cases h4 : ku = 4
   ·have e4 : (ku == 4) = true := by simp [h4]
    have H4 := Aside0.mk h4
    clear h4
    have i1 : (0 : Int) ≤ (k : Int) := by omega
    have i2 : (k : Int) < 7 := by omega
    go_wp2_with fail
    refine wp_region_held_drew (S := (fun w' => w'.cell? ⟨g, 0, none⟩ = some (.int .i64 ku) ∧ w'.cell? ⟨g, 3, none⟩ = some (.string tu) ∧ RT Z w w' b n s2 g ⟨ku, au, nu, tu⟩ g2 tx (if ku = 4 then cmpTo tu k else 0) 0)) (by kernel_rfl) ?_ (fun hH0 => ?_)
    ·exact rt_cells (RT.below HR6.out (below_drew (Below.refl _ _)))
    refine wpAnyH_take (i := 0) (oi := { dst := some 87, op := Go.Op.fieldAddr 75 (Go.Operand.tmp 3) 0, type := 0, pos := "ref.go:263", after := #[], guard := none }) (v := ?_) rfl (by kernel_rfl) (by kernel_rfl) (by kernel_rfl) (fun _ _ _ h => h) (Or.inl ⟨by rfl, ?_⟩) (by assumption) ?_
    rotate_left 1
    ·((intro w hSw; (try dsimp only at hSw); go_simp); first | done | (with_reducible rfl))
    try simp only [Act.put, List.setIfInBounds_toArray, List.set_cons_zero, List.set_cons_succ]
    refine wpAnyH_take (i := 1) (oi := { dst := some 88, op := Go.Op.load 3 (Go.Operand.tmp 87), type := 3, pos := "ref.go:263", after := #[{ on := 0, ground := Go.Ground.data }], guard := none }) (v := ?_) rfl (by kernel_rfl) (by kernel_rfl) (by kernel_rfl) (fun _ _ _ h => h) (Or.inl ⟨by rfl, ?_⟩) (by assumption) ?_
    rotate_left 1
    ·((intro w hSw; (try dsimp only at hSw); go_simp); first | done | (with_reducible rfl))
    try simp only [Act.put, List.setIfInBounds_toArray, List.set_cons_zero, List.set_cons_succ]
    refine wpAnyH_take (i := 2) (oi := { dst := some 89, op := Go.Op.binOp Go.BinOp.eql 3 (Go.Operand.tmp 88) (Go.Operand.const (Go.Value.int Go.IntKind.i64 4)) 3, type := 4, pos := "ref.go:263", after := #[{ on := 1, ground := Go.Ground.data }], guard := none }) (v := ?_) rfl (by kernel_rfl) (by kernel_rfl) (by kernel_rfl) (fun _ _ _ h => h) (Or.inl ⟨by rfl, ?_⟩) (by assumption) ?_
    rotate_left 1
    ·((intro w hSw; (try dsimp only at hSw); go_simp); first | done | (with_reducible rfl))
    try simp only [Act.put, List.setIfInBounds_toArray, List.set_cons_zero, List.set_cons_succ]
    refine wpAnyH_take (i := 3) (oi := { dst := some 90, op := Go.Op.move (Go.Operand.tmp 89), type := 4, pos := "ref.go:263", after := #[{ on := 2, ground := Go.Ground.data }], guard := none }) (v := ?_) rfl (by kernel_rfl) (by kernel_rfl) (by kernel_rfl) (fun _ _ _ h => h) (Or.inl ⟨by rfl, ?_⟩) (by assumption) ?_
    rotate_left 1
    ·((intro w hSw; (try dsimp only at hSw); go_simp); first | done | (with_reducible rfl))
    try simp only [Act.put, List.setIfInBounds_toArray, List.set_cons_zero, List.set_cons_succ]
    refine wpAnyH_take (i := 4) (oi := { dst := some 91, op := Go.Op.fieldAddr 75 (Go.Operand.tmp 3) 3, type := 0, pos := "ref.go:263", after := #[{ on := 3, ground := Go.Ground.guard }], guard := some (3, true) }) (v := ?_) rfl (by kernel_rfl) (by kernel_rfl) (by kernel_rfl) (fun _ _ _ h => h) (Or.inl ⟨by rfl, ?_⟩) (by assumption) ?_
    rotate_left 1
    ·((intro w hSw; (try dsimp only at hSw); go_simp); first | done | (with_reducible rfl))
    try simp only [Act.put, List.setIfInBounds_toArray, List.set_cons_zero, List.set_cons_succ]
    refine wpAnyH_take (i := 5) (oi := { dst := some 92, op := Go.Op.load 9 (Go.Operand.tmp 91), type := 9, pos := "ref.go:263", after := #[{ on := 4, ground := Go.Ground.data }, { on := 3, ground := Go.Ground.guard }], guard := some (3, true) }) (v := ?_) rfl (by kernel_rfl) (by kernel_rfl) (by kernel_rfl) (fun _ _ _ h => h) (Or.inl ⟨by rfl, ?_⟩) (by assumption) ?_
    rotate_left 1
    ·((intro w hSw; (try dsimp only at hSw); go_simp); first | done | (with_reducible rfl))
    try simp only [Act.put, List.setIfInBounds_toArray, List.set_cons_zero, List.set_cons_succ]
    refine wpAnyH_take (i := 7) (oi := { dst := some 94, op := Go.Op.move (Go.Operand.tmp 6), type := 3, pos := "ref.go:263", after := #[{ on := 3, ground := Go.Ground.guard }], guard := some (3, true) }) (v := ?_) rfl (by kernel_rfl) (by kernel_rfl) (by kernel_rfl) (fun _ _ _ h => h) (Or.inl ⟨by rfl, ?_⟩) (by assumption) ?_
    rotate_left 1
    ·((intro w hSw; (try dsimp only at hSw); go_simp); first | done | (with_reducible rfl))
    try simp only [Act.put, List.setIfInBounds_toArray, List.set_cons_zero, List.set_cons_succ]
    refine wpAnyH_ready (rs := [6]) (by kernel_rfl) (by simp) ?_
    refine AllReadyH.cons (o := { dst := some 93, op := Go.Op.call { callee := Go.Callee.value (Go.Operand.func 75), args := #[], argTypes := #[] }, type := 86, pos := "ref.go:263", after := #[{ on := 3, ground := Go.Ground.chain }, { on := 3, ground := Go.Ground.guard }], guard := some (3, true) }) rfl (fun K hK => ?_) AllReadyH.nil
    go_simp
    refine (comparisons_ _).mono ?_
    rintro e w7 ⟨A7, c7, rfl, hcell, hb⟩
    obtain ⟨ad7, rfl, hcl⟩ := hcell k hk
    obtain ⟨sy, hs0⟩ : ∃ y, symB.getD k ⟨#[]⟩ = y := ⟨_, rfl⟩
    rw [hs0] at hcl
    have HSY := Aside0.mk hs0
    clear hcell hs0
    try go_wp2_with fail
    refine hK.out _ _ ?_ (fun hH1 => ?_)
    ·((try dsimp only); exact rt_cells (RT.below hH0.2.2 hb))
    clear hK K hH0
    try simp only [Act.put, List.setIfInBounds_toArray, List.set_cons_zero, List.set_cons_succ]
    refine wpAnyH_take (i := 8) (oi := { dst := some 95, op := Go.Op.indexAddr 86 (Go.Operand.tmp 93) (Go.Operand.tmp 94), type := 0, pos := "ref.go:263", after := #[{ on := 6, ground := Go.Ground.data }, { on := 7, ground := Go.Ground.data }, { on := 3, ground := Go.Ground.guard }], guard := some (3, true) }) (v := ?_) rfl (by kernel_rfl) (by kernel_rfl) (by kernel_rfl) (fun _ _ _ h => h) (Or.inl ⟨by rfl, ?_⟩) (by assumption) ?_
    rotate_left 1
    ·((intro w hSw; (try dsimp only at hSw); go_simp); first | done | (with_reducible rfl))
    try simp only [Act.put, List.setIfInBounds_toArray, List.set_cons_zero, List.set_cons_succ]
    refine wpAnyH_ready (rs := [9]) (by kernel_rfl) (by simp) ?_
    refine AllReadyH.cons (o := { dst := some 96, op := Go.Op.load 9 (Go.Operand.tmp 95), type := 9, pos := "ref.go:263", after := #[{ on := 8, ground := Go.Ground.data }, { on := 3, ground := Go.Ground.guard }], guard := some (3, true) }) rfl (fun K hK => ?_) AllReadyH.nil
    go_simp
    refine hK.out _ _ ?_ (fun hH2 => ?_)
    ·((try dsimp only); exact hH1)
    clear hK K hH1
    try simp only [Act.put, List.setIfInBounds_toArray, List.set_cons_zero, List.set_cons_succ]
    refine wpAnyH_take (i := 10) (oi := { dst := some 97, op := Go.Op.binOp Go.BinOp.eql 9 (Go.Operand.tmp 92) (Go.Operand.tmp 96) 9, type := 4, pos := "ref.go:263", after := #[{ on := 5, ground := Go.Ground.data }, { on := 9, ground := Go.Ground.data }, { on := 3, ground := Go.Ground.guard }], guard := some (3, true) }) (v := ?_) rfl (by kernel_rfl) (by kernel_rfl) (by kernel_rfl) (fun _ _ _ h => h) (Or.inl ⟨by rfl, ?_⟩) (by assumption) ?_
    rotate_left 1
    ·((intro w hSw; (try dsimp only at hSw); go_simp); first | done | (with_reducible rfl))
    try simp only [Act.put, List.setIfInBounds_toArray, List.set_cons_zero, List.set_cons_succ]
    refine wpAnyH_take (i := 11) (oi := { dst := some 98, op := Go.Op.pick (Go.Operand.tmp 90) (Go.Operand.tmp 97) (Go.Operand.const (Go.Value.bool false)), type := 4, pos := "ref.go:263", after := #[{ on := 3, ground := Go.Ground.data }, { on := 10, ground := Go.Ground.data }], guard := none }) (v := ?_) rfl (by kernel_rfl) (by kernel_rfl) (by kernel_rfl) (fun _ _ _ h => h) (Or.inl ⟨by rfl, ?_⟩) (by assumption) ?_
    rotate_left 1
    ·((intro w hSw; (try dsimp only at hSw); go_simp); first | done | (with_reducible rfl))
    try simp only [Act.put, List.setIfInBounds_toArray, List.set_cons_zero, List.set_cons_succ]
    refine wpAnyH_done (by kernel_rfl) ?_ _
    replace HR6 := Aside0.mk hH2.2.2
    clear hH2
    have hk2 := blk_cell HR6.out.box 2
    have hl2 := blk_frozen HR6.out.box 2
    cases hsy : tu.toList == sy.toList
    ·go_wp2
     go_roundw
     case rel => exact ⟨k + 1, by simp, by omega, by omega, ⟨by rw [if_pos H4.out, cmpTo_no (by rw [HSY.out]; exact hsy)]; have := HR6.out; rwa [if_pos H4.out] at this⟩⟩
     case measure => simp; omega
    ·go_wp2
     go_roundw
     case rel => exact ⟨k + 1, by simp, by omega, by omega, ⟨by rw [if_pos H4.out, cmpTo_yes hk1 (by rw [HSY.out]; exact hsy)]; exact HR6.out.setcmp k⟩⟩
     case measure => simp; omega
   ·have e4 : (ku == 4) = false := by simp [h4]
    have H4 := Aside0.mk h4
    clear h4
    have ht0 := blk_cell HR6.out.rn.tok 0
    go_wp2_with fail
    go_quiet (fail)
    go_wp2
    go_roundw
    case rel => exact ⟨k + 1, by simp, by omega, by omega, ⟨by rw [if_neg H4.out]; have := HR6.out; rw [if_neg H4.out] at this; exact this.below (below_drewN (Below.refl _ _) _)⟩⟩
    case measure => simp; omega
  ·obtain rfl : k = 7 := by omega
   have HR := Aside0.mk (show RT Z w w6 b n s2 g ⟨ku, au, nu, tu⟩ g2 tx cm 0 from by rw [← HCM.out]; exact HR6.out)
   clear HR6 hk hk1 hk7
   have hq2 := blk_cell HR.out.box 2
   have ht1 := blk_cell HR.out.rn.tok 1
   go_upto_if 103 with fail
   go_cut [] (fun wx => Aside0 (RT Z w wx b n s3 g ⟨ku, au, nu, tu⟩ g2 tx cm 0))
   case first =>
    by_cases hc : cm = 0
    ·have e0 : (cm == 0) = true := by simp [hc]
     have HC := Aside0.mk hc
     clear hc
     go_wp2_with fail
     refine (rfail_calls b n s2 5 au (by decide) _ HR.out.rn.par).mono ?_
     rintro e w9 ⟨rfl, hI, hS⟩
     go_wp2_with fail
     go_meet
     exact ⟨by rw [HS3.out, if_pos HC.out]; exact HR.out.step hI hS⟩
    ·have e0 : (cm == 0) = false := by simp [hc]
     have HC := Aside0.mk hc
     clear hc
     go_wp2_with fail
     go_meet
     exact ⟨by rw [HS3.out]; first | (rw [if_neg HC.out]; exact HR.out) | (rw [if_neg (Int.not_lt.2 HC.out)]; exact HR.out)⟩
   replace HR := hcut
   clear hcut
   clear hq2 ht1
   go_wp2_with fail
   refine (rtoken_calls b n s3 _ HR.out.rn.par).mono ?_
   rintro e w10 ⟨rfl, hI, hS⟩
   rw [HV.out] at hI ⊢
   replace HR := Aside0.mk (HR.out.step hI hS)
   clear hI hS
   have ht0 := blk_cell HR.out.rn.tok 0
   have hv0 := blk_frozen HR.out.rn.tok 0
   have ht1 := blk_cell HR.out.rn.tok 1
   have hv1 := blk_frozen HR.out.rn.tok 1
   have ht2 := blk_cell HR.out.rn.tok 2
   have hv2 := blk_frozen HR.out.rn.tok 2
   have ht3 := blk_cell HR.out.rn.tok 3
   have hv3 := blk_frozen HR.out.rn.tok 3
   go_upto_region 26 with fail
   obtain ⟨W10, hW10⟩ : ∃ W, ((((w10.setCell ⟨g, 0, none⟩ (.int .i64 kv)).setCell ⟨g, 1, none⟩ (.int .i64 av)).setCell ⟨g, 2, none⟩ (.int .i64 nv)).setCell ⟨g, 3, none⟩ (.string tv)) = W := ⟨_, rfl⟩
   have HQ := HR.out.settok ⟨kv, av, nv, tv⟩
   simp only at HQ
   rw [hW10] at HQ ⊢
   replace HR := Aside0.mk HQ
   clear HQ hW10 ht0 ht1 ht2 ht3 hv0 hv1 hv2 hv3
   have ht0 := blk_cell HR.out.rn.tok 0
   have ht1 := blk_cell HR.out.rn.tok 1
   go_upto_if 112 with fail
   go_cut [] (fun wx => Aside0 (RT Z w wx b n s5 g ⟨kv, av, nv, tv⟩ g2 tx cm 0))
   case first =>
    by_cases hc : kv ≠ 2
    ·have e2 : (kv != 2) = true := by simp [hc]
     have HC := Aside0.mk hc
     clear hc
     go_wp2_with fail
     refine (rfail_calls b n s4 5 av (by decide) _ HR.out.rn.par).mono ?_
     rintro e w9 ⟨rfl, hI, hS⟩
     go_wp2_with fail
     go_meet
     exact ⟨by rw [HS5.out, if_pos HC.out]; exact HR.out.step hI hS⟩
    ·have e2 : (kv != 2) = false := by simpa using hc
     have HC := Aside0.mk hc
     clear hc
     go_wp2_with fail
     go_meet
     exact ⟨by rw [HS5.out]; first | (rw [if_neg HC.out]; exact HR.out) | (rw [if_neg (Int.not_lt.2 HC.out)]; exact HR.out)⟩
   replace HR := hcut
   clear hcut
   clear ht0 ht1
   have ht1 := blk_cell HR.out.rn.tok 1
   have ht2 := blk_cell HR.out.rn.tok 2
   go_upto_if 119 with fail
   go_cut [] (fun wx => Aside0 (RT Z w wx b n s6 g ⟨kv, av, nv, tv⟩ g2 tx cm 0))
   case first =>
    by_cases hc : 1000000 < nv
    ·have e3 : decide (1000000 < nv) = true := decide_eq_true hc
     have HC := Aside0.mk hc
     skip
     go_wp2_with fail
     refine (rfail_calls b n s5 10 av (by decide) _ HR.out.rn.par).mono ?_
     rintro e w9 ⟨rfl, hI, hS⟩
     go_wp2_with fail
     go_meet
     exact ⟨by rw [HS6.out, if_pos HC.out]; exact HR.out.step hI hS⟩
    ·have e3 : decide (1000000 < nv) = false := decide_eq_false hc
     have HC := Aside0.mk hc
     skip
     go_wp2_with fail
     go_meet
     exact ⟨by rw [HS6.out]; first | (rw [if_neg HC.out]; exact HR.out) | (rw [if_neg (Int.not_lt.2 HC.out)]; exact HR.out)⟩
   replace HR := hcut
   clear hcut
   clear ht1 ht2
   have ht2 := blk_cell HR.out.rn.tok 2
   have hb3 := blk_cell HR.out.box 3
   have hl3 := blk_frozen HR.out.box 3
   have HR9 := HR.out.setn nv
   go_upto_region 31 with fail
   obtain ⟨W9, hW9⟩ : ∃ W, wc.setCell ⟨g2, 3, none⟩ (.int .i64 nv) = W := ⟨_, rfl⟩
   rw [hW9] at HR9 ⊢
   replace HR := Aside0.mk HR9
   clear HR9 hW9 ht2 hb3 hl3
   have hj0 := blk_cell HR.out.box 0
   have hj1 := blk_cell HR.out.box 1
   have hj2 := blk_cell HR.out.box 2
   have hj3 := blk_cell HR.out.box 3
   have hj4 := blk_cell HR.out.box 4
   have hf0 := blk_cell HR.out.rn.res 0
   have hg0 := blk_frozen HR.out.rn.res 0
   have hf1 := blk_cell HR.out.rn.res 1
   have hg1 := blk_frozen HR.out.rn.res 1
   have hf2 := blk_cell HR.out.rn.res 2
   have hg2 := blk_frozen HR.out.rn.res 2
   have hf3 := blk_cell HR.out.rn.res 3
   have hg3 := blk_frozen HR.out.rn.res 3
   have hf4 := blk_cell HR.out.rn.res 4
   have hg4 := blk_frozen HR.out.rn.res 4
   go_wp2
   refine bodyPost_ret (results_cell_row rfl _ _ w.heap.size 24 #[.int .i64 3, .string tx, .int .i64 cm, .int .i64 nv, .slice none 0 0] (0, 0) _ rfl HR.out.done.1 Tryz.underlying24 rfl (by kernel_rfl)) rfl ?_
   exact HR.out.done.2
set_option maxHeartbeats 4000000 in
set_option maxRecDepth 100000 in
theorem rnot_test_sym (b : Nat) (n : Int) (s : PS) (t : Tok) (s1 : PS) (ht : takeP n s = (t, s1)) (h1 : t.f0 = 4) (n1 : t.f3.toList ≠ [40]) (w : World) (h : IsR Z w b n s) :
  Calls Tryz.prog 107 #[.pointer (some ⟨b, 0, none⟩)] w (RPost Z b n w (rtestP n t.f3 (failP 5 t.f1 s1)).1 (rtestP n t.f3 (failP 5 t.f1 s1)).2) := by
 have hlt := h.lt
 have HT := Aside0.mk ht
 have H := Aside0.mk h
 obtain ⟨kd, at_, num, tx⟩ := t
 simp only at h1 n1 ⊢
 clear h ht
 have c1 : (kd == 1) = false := by simp [h1]
 have c1n : (kd != 1) = true := by simp [h1]
 have c4 : (kd == 4) = true := by simp [h1]
 have d4 : (tx.toList == [40]) = false := beq_eq_false_iff_ne.2 n1
 clear h1 n1
 obtain ⟨sA, hA⟩ : ∃ q, failP 5 at_ s1 = q := ⟨_, rfl⟩
 rw [hA]
 have HA := Aside0.mk hA
 clear hA
 obtain ⟨⟨⟨ku, au, nu, tu⟩, s2⟩, hu⟩ : ∃ q, takeP n sA = q := ⟨_, rfl⟩
 obtain ⟨cm, hcm⟩ : ∃ q, (if ku = 4 then cmpTo tu 7 else 0) = q := ⟨_, rfl⟩
 obtain ⟨s3, h3⟩ : ∃ q, (if cm = 0 then failP 5 au s2 else s2) = q := ⟨_, rfl⟩
 obtain ⟨⟨⟨kv, av, nv, tv⟩, s4⟩, hv⟩ : ∃ q, takeP n s3 = q := ⟨_, rfl⟩
 obtain ⟨s5, h5⟩ : ∃ q, (if kv ≠ 2 then failP 5 av s4 else s4) = q := ⟨_, rfl⟩
 obtain ⟨s6, h6⟩ : ∃ q, (if 1000000 < nv then failP 10 av s5 else s5) = q := ⟨_, rfl⟩
 have hX : rtestP n tx sA = (⟨3, tx, cm, nv, []⟩, s6) := by
  unfold rtestP cmpR
  simp only [hu, hcm, h3, hv, h5, h6]
 rw [hX]
 have HU := Aside0.mk hu
 have HCM := Aside0.mk hcm
 have HS3 := Aside0.mk h3.symm
 have HV := Aside0.mk hv
 have HS5 := Aside0.mk h5.symm
 have HS6 := Aside0.mk h6.symm
 clear hu hcm h3 hv h5 h6 hX
 go_enter Tryz.func107, Tryz.ntmps107
 go_wp2_with fail
 refine (rtoken_calls b n s _ (H.out.below (below_alloc (Below.refl _ _) _))).mono ?_
 rintro e w1 ⟨rfl, hI, hS⟩
 rw [HT.out] at hI ⊢
 have HO := Aside0.mk (rn_start ⟨kd, at_, num, tx⟩ H.out hI hS)
 have hz1 : w.heap.size < w1.heap.size := HO.out.hg
 clear hI hS
 go_upto_region 2 with fail
 obtain ⟨W1, hW1⟩ : ∃ W, w1.alloc (.cells #[.int .i64 kd, .int .i64 at_, .int .i64 num, .string tx] 75) = W := ⟨_, rfl⟩
 obtain ⟨g, hg⟩ : ∃ g, w1.heap.size = g := ⟨_, rfl⟩
 rw [hW1, hg] at HO
 rw [hW1]
 simp only [hg] at hz1 ⊢
 clear hW1 hg
 have ht0 := blk_cell HO.out.tok 0
 have ht1 := blk_cell HO.out.tok 1
 have ht3 := blk_cell HO.out.tok 3
 go_wp2_with fail
 refine (rfail_calls b n s1 5 at_ (by decide) _ HO.out.par).mono ?_
 rintro e Wa ⟨rfl, hI, hS⟩
 rw [HA.out] at hI
 replace HO := Aside0.mk (HO.out.step hI hS)
 clear hI hS ht0 ht1 ht3
 have ht3 := blk_cell HO.out.tok 3
 go_upto_region 17 with fail
 obtain ⟨W2, hW2⟩ : ∃ W, Wa.alloc (.cells #[.int .i64 3, .string tx, .int .i64 0, .int .i64 0, .slice none 0 0] 24) = W := ⟨_, rfl⟩
 obtain ⟨g2, hg2⟩ : ∃ g2, Wa.heap.size = g2 := ⟨_, rfl⟩
 have HR := Aside0.mk (show RT Z w W2 b n sA g ⟨kd, at_, num, tx⟩ g2 tx 0 0 from hW2 ▸ hg2 ▸ ⟨HO.out.alloc _, blk_new _ _ rfl, HO.out.glt⟩)
 rw [hW2]
 simp only [hg2]
 clear hW2 hg2 HO ht3
 go_wp2_with fail
 refine (rtoken_calls b n sA _ HR.out.rn.par).mono ?_
 rintro e w3 ⟨rfl, hI, hS⟩
 rw [HU.out] at hI ⊢
 replace HR := Aside0.mk (HR.out.step hI hS)
 clear hI hS
 have ht0 := blk_cell HR.out.rn.tok 0
 have hv0 := blk_frozen HR.out.rn.tok 0
 have ht1 := blk_cell HR.out.rn.tok 1
 have hv1 := blk_frozen HR.out.rn.tok 1
 have ht2 := blk_cell HR.out.rn.tok 2
 have hv2 := blk_frozen HR.out.rn.tok 2
 have ht3 := blk_cell HR.out.rn.tok 3
 have hv3 := blk_frozen HR.out.rn.tok 3
 go_upto_region 18 with fail
 obtain ⟨W4, hW4⟩ : ∃ W, ((((w3.setCell ⟨g, 0, none⟩ (.int .i64 ku)).setCell ⟨g, 1, none⟩ (.int .i64 au)).setCell ⟨g, 2, none⟩ (.int .i64 nu)).setCell ⟨g, 3, none⟩ (.string tu)) = W := ⟨_, rfl⟩
 have HQ := HR.out.settok ⟨ku, au, nu, tu⟩
 simp only at HQ
 rw [hW4] at HQ ⊢
 replace HR := Aside0.mk HQ
 clear HQ hW4 ht0 ht1 ht2 ht3 hv0 hv1 hv2 hv3
 go_wp2
 go_loopw [6] (fun v6 wr => ∃ k : Nat, v6 = .int .i64 (k : Int) ∧ 1 ≤ k ∧ k ≤ 7 ∧ Aside0 (RT Z w wr b n s2 g ⟨ku, au, nu, tu⟩ g2 tx (if ku = 4 then cmpTo tu k else 0) 0)) (fun v6 _ => match v6 with | .int _ i => 7 - i.toNat | _ => 0)
 case atStart => exact ⟨1, rfl, by omega, by omega, ⟨by simpa [cmpTo] using HR.out⟩⟩
 case round =>
  obtain ⟨k, rfl, hk1, hk7, HR5⟩ := hrel
  clear HR
  go_wp2_with fail
  refine (comparisons_ _).mono ?_
  rintro e w6 ⟨A6, c6, rfl, hcell6, hb⟩
  have HR6 := Aside0.mk (HR5.out.below hb)
  clear hcell6 hb HR5
  by_cases hk : k < 7
  ·by_cases h4 : ku = 4
   ·have e4 : (ku == 4) = true := by simp [h4]
    have H4 := Aside0.mk h4
    clear h4
    have i1 : (0 : Int) ≤ (k : Int) := by omega
    have i2 : (k : Int) < 7 := by omega
    go_wp2_with fail
    refine wp_region_held_drew (S := (fun w' => w'.cell? ⟨g, 0, none⟩ = some (.int .i64 ku) ∧ w'.cell? ⟨g, 3, none⟩ = some (.string tu) ∧ RT Z w w' b n s2 g ⟨ku, au, nu, tu⟩ g2 tx (if ku = 4 then cmpTo tu k else 0) 0)) (by kernel_rfl) ?_ (fun hH0 => ?_)
    ·exact rt_cells (RT.below HR6.out (below_drew (Below.refl _ _)))
    refine wpAnyH_take (i := 0) (oi := { dst := some 87, op := Go.Op.fieldAddr 75 (Go.Operand.tmp 3) 0, type := 0, pos := "ref.go:263", after := #[], guard := none }) (v := ?_) rfl (by kernel_rfl) (by kernel_rfl) (by kernel_rfl) (fun _ _ _ h => h) (Or.inl ⟨by rfl, ?_⟩) (by assumption) ?_
    rotate_left 1
    ·((intro w hSw; (try dsimp only at hSw); go_simp); first | done | (with_reducible rfl))
    try simp only [Act.put, List.setIfInBounds_toArray, List.set_cons_zero, List.set_cons_succ]
    refine wpAnyH_take (i := 1) (oi := { dst := some 88, op := Go.Op.load 3 (Go.Operand.tmp 87), type := 3, pos := "ref.go:263", after := #[{ on := 0, ground := Go.Ground.data }], guard := none }) (v := ?_) rfl (by kernel_rfl) (by kernel_rfl) (by kernel_rfl) (fun _ _ _ h => h) (Or.inl ⟨by rfl, ?_⟩) (by assumption) ?_
    rotate_left 1
    ·((intro w hSw; (try dsimp only at hSw); go_simp); first | done | (with_reducible rfl))
    try simp only [Act.put, List.setIfInBounds_toArray, List.set_cons_zero, List.set_cons_succ]
    refine wpAnyH_take (i := 2) (oi := { dst := some 89, op := Go.Op.binOp Go.BinOp.eql 3 (Go.Operand.tmp 88) (Go.Operand.const (Go.Value.int Go.IntKind.i64 4)) 3, type := 4, pos := "ref.go:263", after := #[{ on := 1, ground := Go.Ground.data }], guard := none }) (v := ?_) rfl (by kernel_rfl) (by kernel_rfl) (by kernel_rfl) (fun _ _ _ h => h) (Or.inl ⟨by rfl, ?_⟩) (by assumption) ?_
    rotate_left 1
    ·((intro w hSw; (try dsimp only at hSw); go_simp); first | done | (with_reducible rfl))
    try simp only [Act.put, List.setIfInBounds_toArray, List.set_cons_zero, List.set_cons_succ]
    refine wpAnyH_take (i := 3) (oi := { dst := some 90, op := Go.Op.move (Go.Operand.tmp 89), type := 4, pos := "ref.go:263", after := #[{ on := 2, ground := Go.Ground.data }], guard := none }) (v := ?_) rfl (by kernel_rfl) (by kernel_rfl) (by kernel_rfl) (fun _ _ _ h => h) (Or.inl ⟨by rfl, ?_⟩) (by assumption) ?_
    rotate_left 1
    ·((intro w hSw; (try dsimp only at hSw); go_simp); first | done | (with_reducible rfl))
    try simp only [Act.put, List.setIfInBounds_toArray, List.set_cons_zero, List.set_cons_succ]
    refine wpAnyH_take (i := 4) (oi := { dst := some 91, op := Go.Op.fieldAddr 75 (Go.Operand.tmp 3) 3, type := 0, pos := "ref.go:263", after := #[{ on := 3, ground := Go.Ground.guard }], guard := some (3, true) }) (v := ?_) rfl (by kernel_rfl) (by kernel_rfl) (by kernel_rfl) (fun _ _ _ h => h) (Or.inl ⟨by rfl, ?_⟩) (by assumption) ?_
    rotate_left 1
    ·((intro w hSw; (try dsimp only at hSw); go_simp); first | done | (with_reducible rfl))
    try simp only [Act.put, List.setIfInBounds_toArray, List.set_cons_zero, List.set_cons_succ]
    refine wpAnyH_take (i := 5) (oi := { dst := some 92, op := Go.Op.load 9 (Go.Operand.tmp 91), type := 9, pos := "ref.go:263", after := #[{ on := 4, ground := Go.Ground.data }, { on := 3, ground := Go.Ground.guard }], guard := some (3, true) }) (v := ?_) rfl (by kernel_rfl) (by kernel_rfl) (by kernel_rfl) (fun _ _ _ h => h) (Or.inl ⟨by rfl, ?_⟩) (by assumption) ?_
    rotate_left 1
    ·((intro w hSw; (try dsimp only at hSw); go_simp); first | done | (with_reducible rfl))
    try simp only [Act.put, List.setIfInBounds_toArray, List.set_cons_zero, List.set_cons_succ]
    refine wpAnyH_take (i := 7) (oi := { dst := some 94, op := Go.Op.move (Go.Operand.tmp 6), type := 3, pos := "ref.go:263", after := #[{ on := 3, ground := Go.Ground.guard }], guard := some (3, true) }) (v := ?_) rfl (by kernel_rfl) (by kernel_rfl) (by kernel_rfl) (fun _ _ _ h => h) (Or.inl ⟨by rfl, ?_⟩) (by assumption) ?_
    rotate_left 1
    ·((intro w hSw; (try dsimp only at hSw); go_simp); first | done | (with_reducible rfl))
    try simp only [Act.put, List.setIfInBounds_toArray, List.set_cons_zero, List.set_cons_succ]
    refine wpAnyH_ready (rs := [6]) (by kernel_rfl) (by simp) ?_
    refine AllReadyH.cons (o := { dst := some 93, op := Go.Op.call { callee := Go.Callee.value (Go.Operand.func 75), args := #[], argTypes := #[] }, type := 86, pos := "ref.go:263", after := #[{ on := 3, ground := Go.Ground.chain }, { on := 3, ground := Go.Ground.guard }], guard := some (3, true) }) rfl (fun K hK => ?_) AllReadyH.nil
    go_simp
    refine (comparisons_ _).mono ?_
    rintro e w7 ⟨A7, c7, rfl, hcell, hb⟩
    obtain ⟨ad7, rfl, hcl⟩ := hcell k hk
    obtain ⟨sy, hs0⟩ : ∃ y, symB.getD k ⟨#[]⟩ = y := ⟨_, rfl⟩
    rw [hs0] at hcl
    have HSY := Aside0.mk hs0
    clear hcell hs0
    try go_wp2_with fail
    refine hK.out _ _ ?_ (fun hH1 => ?_)
    ·((try dsimp only); exact rt_cells (RT.below hH0.2.2 hb))
    clear hK K hH0
    try simp only [Act.put, List.setIfInBounds_toArray, List.set_cons_zero, List.set_cons_succ]
    refine wpAnyH_take (i := 8) (oi := { dst := some 95, op := Go.Op.indexAddr 86 (Go.Operand.tmp 93) (Go.Operand.tmp 94), type := 0, pos := "ref.go:263", after := #[{ on := 6, ground := Go.Ground.data }, { on := 7, ground := Go.Ground.data }, { on := 3, ground := Go.Ground.guard }], guard := some (3, true) }) (v := ?_) rfl (by kernel_rfl) (by kernel_rfl) (by kernel_rfl) (fun _ _ _ h => h) (Or.inl ⟨by rfl, ?_⟩) (by assumption) ?_
    rotate_left 1
    ·((intro w hSw; (try dsimp only at hSw); go_simp); first | done | (with_reducible rfl))
    try simp only [Act.put, List.setIfInBounds_toArray, List.set_cons_zero, List.set_cons_succ]
    refine wpAnyH_ready (rs := [9]) (by kernel_rfl) (by simp) ?_
    refine AllReadyH.cons (o := { dst := some 96, op := Go.Op.load 9 (Go.Operand.tmp 95), type := 9, pos := "ref.go:263", after := #[{ on := 8, ground := Go.Ground.data }, { on := 3, ground := Go.Ground.guard }], guard := some (3, true) }) rfl (fun K hK => ?_) AllReadyH.nil
    go_simp
    refine hK.out _ _ ?_ (fun hH2 => ?_)
    ·((try dsimp only); exact hH1)
    clear hK K hH1
    try simp only [Act.put, List.setIfInBounds_toArray, List.set_cons_zero, List.set_cons_succ]
    refine wpAnyH_take (i := 10) (oi := { dst := some 97, op := Go.Op.binOp Go.BinOp.eql 9 (Go.Operand.tmp 92) (Go.Operand.tmp 96) 9, type := 4, pos := "ref.go:263", after := #[{ on := 5, ground := Go.Ground.data }, { on := 9, ground := Go.Ground.data }, { on := 3, ground := Go.Ground.guard }], guard := some (3, true) }) (v := ?_) rfl (by kernel_rfl) (by kernel_rfl) (by kernel_rfl) (fun _ _ _ h => h) (Or.inl ⟨by rfl, ?_⟩) (by assumption) ?_
    rotate_left 1
    ·((intro w hSw; (try dsimp only at hSw); go_simp); first | done | (with_reducible rfl))
    try simp only [Act.put, List.setIfInBounds_toArray, List.set_cons_zero, List.set_cons_succ]
    refine wpAnyH_take (i := 11) (oi := { dst := some 98, op := Go.Op.pick (Go.Operand.tmp 90) (Go.Operand.tmp 97) (Go.Operand.const (Go.Value.bool false)), type := 4, pos := "ref.go:263", after := #[{ on := 3, ground := Go.Ground.data }, { on := 10, ground := Go.Ground.data }], guard := none }) (v := ?_) rfl (by kernel_rfl) (by kernel_rfl) (by kernel_rfl) (fun _ _ _ h => h) (Or.inl ⟨by rfl, ?_⟩) (by assumption) ?_
    rotate_left 1
    ·((intro w hSw; (try dsimp only at hSw); go_simp); first | done | (with_reducible rfl))
    try simp only [Act.put, List.setIfInBounds_toArray, List.set_cons_zero, List.set_cons_succ]
    refine wpAnyH_done (by kernel_rfl) ?_ _
    replace HR6 := Aside0.mk hH2.2.2
    clear hH2
    have hk2 := blk_cell HR6.out.box 2
    have hl2 := blk_frozen HR6.out.box 2
    cases hsy : tu.toList == sy.toList
    ·go_wp2
     go_roundw
     case rel => exact ⟨k + 1, by simp, by omega, by omega, ⟨by rw [if_pos H4.out, cmpTo_no (by rw [HSY.out]; exact hsy)]; have := HR6.out; rwa [if_pos H4.out] at this⟩⟩
     case measure => simp; omega
    ·go_wp2
     go_roundw
     case rel => exact ⟨k + 1, by simp, by omega, by omega, ⟨by rw [if_pos H4.out, cmpTo_yes hk1 (by rw [HSY.out]; exact hsy)]; exact HR6.out.setcmp k⟩⟩
     case measure => simp; omega
   ·have e4 : (ku == 4) = false := by simp [h4]
    have H4 := Aside0.mk h4
    clear h4
    have ht0 := blk_cell HR6.out.rn.tok 0
    go_wp2_with fail
    go_quiet (fail)
    go_wp2
    go_roundw
    case rel => exact ⟨k + 1, by simp, by omega, by omega, ⟨by rw [if_neg H4.out]; have := HR6.out; rw [if_neg H4.out] at this; exact this.below (below_drewN (Below.refl _ _) _)⟩⟩
    case measure => simp; omega
  ·obtain rfl : k = 7 := by omega
   have HR := Aside0.mk (show RT Z w w6 b n s2 g ⟨ku, au, nu, tu⟩ g2 tx cm 0 from by rw [← HCM.out]; exact HR6.out)
   clear HR6 hk hk1 hk7
   have hq2 := blk_cell HR.out.box 2
   have ht1 := blk_cell HR.out.rn.tok 1
   go_upto_if 103 with fail
   go_cut [] (fun wx => Aside0 (RT Z w wx b n s3 g ⟨ku, au, nu, tu⟩ g2 tx cm 0))
   case first =>
    by_cases hc : cm = 0
    ·have e0 : (cm == 0) = true := by simp [hc]
     have HC := Aside0.mk hc
     clear hc
     go_wp2_with fail
     refine (rfail_calls b n s2 5 au (by decide) _ HR.out.rn.par).mono ?_
     rintro e w9 ⟨rfl, hI, hS⟩
     go_wp2_with fail
     go_meet
     exact ⟨by rw [HS3.out, if_pos HC.out]; exact HR.out.step hI hS⟩
    ·have e0 : (cm == 0) = false := by simp [hc]
     have HC := Aside0.mk hc
     clear hc
     go_wp2_with fail
     go_meet
     exact ⟨by rw [HS3.out]; first | (rw [if_neg HC.out]; exact HR.out) | (rw [if_neg (Int.not_lt.2 HC.out)]; exact HR.out)⟩
   replace HR := hcut
   clear hcut
   clear hq2 ht1
   go_wp2_with fail
   refine (rtoken_calls b n s3 _ HR.out.rn.par).mono ?_
   rintro e w10 ⟨rfl, hI, hS⟩
   rw [HV.out] at hI ⊢
   replace HR := Aside0.mk (HR.out.step hI hS)
   clear hI hS
   have ht0 := blk_cell HR.out.rn.tok 0
   have hv0 := blk_frozen HR.out.rn.tok 0
   have ht1 := blk_cell HR.out.rn.tok 1
   have hv1 := blk_frozen HR.out.rn.tok 1
   have ht2 := blk_cell HR.out.rn.tok 2
   have hv2 := blk_frozen HR.out.rn.tok 2
   have ht3 := blk_cell HR.out.rn.tok 3
   have hv3 := blk_frozen HR.out.rn.tok 3
   go_upto_region 26 with fail
   obtain ⟨W10, hW10⟩ : ∃ W, ((((w10.setCell ⟨g, 0, none⟩ (.int .i64 kv)).setCell ⟨g, 1, none⟩ (.int .i64 av)).setCell ⟨g, 2, none⟩ (.int .i64 nv)).setCell ⟨g, 3, none⟩ (.string tv)) = W := ⟨_, rfl⟩
   have HQ := HR.out.settok ⟨kv, av, nv, tv⟩
   simp only at HQ
   rw [hW10] at HQ ⊢
   replace HR := Aside0.mk HQ
   clear HQ hW10 ht0 ht1 ht2 ht3 hv0 hv1 hv2 hv3
   have ht0 := blk_cell HR.out.rn.tok 0
   have ht1 := blk_cell HR.out.rn.tok 1
   go_upto_if 112 with fail
   go_cut [] (fun wx => Aside0 (RT Z w wx b n s5 g ⟨kv, av, nv, tv⟩ g2 tx cm 0))
   case first =>
    by_cases hc : kv ≠ 2
    ·have e2 : (kv != 2) = true := by simp [hc]
     have HC := Aside0.mk hc
     clear hc
     go_wp2_with fail
     refine (rfail_calls b n s4 5 av (by decide) _ HR.out.rn.par).mono ?_
     rintro e w9 ⟨rfl, hI, hS⟩
     go_wp2_with fail
     go_meet
     exact ⟨by rw [HS5.out, if_pos HC.out]; exact HR.out.step hI hS⟩
    ·have e2 : (kv != 2) = false := by simpa using hc
     have HC := Aside0.mk hc
     clear hc
     go_wp2_with fail
     go_meet
     exact ⟨by rw [HS5.out]; first | (rw [if_neg HC.out]; exact HR.out) | (rw [if_neg (Int.not_lt.2 HC.out)]; exact HR.out)⟩
   replace HR := hcut
   clear hcut
   clear ht0 ht1
   have ht1 := blk_cell HR.out.rn.tok 1
   have ht2 := blk_cell HR.out.rn.tok 2
   go_upto_if 119 with fail
   go_cut [] (fun wx => Aside0 (RT Z w wx b n s6 g ⟨kv, av, nv, tv⟩ g2 tx cm 0))
   case first =>
    by_cases hc : 1000000 < nv
    ·have e3 : decide (1000000 < nv) = true := decide_eq_true hc
     have HC := Aside0.mk hc
     skip
     go_wp2_with fail
     refine (rfail_calls b n s5 10 av (by decide) _ HR.out.rn.par).mono ?_
     rintro e w9 ⟨rfl, hI, hS⟩
     go_wp2_with fail
     go_meet
     exact ⟨by rw [HS6.out, if_pos HC.out]; exact HR.out.step hI hS⟩
    ·have e3 : decide (1000000 < nv) = false := decide_eq_false hc
     have HC := Aside0.mk hc
     skip
     go_wp2_with fail
     go_meet
     exact ⟨by rw [HS6.out]; first | (rw [if_neg HC.out]; exact HR.out) | (rw [if_neg (Int.not_lt.2 HC.out)]; exact HR.out)⟩
   replace HR := hcut
   clear hcut
   clear ht1 ht2
   have ht2 := blk_cell HR.out.rn.tok 2
   have hb3 := blk_cell HR.out.box 3
   have hl3 := blk_frozen HR.out.box 3
   have HR9 := HR.out.setn nv
   go_upto_region 31 with fail
   obtain ⟨W9, hW9⟩ : ∃ W, wc.setCell ⟨g2, 3, none⟩ (.int .i64 nv) = W := ⟨_, rfl⟩
   rw [hW9] at HR9 ⊢
   replace HR := Aside0.mk HR9
   clear HR9 hW9 ht2 hb3 hl3
   have hj0 := blk_cell HR.out.box 0
   have hj1 := blk_cell HR.out.box 1
   have hj2 := blk_cell HR.out.box 2
   have hj3 := blk_cell HR.out.box 3
   have hj4 := blk_cell HR.out.box 4
   have hf0 := blk_cell HR.out.rn.res 0
   have hg0 := blk_frozen HR.out.rn.res 0
   have hf1 := blk_cell HR.out.rn.res 1
   have hg1 := blk_frozen HR.out.rn.res 1
   have hf2 := blk_cell HR.out.rn.res 2
   have hg2 := blk_frozen HR.out.rn.res 2
   have hf3 := blk_cell HR.out.rn.res 3
   have hg3 := blk_frozen HR.out.rn.res 3
   have hf4 := blk_cell HR.out.rn.res 4
   have hg4 := blk_frozen HR.out.rn.res 4
   go_wp2
   refine bodyPost_ret (results_cell_row rfl _ _ w.heap.size 24 #[.int .i64 3, .string tx, .int .i64 cm, .int .i64 nv, .slice none 0 0] (0, 0) _ rfl HR.out.done.1 Tryz.underlying24 rfl (by kernel_rfl)) rfl ?_
   exact HR.out.done.2
set_option maxHeartbeats 4000000 in
set_option maxRecDepth 100000 in
theorem rnot_test_other (b : Nat) (n : Int) (s : PS) (t : Tok) (s1 : PS) (ht : takeP n s = (t, s1)) (h1 : t.f0 ≠ 1) (h4 : t.f0 ≠ 4) (w : World) (h : IsR Z w b n s) :
  Calls Tryz.prog 107 #[.pointer (some ⟨b, 0, none⟩)] w (RPost Z b n w (rtestP n t.f3 (failP 5 t.f1 s1)).1 (rtestP n t.f3 (failP 5 t.f1 s1)).2) := by
 have hlt := h.lt
 have HT := Aside0.mk ht
 have H := Aside0.mk h
 obtain ⟨kd, at_, num, tx⟩ := t
 simp only at h1 h4 ⊢
 clear h ht
 have c1 : (kd == 1) = false := by simp [h1]
 have c1n : (kd != 1) = true := by simp [h1]
 have c4 : (kd == 4) = false := by simp [h4]
 clear h1 h4
 obtain ⟨sA, hA⟩ : ∃ q, failP 5 at_ s1 = q := ⟨_, rfl⟩
 rw [hA]
 have HA := Aside0.mk hA
 clear hA
 obtain ⟨⟨⟨ku, au, nu, tu⟩, s2⟩, hu⟩ : ∃ q, takeP n sA = q := ⟨_, rfl⟩
 obtain ⟨cm, hcm⟩ : ∃ q, (if ku = 4 then cmpTo tu 7 else 0) = q := ⟨_, rfl⟩
 obtain ⟨s3, h3⟩ : ∃ q, (if cm = 0 then failP 5 au s2 else s2) = q := ⟨_, rfl⟩
 obtain ⟨⟨⟨kv, av, nv, tv⟩, s4⟩, hv⟩ : ∃ q, takeP n s3 = q := ⟨_, rfl⟩
 obtain ⟨s5, h5⟩ : ∃ q, (if kv ≠ 2 then failP 5 av s4 else s4) = q := ⟨_, rfl⟩
 obtain ⟨s6, h6⟩ : ∃ q, (if 1000000 < nv then failP 10 av s5 else s5) = q := ⟨_, rfl⟩
 have hX : rtestP n tx sA = (⟨3, tx, cm, nv, []⟩, s6) := by
  unfold rtestP cmpR
  simp only [hu, hcm, h3, hv, h5, h6]
 rw [hX]
 have HU := Aside0.mk hu
 have HCM := Aside0.mk hcm
 have HS3 := Aside0.mk h3.symm
 have HV := Aside0.mk hv
 have HS5 := Aside0.mk h5.symm
 have HS6 := Aside0.mk h6.symm
 clear hu hcm h3 hv h5 h6 hX
 go_enter Tryz.func107, Tryz.ntmps107
 go_wp2_with fail
 refine (rtoken_calls b n s _ (H.out.below (below_alloc (Below.refl _ _) _))).mono ?_
 rintro e w1 ⟨rfl, hI, hS⟩
 rw [HT.out] at hI ⊢
 have HO := Aside0.mk (rn_start ⟨kd, at_, num, tx⟩ H.out hI hS)
 have hz1 : w.heap.size < w1.heap.size := HO.out.hg
 clear hI hS
 go_upto_region 2 with fail
 obtain ⟨W1, hW1⟩ : ∃ W, w1.alloc (.cells #[.int .i64 kd, .int .i64 at_, .int .i64 num, .string tx] 75) = W := ⟨_, rfl⟩
 obtain ⟨g, hg⟩ : ∃ g, w1.heap.size = g := ⟨_, rfl⟩
 rw [hW1, hg] at HO
 rw [hW1]
 simp only [hg] at hz1 ⊢
 clear hW1 hg
 have ht0 := blk_cell HO.out.tok 0
 have ht1 := blk_cell HO.out.tok 1
 have ht3 := blk_cell HO.out.tok 3
 go_wp2_with fail
 refine (rfail_calls b n s1 5 at_ (by decide) _ HO.out.par).mono ?_
 rintro e Wa ⟨rfl, hI, hS⟩
 rw [HA.out] at hI
 replace HO := Aside0.mk (HO.out.step hI hS)
 clear hI hS ht0 ht1 ht3
 have ht3 := blk_cell HO.out.tok 3
 go_upto_region 17 with fail
 obtain ⟨W2, hW2⟩ : ∃ W, Wa.alloc (.cells #[.int .i64 3, .string tx, .int .i64 0, .int .i64 0, .slice none 0 0] 24) = W := ⟨_, rfl⟩
 obtain ⟨g2, hg2⟩ : ∃ g2, Wa.heap.size = g2 := ⟨_, rfl⟩
 have HR := Aside0.mk (show RT Z w W2 b n sA g ⟨kd, at_, num, tx⟩ g2 tx 0 0 from hW2 ▸ hg2 ▸ ⟨HO.out.alloc _, blk_new _ _ rfl, HO.out.glt⟩)
 rw [hW2]
 simp only [hg2]
 clear hW2 hg2 HO ht3
 go_wp2_with fail
 refine (rtoken_calls b n sA _ HR.out.rn.par).mono ?_
 rintro e w3 ⟨rfl, hI, hS⟩
 rw [HU.out] at hI ⊢
 replace HR := Aside0.mk (HR.out.step hI hS)
 clear hI hS
 have ht0 := blk_cell HR.out.rn.tok 0
 have hv0 := blk_frozen HR.out.rn.tok 0
 have ht1 := blk_cell HR.out.rn.tok 1
 have hv1 := blk_frozen HR.out.rn.tok 1
 have ht2 := blk_cell HR.out.rn.tok 2
 have hv2 := blk_frozen HR.out.rn.tok 2
 have ht3 := blk_cell HR.out.rn.tok 3
 have hv3 := blk_frozen HR.out.rn.tok 3
 go_upto_region 18 with fail
 obtain ⟨W4, hW4⟩ : ∃ W, ((((w3.setCell ⟨g, 0, none⟩ (.int .i64 ku)).setCell ⟨g, 1, none⟩ (.int .i64 au)).setCell ⟨g, 2, none⟩ (.int .i64 nu)).setCell ⟨g, 3, none⟩ (.string tu)) = W := ⟨_, rfl⟩
 have HQ := HR.out.settok ⟨ku, au, nu, tu⟩
 simp only at HQ
 rw [hW4] at HQ ⊢
 replace HR := Aside0.mk HQ
 clear HQ hW4 ht0 ht1 ht2 ht3 hv0 hv1 hv2 hv3
 go_wp2
 go_loopw [6] (fun v6 wr => ∃ k : Nat, v6 = .int .i64 (k : Int) ∧ 1 ≤ k ∧ k ≤ 7 ∧ Aside0 (RT Z w wr b n s2 g ⟨ku, au, nu, tu⟩ g2 tx (if ku = 4 then cmpTo tu k else 0) 0)) (fun v6 _ => match v6 with | .int _ i => 7 - i.toNat | _ => 0)
 case atStart => exact ⟨1, rfl, by omega, by omega, ⟨by simpa [cmpTo] using HR.out⟩⟩
 case round =>
  obtain ⟨k, rfl, hk1, hk7, HR5⟩ := hrel
  clear HR
  go_wp2_with fail
  refine (comparisons_ _).mono ?_
  rintro e w6 ⟨A6, c6, rfl, hcell6, hb⟩
  have HR6 := Aside0.mk (HR5.out.below hb)
  clear hcell6 hb HR5
  by_cases hk : k < 7
  ·by_cases h4 : ku = 4
   ·have e4 : (ku == 4) = true := by simp [h4]
    have H4 := Aside0.mk h4
    clear h4
    have i1 : (0 : Int) ≤ (k : Int) := by omega
    have i2 : (k : Int) < 7 := by omega
    go_wp2_with fail
    refine wp_region_held_drew (S := (fun w' => w'.cell? ⟨g, 0, none⟩ = some (.int .i64 ku) ∧ w'.cell? ⟨g, 3, none⟩ = some (.string tu) ∧ RT Z w w' b n s2 g ⟨ku, au, nu, tu⟩ g2 tx (if ku = 4 then cmpTo tu k else 0) 0)) (by kernel_rfl) ?_ (fun hH0 => ?_)
    ·exact rt_cells (RT.below HR6.out (below_drew (Below.refl _ _)))
    refine wpAnyH_take (i := 0) (oi := { dst := some 87, op := Go.Op.fieldAddr 75 (Go.Operand.tmp 3) 0, type := 0, pos := "ref.go:263", after := #[], guard := none }) (v := ?_) rfl (by kernel_rfl) (by kernel_rfl) (by kernel_rfl) (fun _ _ _ h => h) (Or.inl ⟨by rfl, ?_⟩) (by assumption) ?_
    rotate_left 1
    ·((intro w hSw; (try dsimp only at hSw); go_simp); first | done | (with_reducible rfl))
    try simp only [Act.put, List.setIfInBounds_toArray, List.set_cons_zero, List.set_cons_succ]
    refine wpAnyH_take (i := 1) (oi := { dst := some 88, op := Go.Op.load 3 (Go.Operand.tmp 87), type := 3, pos := "ref.go:263", after := #[{ on := 0, ground := Go.Ground.data }], guard := none }) (v := ?_) rfl (by kernel_rfl) (by kernel_rfl) (by kernel_rfl) (fun _ _ _ h => h) (Or.inl ⟨by rfl, ?_⟩) (by assumption) ?_
    rotate_left 1
    ·((intro w hSw; (try dsimp only at hSw); go_simp); first | done | (with_reducible rfl))
    try simp only [Act.put, List.setIfInBounds_toArray, List.set_cons_zero, List.set_cons_succ]
    refine wpAnyH_take (i := 2) (oi := { dst := some 89, op := Go.Op.binOp Go.BinOp.eql 3 (Go.Operand.tmp 88) (Go.Operand.const (Go.Value.int Go.IntKind.i64 4)) 3, type := 4, pos := "ref.go:263", after := #[{ on := 1, ground := Go.Ground.data }], guard := none }) (v := ?_) rfl (by kernel_rfl) (by kernel_rfl) (by kernel_rfl) (fun _ _ _ h => h) (Or.inl ⟨by rfl, ?_⟩) (by assumption) ?_
    rotate_left 1
    ·((intro w hSw; (try dsimp only at hSw); go_simp); first | done | (with_reducible rfl))
    try simp only [Act.put, List.setIfInBounds_toArray, List.set_cons_zero, List.set_cons_succ]
    refine wpAnyH_take (i := 3) (oi := { dst := some 90, op := Go.Op.move (Go.Operand.tmp 89), type := 4, pos := "ref.go:263", after := #[{ on := 2, ground := Go.Ground.data }], guard := none }) (v := ?_) rfl (by kernel_rfl) (by kernel_rfl) (by kernel_rfl) (fun _ _ _ h => h) (Or.inl ⟨by rfl, ?_⟩) (by assumption) ?_
    rotate_left 1
    ·((intro w hSw; (try dsimp only at hSw); go_simp); first | done | (with_reducible rfl))
    try simp only [Act.put, List.setIfInBounds_toArray, List.set_cons_zero, List.set_cons_succ]
    refine wpAnyH_take (i := 4) (oi := { dst := some 91, op := Go.Op.fieldAddr 75 (Go.Operand.tmp 3) 3, type := 0, pos := "ref.go:263", after := #[{ on := 3, ground := Go.Ground.guard }], guard := some (3, true) }) (v := ?_) rfl (by kernel_rfl) (by kernel_rfl) (by kernel_rfl) (fun _ _ _ h => h) (Or.inl ⟨by rfl, ?_⟩) (by assumption) ?_
    rotate_left 1
    ·((intro w hSw; (try dsimp only at hSw); go_simp); first | done | (with_reducible rfl))
    try simp only [Act.put, List.setIfInBounds_toArray, List.set_cons_zero, List.set_cons_succ]
    refine wpAnyH_take (i := 5) (oi := { dst := some 92, op := Go.Op.load 9 (Go.Operand.tmp 91), type := 9, pos := "ref.go:263", after := #[{ on := 4, ground := Go.Ground.data }, { on := 3, ground := Go.Ground.guard }], guard := some (3, true) }) (v := ?_) rfl (by kernel_rfl) (by kernel_rfl) (by kernel_rfl) (fun _ _ _ h => h) (Or.inl ⟨by rfl, ?_⟩) (by assumption) ?_
    rotate_left 1
    ·((intro w hSw; (try dsimp only at hSw); go_simp); first | done | (with_reducible rfl))
    try simp only [Act.put, List.setIfInBounds_toArray, List.set_cons_zero, List.set_cons_succ]
    refine wpAnyH_take (i := 7) (oi := { dst := some 94, op := Go.Op.move (Go.Operand.tmp 6), type := 3, pos := "ref.go:263", after := #[{ on := 3, ground := Go.Ground.guard }], guard := some (3, true) }) (v := ?_) rfl (by kernel_rfl) (by kernel_rfl) (by kernel_rfl) (fun _ _ _ h => h) (Or.inl ⟨by rfl, ?_⟩) (by assumption) ?_
    rotate_left 1
    ·((intro w hSw; (try dsimp only at hSw); go_simp); first | done | (with_reducible rfl))
    try simp only [Act.put, List.setIfInBounds_toArray, List.set_cons_zero, List.set_cons_succ]
    refine wpAnyH_ready (rs := [6]) (by kernel_rfl) (by simp) ?_
    refine AllReadyH.cons (o := { dst := some 93, op := Go.Op.call { callee := Go.Callee.value (Go.Operand.func 75), args := #[], argTypes := #[] }, type := 86, pos := "ref.go:263", after := #[{ on := 3, ground := Go.Ground.chain }, { on := 3, ground := Go.Ground.guard }], guard := some (3, true) }) rfl (fun K hK => ?_) AllReadyH.nil
    go_simp
    refine (comparisons_ _).mono ?_
    rintro e w7 ⟨A7, c7, rfl, hcell, hb⟩
    obtain ⟨ad7, rfl, hcl⟩ := hcell k hk
    obtain ⟨sy, hs0⟩ : ∃ y, symB.getD k ⟨#[]⟩ = y := ⟨_, rfl⟩
    rw [hs0] at hcl
    have HSY := Aside0.mk hs0
    clear hcell hs0
    try go_wp2_with fail
    refine hK.out _ _ ?_ (fun hH1 => ?_)
    ·((try dsimp only); exact rt_cells (RT.below hH0.2.2 hb))
    clear hK K hH0
    try simp only [Act.put, List.setIfInBounds_toArray, List.set_cons_zero, List.set_cons_succ]
    refine wpAnyH_take (i := 8) (oi := { dst := some 95, op := Go.Op.indexAddr 86 (Go.Operand.tmp 93) (Go.Operand.tmp 94), type := 0, pos := "ref.go:263", after := #[{ on := 6, ground := Go.Ground.data }, { on := 7, ground := Go.Ground.data }, { on := 3, ground := Go.Ground.guard }], guard := some (3, true) }) (v := ?_) rfl (by kernel_rfl) (by kernel_rfl) (by kernel_rfl) (fun _ _ _ h => h) (Or.inl ⟨by rfl, ?_⟩) (by assumption) ?_
    rotate_left 1
    ·((intro w hSw; (try dsimp only at hSw); go_simp); first | done | (with_reducible rfl))
    try simp only [Act.put, List.setIfInBounds_toArray, List.set_cons_zero, List.set_cons_succ]
    refine wpAnyH_ready (rs := [9]) (by kernel_rfl) (by simp) ?_
    refine AllReadyH.cons (o := { dst := some 96, op := Go.Op.load 9 (Go.Operand.tmp 95), type := 9, pos := "ref.go:263", after := #[{ on := 8, ground := Go.Ground.data }, { on := 3, ground := Go.Ground.guard }], guard := some (3, true) }) rfl (fun K hK => ?_) AllReadyH.nil
    go_simp
    refine hK.out _ _ ?_ (fun hH2 => ?_)
    ·((try dsimp only); exact hH1)
    clear hK K hH1
    try simp only [Act.put, List.setIfInBounds_toArray, List.set_cons_zero, List.set_cons_succ]
    refine wpAnyH_take (i := 10) (oi := { dst := some 97, op := Go.Op.binOp Go.BinOp.eql 9 (Go.Operand.tmp 92) (Go.Operand.tmp 96) 9, type := 4, pos := "ref.go:263", after := #[{ on := 5, ground := Go.Ground.data }, { on := 9, ground := Go.Ground.data }, { on := 3, ground := Go.Ground.guard }], guard := some (3, true) }) (v := ?_) rfl (by kernel_rfl) (by kernel_rfl) (by kernel_rfl) (fun _ _ _ h => h) (Or.inl ⟨by rfl, ?_⟩) (by assumption) ?_
    rotate_left 1
    ·((intro w hSw; (try dsimp only at hSw); go_simp); first | done | (with_reducible rfl))
    try simp only [Act.put, List.setIfInBounds_toArray, List.set_cons_zero, List.set_cons_succ]
    refine wpAnyH_take (i := 11) (oi := { dst := some 98, op := Go.Op.pick (Go.Operand.tmp 90) (Go.Operand.tmp 97) (Go.Operand.const (Go.Value.bool false)), type := 4, pos := "ref.go:263", after := #[{ on := 3, ground := Go.Ground.data }, { on := 10, ground := Go.Ground.data }], guard := none }) (v := ?_) rfl (by kernel_rfl) (by kernel_rfl) (by kernel_rfl) (fun _ _ _ h => h) (Or.inl ⟨by rfl, ?_⟩) (by assumption) ?_
    rotate_left 1
    ·((intro w hSw; (try dsimp only at hSw); go_simp); first | done | (with_reducible rfl))
    try simp only [Act.put, List.setIfInBounds_toArray, List.set_cons_zero, List.set_cons_succ]
    refine wpAnyH_done (by kernel_rfl) ?_ _
    replace HR6 := Aside0.mk hH2.2.2
    clear hH2
    have hk2 := blk_cell HR6.out.box 2
    have hl2 := blk_frozen HR6.out.box 2
    cases hsy : tu.toList == sy.toList
    ·go_wp2
     go_roundw
     case rel => exact ⟨k + 1, by simp, by omega, by omega, ⟨by rw [if_pos H4.out, cmpTo_no (by rw [HSY.out]; exact hsy)]; have := HR6.out; rwa [if_pos H4.out] at this⟩⟩
     case measure => simp; omega
    ·go_wp2
     go_roundw
     case rel => exact ⟨k + 1, by simp, by omega, by omega, ⟨by rw [if_pos H4.out, cmpTo_yes hk1 (by rw [HSY.out]; exact hsy)]; exact HR6.out.setcmp k⟩⟩
     case measure => simp; omega
   ·have e4 : (ku == 4) = false := by simp [h4]
    have H4 := Aside0.mk h4
    clear h4
    have ht0 := blk_cell HR6.out.rn.tok 0
    go_wp2_with fail
    go_quiet (fail)
    go_wp2
    go_roundw
    case rel => exact ⟨k + 1, by simp, by omega, by omega, ⟨by rw [if_neg H4.out]; have := HR6.out; rw [if_neg H4.out] at this; exact this.below (below_drewN (Below.refl _ _) _)⟩⟩
    case measure => simp; omega
  ·obtain rfl : k = 7 := by omega
   have HR := Aside0.mk (show RT Z w w6 b n s2 g ⟨ku, au, nu, tu⟩ g2 tx cm 0 from by rw [← HCM.out]; exact HR6.out)
   clear HR6 hk hk1 hk7
   have hq2 := blk_cell HR.out.box 2
   have ht1 := blk_cell HR.out.rn.tok 1
   go_upto_if 103 with fail
   go_cut [] (fun wx => Aside0 (RT Z w wx b n s3 g ⟨ku, au, nu, tu⟩ g2 tx cm 0))
   case first =>
    by_cases hc : cm = 0
    ·have e0 : (cm == 0) = true := by simp [hc]
     have HC := Aside0.mk hc
     clear hc
     go_wp2_with fail
     refine (rfail_calls b n s2 5 au (by decide) _ HR.out.rn.par).mono ?_
     rintro e w9 ⟨rfl, hI, hS⟩
     go_wp2_with fail
     go_meet
     exact ⟨by rw [HS3.out, if_pos HC.out]; exact HR.out.step hI hS⟩
    ·have e0 : (cm == 0) = false := by simp [hc]
     have HC := Aside0.mk hc
     clear hc
     go_wp2_with fail
     go_meet
     exact ⟨by rw [HS3.out]; first | (rw [if_neg HC.out]; exact HR.out) | (rw [if_neg (Int.not_lt.2 HC.out)]; exact HR.out)⟩
   replace HR := hcut
   clear hcut
   clear hq2 ht1
   go_wp2_with fail
   refine (rtoken_calls b n s3 _ HR.out.rn.par).mono ?_
   rintro e w10 ⟨rfl, hI, hS⟩
   rw [HV.out] at hI ⊢
   replace HR := Aside0.mk (HR.out.step hI hS)
   clear hI hS
   have ht0 := blk_cell HR.out.rn.tok 0
   have hv0 := blk_frozen HR.out.rn.tok 0
   have ht1 := blk_cell HR.out.rn.tok 1
   have hv1 := blk_frozen HR.out.rn.tok 1
   have ht2 := blk_cell HR.out.rn.tok 2
   have hv2 := blk_frozen HR.out.rn.tok 2
   have ht3 := blk_cell HR.out.rn.tok 3
   have hv3 := blk_frozen HR.out.rn.tok 3
   go_upto_region 26 with fail
   obtain ⟨W10, hW10⟩ : ∃ W, ((((w10.setCell ⟨g, 0, none⟩ (.int .i64 kv)).setCell ⟨g, 1, none⟩ (.int .i64 av)).setCell ⟨g, 2, none⟩ (.int .i64 nv)).setCell ⟨g, 3, none⟩ (.string tv)) = W := ⟨_, rfl⟩
   have HQ := HR.out.settok ⟨kv, av, nv, tv⟩
   simp only at HQ
   rw [hW10] at HQ ⊢
   replace HR := Aside0.mk HQ
   clear HQ hW10 ht0 ht1 ht2 ht3 hv0 hv1 hv2 hv3
   have ht0 := blk_cell HR.out.rn.tok 0
   have ht1 := blk_cell HR.out.rn.tok 1
   go_upto_if 112 with fail
   go_cut [] (fun wx => Aside0 (RT Z w wx b n s5 g ⟨kv, av, nv, tv⟩ g2 tx cm 0))
   case first =>
    by_cases hc : kv ≠ 2
    ·have e2 : (kv != 2) = true := by simp [hc]
     have HC := Aside0.mk hc
     clear hc
     go_wp2_with fail
     refine (rfail_calls b n s4 5 av (by decide) _ HR.out.rn.par).mono ?_
     rintro e w9 ⟨rfl, hI, hS⟩
     go_wp2_with fail
     go_meet
     exact ⟨by rw [HS5.out, if_pos HC.out]; exact HR.out.step hI hS⟩
    ·have e2 : (kv != 2) = false := by simpa using hc
     have HC := Aside0.mk hc
     clear hc
     go_wp2_with fail
     go_meet
     exact ⟨by rw [HS5.out]; first | (rw [if_neg HC.out]; exact HR.out) | (rw [if_neg (Int.not_lt.2 HC.out)]; exact HR.out)⟩
   replace HR := hcut
   clear hcut
   clear ht0 ht1
   have ht1 := blk_cell HR.out.rn.tok 1
   have ht2 := blk_cell HR.out.rn.tok 2
   go_upto_if 119 with fail
   go_cut [] (fun wx => Aside0 (RT Z w wx b n s6 g ⟨kv, av, nv, tv⟩ g2 tx cm 0))
   case first =>
    by_cases hc : 1000000 < nv
    ·have e3 : decide (1000000 < nv) = true := decide_eq_true hc
     have HC := Aside0.mk hc
     skip
     go_wp2_with fail
     refine (rfail_calls b n s5 10 av (by decide) _ HR.out.rn.par).mono ?_
     rintro e w9 ⟨rfl, hI, hS⟩
     go_wp2_with fail
     go_meet
     exact ⟨by rw [HS6.out, if_pos HC.out]; exact HR.out.step hI hS⟩
    ·have e3 : decide (1000000 < nv) = false := decide_eq_false hc
     have HC := Aside0.mk hc
     skip
     go_wp2_with fail
     go_meet
     exact ⟨by rw [HS6.out]; first | (rw [if_neg HC.out]; exact HR.out) | (rw [if_neg (Int.not_lt.2 HC.out)]; exact HR.out)⟩
   replace HR := hcut
   clear hcut
   clear ht1 ht2
   have ht2 := blk_cell HR.out.rn.tok 2
   have hb3 := blk_cell HR.out.box 3
   have hl3 := blk_frozen HR.out.box 3
   have HR9 := HR.out.setn nv
   go_upto_region 31 with fail
   obtain ⟨W9, hW9⟩ : ∃ W, wc.setCell ⟨g2, 3, none⟩ (.int .i64 nv) = W := ⟨_, rfl⟩
   rw [hW9] at HR9 ⊢
   replace HR := Aside0.mk HR9
   clear HR9 hW9 ht2 hb3 hl3
   have hj0 := blk_cell HR.out.box 0
   have hj1 := blk_cell HR.out.box 1
   have hj2 := blk_cell HR.out.box 2
   have hj3 := blk_cell HR.out.box 3
   have hj4 := blk_cell HR.out.box 4
   have hf0 := blk_cell HR.out.rn.res 0
   have hg0 := blk_frozen HR.out.rn.res 0
   have hf1 := blk_cell HR.out.rn.res 1
   have hg1 := blk_frozen HR.out.rn.res 1
   have hf2 := blk_cell HR.out.rn.res 2
   have hg2 := blk_frozen HR.out.rn.res 2
   have hf3 := blk_cell HR.out.rn.res 3
   have hg3 := blk_frozen HR.out.rn.res 3
   have hf4 := blk_cell HR.out.rn.res 4
   have hg4 := blk_frozen HR.out.rn.res 4
   go_wp2
   refine bodyPost_ret (results_cell_row rfl _ _ w.heap.size 24 #[.int .i64 3, .string tx, .int .i64 cm, .int .i64 nv, .slice none 0 0] (0, 0) _ rfl HR.out.done.1 Tryz.underlying24 rfl (by kernel_rfl)) rfl ?_
   exact HR.out.done.2
end Go.Proofs.YtkgmempifggajaaGreatDoor.P
/- The reference's (*Reader).not, for every state; what it reads is what the program reads. -/
namespace Go.Proofs.YtkgmempifggajaaGreatDoor.P
set_option linter.unusedVariables false
set_option linter.unusedSimpArgs false
variable {Z : RZ}
theorem rtestP_small (n : Int) (name : ByteArray) : Small2 (rtestP n name) := by
 intro s
 have h1 := takeP_len n s
 have h2 := failP_len 5 (takeP n s).1.f1 (takeP n s).2
 simp only [rtestP]
 obtain ⟨s3, h3⟩ : ∃ s3, (if cmpR (takeP n s).1 = 0 then failP 5 (takeP n s).1.f1 (takeP n s).2 else (takeP n s).2) = s3 := ⟨_, rfl⟩
 have h4 : s3.toks.length ≤ s.toks.length := by rw [← h3]; split <;> omega
 rw [h3]
 have h5 := takeP_len n s3
 have h6 := failP_len 5 (takeP n s3).1.f1 (takeP n s3).2
 obtain ⟨s5, h7⟩ : ∃ s5, (if (takeP n s3).1.f0 ≠ 2 then failP 5 (takeP n s3).1.f1 (takeP n s3).2 else (takeP n s3).2) = s5 := ⟨_, rfl⟩
 have h8 : s5.toks.length ≤ s.toks.length := by rw [← h7]; split <;> omega
 rw [h7]
 have h9 := failP_len 10 (takeP n s3).1.f1 s5
 rw [size_eq]
 simp only [sizes]
 split <;> omega
theorem rnotP_small (n : Int) (f : Nat) : Small2 (rnotP n f) := by
 induction f with
 | zero => intro s; simp only [rnotP]; show size z24 + _ ≤ _; rw [size_eq]; simp [z24, sizes]; omega
 | succ f ih =>
  intro s
  obtain ⟨⟨t, s1⟩, ht⟩ : ∃ q, takeP n s = q := ⟨_, rfl⟩
  have hl := takeP_len n s
  have hf := failP_len 5 t.f1 s1
  rw [ht] at hl
  simp only at hl
  simp only [rnotP, ht]
  have hsm := takeP_some ht
  split
  ·rename_i h1
   have h2 := hsm (by rw [h1.1]; decide)
   have := ih s1
   simp only [size_eFm, sizes]; omega
  ·split
   ·rename_i h1
    have h2 := hsm (by rw [h1.1]; decide)
    have h3 := (listP_small (listP_small ih 5 wAnd) 6 wOr) s1
    have h4 := takeP_len n (eitherP (rnotP n f) s1).2
    have h5 := failP_len 5 (takeP n (eitherP (rnotP n f) s1).2).1.f1 (takeP n (eitherP (rnotP n f) s1).2).2
    simp only [closeP]
    unfold eitherP at h4 h5 ⊢
    split <;> omega
   ·split
    ·rename_i h1
     simp only [size_eFm, sizes]; omega
    ·split
     ·simp only [size_eFm, sizes]; omega
     ·have h3 := rtestP_small n t.f3 (if t.f0 ≠ 1 ∨ isKey t.f3 = true then failP 5 t.f1 s1 else s1)
      have h4 : (if t.f0 ≠ 1 ∨ isKey t.f3 = true then failP 5 t.f1 s1 else s1).toks.length ≤ s1.toks.length := by split <;> omega
      omega
theorem rnot_all (L : Nat) : ∀ f, L < f → L ≤ 100000 → ∀ (b : Nat) (n : Int), At_rnot Z L b n (rnotP n f) := by
 induction L with
 | zero =>
  intro f hf hL b n s w hs hI
  obtain ⟨f, rfl⟩ : ∃ g, f = g + 1 := ⟨f - 1, by omega⟩
  obtain ⟨⟨t, s1⟩, ht⟩ : ∃ q, takeP n s = q := ⟨_, rfl⟩
  have h0 : t.f0 = 0 := Decidable.byContradiction (fun h => by have := takeP_some ht h; omega)
  simp only [rnotP, ht]
  rw [if_neg (by rw [h0]; exact fun h => absurd h.1 (by decide)), if_neg (by rw [h0]; exact fun h => absurd h.1 (by decide)), if_neg (by rw [h0]; exact fun h => absurd h.1 (by decide)), if_neg (by rw [h0]; exact fun h => absurd h.1 (by decide)), if_pos (.inl (by rw [h0]; decide))]
  exact rnot_test_other b n s t s1 ht (by rw [h0]; decide) (by rw [h0]; decide) w hI
 | succ L ih =>
  intro f hf hL b n s w hs hI
  obtain ⟨f, rfl⟩ : ∃ g, f = g + 1 := ⟨f - 1, by omega⟩
  obtain ⟨⟨t, s1⟩, ht⟩ : ∃ q, takeP n s = q := ⟨_, rfl⟩
  have hsm := takeP_some ht
  have IH := ih f (by omega) (by omega) b n
  simp only [rnotP, ht]
  by_cases h1 : t.f0 = 1
  ·have hl := hsm (by rw [h1]; decide)
   by_cases n1 : t.f3.toList = lNot
   ·rw [if_pos ⟨h1, n1⟩]
    exact rnot_not b n s t s1 ht h1 n1 (rnotP n f) (fun w h => IH s1 w (by omega) h) w hI
   rw [if_neg (fun h => n1 h.2), if_neg (fun h => by rw [h1] at h; exact absurd h.1 (by decide))]
   by_cases n2 : t.f3.toList = lTrue
   ·rw [if_pos ⟨h1, n2⟩]
    exact rnot_true b n s t s1 ht h1 n2 w hI
   rw [if_neg (fun h => n2 h.2)]
   by_cases n3 : t.f3.toList = lFalse
   ·rw [if_pos ⟨h1, n3⟩]
    exact rnot_false b n s t s1 ht h1 n3 w hI
   rw [if_neg (fun h => n3 h.2)]
   cases hk : isKey t.f3
   ·rw [if_neg (fun h => h.elim (fun h => h h1) (fun h => by cases h))]
    exact rnot_test_name b n s t s1 ht h1 hk n1 n2 n3 w hI
   ·rw [if_pos (.inr rfl)]
    exact rnot_test_key b n s t s1 ht h1 hk n1 n2 n3 w hI
  ·rw [if_neg (fun h => h1 h.1)]
   by_cases h4 : t.f0 = 4
   ·have hl := hsm (by rw [h4]; decide)
    by_cases h40 : t.f3.toList = [40]
    ·rw [if_pos ⟨h4, h40⟩]
     refine rnot_paren b n s t s1 ht h4 h40 (eitherP (rnotP n f)) (fun w h => ?_) w hI
     have hA := rand_calls L (by omega) b n (rnotP n f) IH (small_shrinks (rnotP_small n f))
     exact rformula_calls L (by omega) b n (listP (rnotP n f) 5 wAnd) hA (small_shrinks (listP_small (rnotP_small n f) 5 wAnd)) s1 w (by omega) h
    ·rw [if_neg (fun h => h40 h.2), if_neg (fun h => h1 h.1), if_neg (fun h => h1 h.1), if_pos (.inl h1)]
     exact rnot_test_sym b n s t s1 ht h4 h40 w hI
   ·rw [if_neg (fun h => h4 h.1), if_neg (fun h => h1 h.1), if_neg (fun h => h1 h.1), if_pos (.inl h1)]
    exact rnot_test_other b n s t s1 ht h1 h4 w hI
theorem rformula_all (L : Nat) (f : Nat) (hf : L < f) (hL : L ≤ 100000) (b : Nat) (n : Int) : At_rformula Z L b n (eitherP (rnotP n f)) :=
 rformula_calls L hL b n (listP (rnotP n f) 5 wAnd) (rand_calls L hL b n (rnotP n f) (rnot_all L f hf hL b n) (small_shrinks (rnotP_small n f))) (small_shrinks (listP_small (rnotP_small n f) 5 wAnd))
theorem failP_sticky (e a : Int) (he : e ≠ 0) (s : PS) (h : s.err ≠ 0 → s.toks = []) : ((failP e a s).err = 0 → s.err = 0) ∧ ((failP e a s).err ≠ 0 → (failP e a s).toks = []) ∧ (∀ t ∈ (failP e a s).toks, t ∈ s.toks) := by
 unfold failP
 split
 ·rename_i h0
  exact ⟨fun _ => h0, fun _ => rfl, fun t ht => by cases ht⟩
 ·exact ⟨id, h, fun t ht => ht⟩
theorem failP_bad (e a : Int) (he : e ≠ 0) (s : PS) : (failP e a s).err ≠ 0 := by
 unfold failP
 split
 ·exact he
 ·assumption
theorem takeP_sticky (n : Int) (s : PS) (h : s.err ≠ 0 → s.toks = []) : ((takeP n s).2.err = 0 → s.err = 0) ∧ ((takeP n s).2.err ≠ 0 → (takeP n s).2.toks = []) ∧ (∀ t ∈ (takeP n s).2.toks, t ∈ s.toks) := by
 unfold takeP
 split
 ·exact failP_sticky 6 n (by decide) s h
 ·rename_i t r hq
  exact ⟨id, fun h2 => absurd (h h2) (by rw [hq]; simp), fun t ht => by rw [hq]; exact List.mem_cons_of_mem _ ht⟩
def OkS (s : PS) : Prop := (s.err ≠ 0 → s.toks = []) ∧ (∀ t ∈ s.toks, t.f0 = 1 → t.f3.toList ≠ [])
theorem OkS.fail {s : PS} (h : OkS s) (e a : Int) (he : e ≠ 0) : OkS (failP e a s) := by
 have h1 := failP_sticky e a he s h.1
 exact ⟨h1.2.1, fun t ht => h.2 t (h1.2.2 t ht)⟩
theorem OkS.take {s : PS} (h : OkS s) (n : Int) : OkS (takeP n s).2 ∧ ((takeP n s).2.err = 0 → s.err = 0) ∧ ((takeP n s).1.f0 = 1 → (takeP n s).1.f3.toList ≠ []) := by
 have h1 := takeP_sticky n s h.1
 refine ⟨⟨h1.2.1, fun t ht => h.2 t (h1.2.2 t ht)⟩, h1.1, fun h2 => ?_⟩
 unfold takeP at h2 ⊢
 split at h2
 ·exact absurd (show (0 : Int) = 1 from h2) (by decide)
 ·rename_i t r hq
  simp only [hq] at h2 ⊢
  exact h.2 t (by rw [hq]; exact List.mem_cons_self) h2
def Alike (p q : PS → Fm × PS) : Prop := ∀ s, OkS s → (p s).2 = (q s).2 ∧ OkS (q s).2 ∧ ((q s).2.err = 0 → s.err = 0) ∧ ((q s).2.err = 0 → (p s).1 = (q s).1)
theorem listLoop_alike {p q : PS → Fm × PS} (h : Alike p q) (word : ByteArray) (f : Nat) : ∀ (xs ys : List Fm) (s : PS), OkS s → xs.length = ys.length → (s.err = 0 → xs = ys) →
  (listLoop p word f xs s).2 = (listLoop q word f ys s).2 ∧ OkS (listLoop q word f ys s).2 ∧ ((listLoop q word f ys s).2.err = 0 → s.err = 0) ∧ (listLoop p word f xs s).1.length = (listLoop q word f ys s).1.length ∧ ((listLoop q word f ys s).2.err = 0 → (listLoop p word f xs s).1 = (listLoop q word f ys s).1) := by
 induction f with
 | zero => intro xs ys s hs hl he; exact ⟨rfl, hs, id, hl, he⟩
 | succ f ih =>
  intro xs ys s hs hl he
  simp only [listLoop]
  split
  ·exact ⟨rfl, hs, id, hl, he⟩
  ·rename_i t r hq
   split
   ·have hr : OkS ⟨r, s.err, s.at_⟩ := ⟨fun h0 => absurd (hs.1 h0) (by rw [hq]; simp), fun t' ht => hs.2 t' (by rw [hq]; exact List.mem_cons_of_mem _ ht)⟩
    obtain ⟨e1, e2, e3, e4⟩ := h ⟨r, s.err, s.at_⟩ hr
    rw [e1]
    obtain ⟨g1, g2, g3, g4, g5⟩ := ih (xs ++ [(p ⟨r, s.err, s.at_⟩).1]) (ys ++ [(q ⟨r, s.err, s.at_⟩).1]) (q ⟨r, s.err, s.at_⟩).2 e2 (by simp [hl]) (fun h0 => by rw [e4 h0, he (e3 h0)])
    exact ⟨g1, g2, fun h0 => e3 (g3 h0), g4, g5⟩
   ·exact ⟨rfl, hs, id, hl, he⟩
theorem listP_alike {p q : PS → Fm × PS} (h : Alike p q) (op : Int) (word : ByteArray) : Alike (listP p op word) (listP q op word) := by
 intro s hs
 obtain ⟨e1, e2, e3, e4⟩ := h s hs
 unfold listP
 rw [e1]
 obtain ⟨g1, g2, g3, g4, g5⟩ := listLoop_alike h word (q s).2.toks.length [(p s).1] [(q s).1] (q s).2 e2 rfl (fun h0 => by rw [e4 h0])
 refine ⟨g1, g2, fun h0 => e3 (g3 h0), fun h0 => ?_⟩
 simp only
 rw [g5 h0]
theorem eitherP_alike {p q : PS → Fm × PS} (h : Alike p q) : Alike (eitherP p) (eitherP q) := listP_alike (listP_alike h 5 wAnd) 6 wOr
theorem cmpTo_symIx (tx : ByteArray) : (cmpTo tx 7 = 0 ↔ symIx tx < 1) ∧ (¬ symIx tx < 1 → cmpTo tx 7 = symIx tx) := by
 unfold symIx
 simp only [cmpTo, symL, symB, idxBy, List.getD_cons_succ, List.getD_cons_zero, ByteArray.toList_eq]
 generalize tx.data.toList = q
 by_cases h0 : q = []
 ·subst h0; simp
 by_cases h1 : q = [61]
 ·subst h1; simp
 by_cases h2 : q = [33, 61]
 ·subst h2; simp
 by_cases h3 : q = [60]
 ·subst h3; simp
 by_cases h4 : q = [60, 61]
 ·subst h4; simp
 by_cases h5 : q = [62]
 ·subst h5; simp
 by_cases h6 : q = [62, 61]
 ·subst h6; simp
 simp [h0, h1, h2, h3, h4, h5, h6]
theorem cmpR_cond (u : Tok) : (cmpR u = 0 ↔ (u.f0 ≠ 4 ∨ symIx u.f3 < 1)) ∧ (¬ (u.f0 ≠ 4 ∨ symIx u.f3 < 1) → cmpR u = symIx u.f3) := by
 have h := cmpTo_symIx u.f3
 unfold cmpR
 by_cases h4 : u.f0 = 4
 ·rw [if_pos h4]
  refine ⟨⟨fun h1 => .inr (h.1.1 h1), fun h1 => h.1.2 (h1.resolve_left (fun h2 => h2 h4))⟩, fun h1 => h.2 (fun h2 => h1 (.inr h2))⟩
 ·rw [if_neg h4]
  exact ⟨⟨fun _ => .inl h4, fun _ => rfl⟩, fun h1 => absurd (.inl h4) h1⟩
theorem testP_alike (n : Int) (name : ByteArray) : Alike (rtestP n name) (testP n name) := by
 intro s hs
 obtain ⟨c1, c2⟩ := cmpR_cond (takeP n s).1
 obtain ⟨t1, t2, t3⟩ := hs.take n
 have e : (if cmpR (takeP n s).1 = 0 then failP 5 (takeP n s).1.f1 (takeP n s).2 else (takeP n s).2) = (if (takeP n s).1.f0 ≠ 4 ∨ symIx (takeP n s).1.f3 < 1 then failP 5 (takeP n s).1.f1 (takeP n s).2 else (takeP n s).2) := by
  by_cases h : cmpR (takeP n s).1 = 0
  ·rw [if_pos h, if_pos (c1.1 h)]
  ·rw [if_neg h, if_neg (fun h2 => h (c1.2 h2))]
 simp only [rtestP, testP]
 rw [e]
 obtain ⟨s3, h3⟩ : ∃ s3, (if (takeP n s).1.f0 ≠ 4 ∨ symIx (takeP n s).1.f3 < 1 then failP 5 (takeP n s).1.f1 (takeP n s).2 else (takeP n s).2) = s3 := ⟨_, rfl⟩
 rw [h3]
 have o3 : OkS s3 ∧ (s3.err = 0 → s.err = 0) ∧ (s3.err = 0 → cmpR (takeP n s).1 = symIx (takeP n s).1.f3) := by
  rw [← h3]
  split
  ·exact ⟨t1.fail 5 _ (by decide), fun h0 => absurd h0 (failP_bad 5 _ (by decide) _), fun h0 => absurd h0 (failP_bad 5 _ (by decide) _)⟩
  ·rename_i h; exact ⟨t1, t2, fun _ => c2 h⟩
 obtain ⟨u1, u2, u3⟩ := o3.1.take n
 obtain ⟨s5, h5⟩ : ∃ s5, (if (takeP n s3).1.f0 ≠ 2 then failP 5 (takeP n s3).1.f1 (takeP n s3).2 else (takeP n s3).2) = s5 := ⟨_, rfl⟩
 rw [h5]
 have o5 : OkS s5 ∧ (s5.err = 0 → s3.err = 0) := by
  rw [← h5]
  split
  ·exact ⟨u1.fail 5 _ (by decide), fun h0 => absurd h0 (failP_bad 5 _ (by decide) _)⟩
  ·exact ⟨u1, u2⟩
 have o6 : OkS (if 1000000 < (takeP n s3).1.f2 then failP 10 (takeP n s3).1.f1 s5 else s5) ∧ ((if 1000000 < (takeP n s3).1.f2 then failP 10 (takeP n s3).1.f1 s5 else s5).err = 0 → s5.err = 0) := by
  split
  ·exact ⟨o5.1.fail 10 _ (by decide), fun h0 => absurd h0 (failP_bad 10 _ (by decide) _)⟩
  ·exact ⟨o5.1, id⟩
 refine ⟨rfl, o6.1, fun h0 => o3.2.1 (o5.2 (o6.2 h0)), fun h0 => ?_⟩
 rw [o3.2.2 (o5.2 (o6.2 h0))]
theorem rtestP_err (n : Int) (name : ByteArray) (s : PS) (h0 : s.err ≠ 0) (h1 : s.toks = []) : (rtestP n name s).2 = s := by
 have hf : ∀ e a, failP e a s = s := fun e a => if_neg h0
 have ht : takeP n s = (z75, s) := by unfold takeP; rw [h1]; simp only; rw [hf]
 have hc : cmpR z75 = 0 := rfl
 simp only [rtestP, ht, hc, hf, if_true]
 split <;> split <;> first | rfl | exact hf _ _
theorem rnotP_alike (n : Int) (f : Nat) : Alike (rnotP n f) (oneP n f) := by
 induction f with
 | zero => intro s hs; exact ⟨rfl, hs, id, fun _ => rfl⟩
 | succ f ih =>
  intro s hs
  obtain ⟨t1, t2, t3⟩ := hs.take n
  obtain ⟨⟨t, s1⟩, ht⟩ : ∃ q, takeP n s = q := ⟨_, rfl⟩
  rw [ht] at t1 t2 t3
  simp only at t1 t2 t3
  simp only [rnotP, oneP, ht]
  have bad : ∀ nm, (rtestP n nm (failP 5 t.f1 s1)).2 = failP 5 t.f1 s1 := fun nm => rtestP_err n nm _ (failP_bad 5 _ (by decide) _) ((t1.fail 5 t.f1 (by decide)).1 (failP_bad 5 _ (by decide) _))
  have fin : ∀ nm, (rtestP n nm (failP 5 t.f1 s1)).2 = (eFm 0 [], failP 5 t.f1 s1).2 ∧ OkS (eFm 0 [], failP 5 t.f1 s1).2 ∧ ((eFm 0 [], failP 5 t.f1 s1).2.err = 0 → s.err = 0) ∧ ((eFm 0 [], failP 5 t.f1 s1).2.err = 0 → (rtestP n nm (failP 5 t.f1 s1)).1 = (eFm 0 [], failP 5 t.f1 s1).1) :=
   fun nm => ⟨bad nm, t1.fail 5 _ (by decide), fun h0 => absurd h0 (failP_bad 5 _ (by decide) _), fun h0 => absurd h0 (failP_bad 5 _ (by decide) _)⟩
  by_cases h1 : t.f0 = 1
  ·rw [if_pos h1]
   by_cases n1 : t.f3.toList = lNot
   ·rw [if_pos ⟨h1, n1⟩, if_pos n1]
    obtain ⟨e1, e2, e3, e4⟩ := ih s1 t1
    exact ⟨e1, e2, fun h0 => t2 (e3 h0), fun h0 => by simp only; rw [e4 h0]⟩
   rw [if_neg (fun h => n1 h.2), if_neg n1, if_neg (fun h => by rw [h1] at h; exact absurd h.1 (by decide))]
   by_cases n2 : t.f3.toList = lTrue
   ·rw [if_pos ⟨h1, n2⟩, if_pos n2]; exact ⟨rfl, t1, t2, fun _ => rfl⟩
   rw [if_neg (fun h => n2 h.2), if_neg n2]
   by_cases n3 : t.f3.toList = lFalse
   ·rw [if_pos ⟨h1, n3⟩, if_pos n3]; exact ⟨rfl, t1, t2, fun _ => rfl⟩
   rw [if_neg (fun h => n3 h.2), if_neg n3]
   by_cases hk : isKey t.f3 = true
   ·rw [if_pos (.inr hk), if_pos (.inr hk)]; exact fin _
   ·rw [if_neg (fun h => h.elim (fun h => h h1) hk), if_neg (fun h => h.elim (t3 h1) hk)]
    obtain ⟨e1, e2, e3, e4⟩ := testP_alike n t.f3 s1 t1
    exact ⟨e1, e2, fun h0 => t2 (e3 h0), e4⟩
  ·rw [if_neg h1, if_neg (fun h => h1 h.1)]
   by_cases h4 : t.f0 = 4 ∧ t.f3.toList = [40]
   ·rw [if_pos h4, if_pos h4]
    obtain ⟨e1, e2, e3, e4⟩ := eitherP_alike ih s1 t1
    simp only [closeP]
    rw [e1]
    obtain ⟨u1, u2, u3⟩ := e2.take n
    have o : OkS (if (takeP n (eitherP (oneP n f) s1).2).1.f0 ≠ 4 ∨ (takeP n (eitherP (oneP n f) s1).2).1.f3.toList ≠ [41] then failP 5 (takeP n (eitherP (oneP n f) s1).2).1.f1 (takeP n (eitherP (oneP n f) s1).2).2 else (takeP n (eitherP (oneP n f) s1).2).2) ∧
      ((if (takeP n (eitherP (oneP n f) s1).2).1.f0 ≠ 4 ∨ (takeP n (eitherP (oneP n f) s1).2).1.f3.toList ≠ [41] then failP 5 (takeP n (eitherP (oneP n f) s1).2).1.f1 (takeP n (eitherP (oneP n f) s1).2).2 else (takeP n (eitherP (oneP n f) s1).2).2).err = 0 → (eitherP (oneP n f) s1).2.err = 0) := by
     split
     ·exact ⟨u1.fail 5 _ (by decide), fun h0 => absurd h0 (failP_bad 5 _ (by decide) _)⟩
     ·exact ⟨u1, u2⟩
    exact ⟨rfl, o.1, fun h0 => t2 (e3 (o.2 h0)), fun h0 => e4 (o.2 h0)⟩
   ·rw [if_neg h4, if_neg h4, if_neg (fun h => h1 h.1), if_neg (fun h => h1 h.1), if_pos (.inl h1)]; exact fin _
end Go.Proofs.YtkgmempifggajaaGreatDoor.P
