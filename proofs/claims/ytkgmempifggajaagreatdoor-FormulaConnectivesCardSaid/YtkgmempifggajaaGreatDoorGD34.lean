/- What the statement's proof builds on: GoConn. -/
import Derived.Test.YtkgmempifggajaaGreatDoorGD33
import Derived.Deep.RegionHeld3
-- the text YtkgmempifggajaaGreatDoorGoConn
/- FormulaConnectives, walked. -/
namespace Go.Proofs.YtkgmempifggajaaGreatDoor.PLawConn
open Go.RowKit Go.Proofs.YtkgmempifggajaaGreatDoorW.PrintWords Go.Proofs.YtkgmempifggajaaGreatDoorW.PrintLast Go.Proofs.YtkgmempifggajaaGreatDoorW.PrintMore
open Go.Proofs.YtkgmempifggajaaGreatDoor.P
set_option linter.unusedVariables false
set_option linter.unusedSimpArgs false
set_option maxHeartbeats 8000000 in
set_option maxRecDepth 100000 in
theorem conn_walk (k k' : Nat) (x y : Fm) (l : List Fact) (cs : List Int) (A B D E : Option Addr) (c d dc ec : Nat) (w : World) (s1 s2 : Bool)
    (hA : Kd.C kFm w A x.f4.length x.f4) (hc : x.f4.length ≤ c) (hB : Kd.C kFm w B y.f4.length y.f4) (hd : y.f4.length ≤ d) (hD : Kd.C kFact w D l.length l) (hdc : l.length ≤ dc) (hE : Kd.C (Kd.int .i64) w E cs.length cs) (hec : cs.length ≤ ec)
    (h1 : PLawFormulaMatters.customhouselaw25_good.f k x.f0 x.f1 x.f2 x.f3 x.f4 l cs = some s1) (h2 : PLawFormulaMatters.customhouselaw25_good.f k' y.f0 y.f1 y.f2 y.f3 y.f4 l cs = some s2)
    (g1 : s1 = true → PLawFormulaMatters.Good x l cs) (g2 : s2 = true → PLawFormulaMatters.Good y l cs) :
    Calls Tryz.prog 5 #[.agg (fmC x A c), .agg (fmC y B d), .agg #[.slice D l.length dc], .slice E cs.length ec] w fun e w' => e = .returned (.bool true) ∧ Below w.heap.size w w' := by
  have HP := Aside0.mk (CP.start hA hc hB hd hD hdc hE hec)
  have H1 := Aside0.mk h1
  have H2 := Aside0.mk h2
  clear hA hB hD hE h1 h2
  go_enter Tryz.func5, Tryz.ntmps5
  go_wp2_with fail
  refine (head_calls _).mono ?_
  rintro e w1 ⟨rfl, hb⟩
  replace HP := Aside0.mk (HP.out.below hb)
  clear hb
  have c0 := blk_cell HP.out.f 0
  have c1 := blk_cell HP.out.f 1
  have c2 := blk_cell HP.out.f 2
  have c3 := blk_cell HP.out.f 3
  have c4 := blk_cell HP.out.f 4
  have e0 := blk_cell HP.out.dom 0
  go_wp2_with fail
  refine (PLawFormulaMatters.customhouselaw25_good.calls k x.f0 x.f1 x.f2 x.f3 A c x.f4 D dc l E ec cs s1 _ HP.out.fC HP.out.fl HP.out.dC HP.out.dl HP.out.eC HP.out.el H1.out).mono ?_
  rintro e w2 ⟨rfl, hb⟩
  replace HP := Aside0.mk (HP.out.below hb)
  clear hb c0 c1 c2 c3 c4 e0
  cases s1
  · go_wp2
    go_ret
    exact ⟨rfl, HP.out.old⟩
  have d0 := blk_cell HP.out.g 0
  have d1 := blk_cell HP.out.g 1
  have d2 := blk_cell HP.out.g 2
  have d3 := blk_cell HP.out.g 3
  have d4 := blk_cell HP.out.g 4
  have e0 := blk_cell HP.out.dom 0
  go_wp2_with fail
  refine (PLawFormulaMatters.customhouselaw25_good.calls k' y.f0 y.f1 y.f2 y.f3 B d y.f4 D dc l E ec cs s2 _ HP.out.gC HP.out.gl HP.out.dC HP.out.dl HP.out.eC HP.out.el H2.out).mono ?_
  rintro e w2 ⟨rfl, hb⟩
  replace HP := Aside0.mk (HP.out.below hb)
  clear hb d0 d1 d2 d3 d4 e0
  cases s2
  · go_wp2
    go_ret
    exact ⟨rfl, HP.out.old⟩
  have G1 := Aside0.mk (g1 (by trivial))
  have G2 := Aside0.mk (g2 (by trivial))
  have R1 := Aside0.mk (good_room G1.out)
  have R2 := Aside0.mk (good_room G2.out)
  have OK := Aside0.mk (PLawFormulaMatters.few_ok G1.out.few)
  have FT := Aside0.mk G1.out.fits
  obtain ⟨a, ha⟩ : ∃ a, holdsF x l cs = a := ⟨_, rfl⟩
  obtain ⟨b, hb0⟩ : ∃ b, holdsF y l cs = b := ⟨_, rfl⟩
  have N1 := Aside0.mk (show holdsF (nFm 4 [x]) l cs = !a by rw [conn_not FT.out R1.out, ha])
  have N2 := Aside0.mk (show holdsF (nFm 5 [x, y]) l cs = (a && b) by rw [conn_and FT.out R1.out R2.out, ha, hb0])
  have N3 := Aside0.mk (show holdsF (nFm 6 [y, x]) l cs = (a || b) by rw [conn_or FT.out R2.out R1.out, ha, hb0, Bool.or_comm])
  have N4 := Aside0.mk (show holdsF (nFm 5 [y, x]) l cs = (a && b) by rw [conn_and FT.out R2.out R1.out, ha, hb0, Bool.and_comm])
  have N5 := Aside0.mk (show holdsF (nFm 6 [x, y]) l cs = (a || b) by rw [conn_or FT.out R1.out R2.out, ha, hb0])
  have N6 := Aside0.mk (show holdsF (nFm 4 [nFm 5 [x, y]]) l cs = !(a && b) by rw [conn_nand FT.out R1.out R2.out, ha, hb0])
  have N7 := Aside0.mk (show holdsF (nFm 6 [nFm 4 [x], nFm 4 [y]]) l cs = !(a && b) by rw [conn_orn FT.out R1.out R2.out, ha, hb0])
  have c0 := blk_cell HP.out.f 0
  have c1 := blk_cell HP.out.f 1
  have c2 := blk_cell HP.out.f 2
  have c3 := blk_cell HP.out.f 3
  have c4 := blk_cell HP.out.f 4
  have e0 := blk_cell HP.out.dom 0
  go_wp2_with fail
  have sz1 := G1.out.size
  have sz2 := G2.out.size
  refine (holds_calls x A c l D dc cs E ec _ HP.out.fC HP.out.fl HP.out.dC HP.out.dl HP.out.eC HP.out.el (by omega) (okDom_len OK.out) (okDom_at OK.out)).mono ?_
  rintro e w2 ⟨rfl, hb⟩
  rw [ha]
  replace HP := Aside0.mk (HP.out.below hb)
  clear hb c0 c1 c2 c3 c4 e0
  have d0 := blk_cell HP.out.g 0
  have d1 := blk_cell HP.out.g 1
  have d2 := blk_cell HP.out.g 2
  have d3 := blk_cell HP.out.g 3
  have d4 := blk_cell HP.out.g 4
  have e0 := blk_cell HP.out.dom 0
  go_wp2_with fail
  refine (holds_calls y B d l D dc cs E ec _ HP.out.gC HP.out.gl HP.out.dC HP.out.dl HP.out.eC HP.out.el (by omega) (okDom_len OK.out) (okDom_at OK.out)).mono ?_
  rintro e w2 ⟨rfl, hb⟩
  rw [hb0]
  replace HP := Aside0.mk (HP.out.below hb)
  clear hb d0 d1 d2 d3 d4 e0
  have c0 := blk_cell HP.out.f 0
  have c1 := blk_cell HP.out.f 1
  have c2 := blk_cell HP.out.f 2
  have c3 := blk_cell HP.out.f 3
  have c4 := blk_cell HP.out.f 4
  go_wp2_with fail
  refine (both_calls 4 _ 1 1 _ (Nat.le_refl _)).mono ?_
  rintro e w3 ⟨rfl, hb⟩
  have HN := Aside0.mk (show CN w (w3.alloc (.cells (notC w2.heap.size) 24)) w.heap.size (w.heap.size + 1) (w.heap.size + 1 + 1) w3.heap.size w2.heap.size x y l cs A B D E c d dc ec from
    ⟨(HP.out.alloc (.cells (fmC x A c) 24)).below (below_alloc hb _), blk_new _ _ rfl, blk_alloc_old ((hb.block _ (by simp)).trans (blk_new _ _ rfl)) _⟩)
  have hz := hb.size
  simp at hz
  clear hb c0 c1 c2 c3 c4 HP G1 G2 R1 R2 FT H1 H2
  cases a
  · have M1 := N1.out
    simp only [Bool.not_true, Bool.not_false, Bool.true_and, Bool.false_and, Bool.true_or, Bool.false_or] at M1
    replace N1 := Aside0.mk M1
    clear M1
    have M2 := N2.out
    simp only [Bool.not_true, Bool.not_false, Bool.true_and, Bool.false_and, Bool.true_or, Bool.false_or] at M2
    replace N2 := Aside0.mk M2
    clear M2
    have M3 := N3.out
    simp only [Bool.not_true, Bool.not_false, Bool.true_and, Bool.false_and, Bool.true_or, Bool.false_or] at M3
    replace N3 := Aside0.mk M3
    clear M3
    have M4 := N4.out
    simp only [Bool.not_true, Bool.not_false, Bool.true_and, Bool.false_and, Bool.true_or, Bool.false_or] at M4
    replace N4 := Aside0.mk M4
    clear M4
    have M5 := N5.out
    simp only [Bool.not_true, Bool.not_false, Bool.true_and, Bool.false_and, Bool.true_or, Bool.false_or] at M5
    replace N5 := Aside0.mk M5
    clear M5
    have M6 := N6.out
    simp only [Bool.not_true, Bool.not_false, Bool.true_and, Bool.false_and, Bool.true_or, Bool.false_or] at M6
    replace N6 := Aside0.mk M6
    clear M6
    have M7 := N7.out
    simp only [Bool.not_true, Bool.not_false, Bool.true_and, Bool.false_and, Bool.true_or, Bool.false_or] at M7
    replace N7 := Aside0.mk M7
    clear M7
    go_wp2_with fail
    obtain ⟨Wn, hWn⟩ : ∃ W, w3.alloc (.cells (notC w2.heap.size) 24) = W := ⟨_, rfl⟩
    rw [hWn] at HN ⊢
    clear hWn
    obtain ⟨nb, hnb⟩ : ∃ k, w3.heap.size = k := ⟨_, rfl⟩
    obtain ⟨kb, hkb⟩ : ∃ k, w2.heap.size = k := ⟨_, rfl⟩
    obtain ⟨b1, hb1⟩ : ∃ k, w.heap.size = k := ⟨_, rfl⟩
    obtain ⟨b2, hb2⟩ : ∃ k, b1 + 1 = k := ⟨_, rfl⟩
    obtain ⟨b3, hb3⟩ : ∃ k, b2 + 1 = k := ⟨_, rfl⟩
    rw [hnb, hkb, hb1, hb2, hb3] at HN
    simp only [hnb, hkb, hb1, hb2, hb3]
    clear hnb hkb hb2 hb3
    have hS := cn_cells (HN.out.below (below_drew (Below.refl _ _)))
    refine wp_region_held_drew (S := (fun w' => w'.cell? ⟨nb, 0, none⟩ = some (.int .i64 4) ∧ w'.cell? ⟨nb, 1, none⟩ = some (.string ⟨#[]⟩) ∧ w'.cell? ⟨nb, 2, none⟩ = some (.int .i64 0) ∧ w'.cell? ⟨nb, 3, none⟩ = some (.int .i64 0) ∧ w'.cell? ⟨nb, 4, none⟩ = some (.slice (some ⟨kb, 0, none⟩) 1 1) ∧ w'.cell? ⟨b1, 0, none⟩ = some (.int .i64 x.f0) ∧ w'.cell? ⟨b1, 1, none⟩ = some (.string x.f1) ∧ w'.cell? ⟨b1, 2, none⟩ = some (.int .i64 x.f2) ∧ w'.cell? ⟨b1, 3, none⟩ = some (.int .i64 x.f3) ∧ w'.cell? ⟨b1, 4, none⟩ = some (.slice A x.f4.length c) ∧ w'.cell? ⟨b2, 0, none⟩ = some (.int .i64 y.f0) ∧ w'.cell? ⟨b2, 1, none⟩ = some (.string y.f1) ∧ w'.cell? ⟨b2, 2, none⟩ = some (.int .i64 y.f2) ∧ w'.cell? ⟨b2, 3, none⟩ = some (.int .i64 y.f3) ∧ w'.cell? ⟨b2, 4, none⟩ = some (.slice B y.f4.length d) ∧ w'.cell? ⟨b3, 0, none⟩ = some (.slice D l.length dc) ∧ CN w w' b1 b2 b3 nb kb x y l cs A B D E c d dc ec)) (by kernel_rfl) ?_ (fun hH0 => ?_)
    · exact hS
    refine wpAnyH_take (i := 0) (oi := { dst := some 40, op := Go.Op.load 24 (Go.Operand.tmp 12), type := 24, pos := "law.go:99", after := #[], guard := none }) (v := ?_) rfl (by kernel_rfl) (by kernel_rfl) (by kernel_rfl) (fun _ _ _ h => h) (Or.inl ⟨by rfl, ?_⟩) (by assumption) ?_
    rotate_left 1
    · ((intro w hSw; (try dsimp only at hSw); go_simp); first | done | (with_reducible rfl))
    try simp only [Act.put, List.setIfInBounds_toArray, List.set_cons_zero, List.set_cons_succ]
    refine wpAnyH_take (i := 1) (oi := { dst := some 41, op := Go.Op.load 27 (Go.Operand.tmp 6), type := 27, pos := "law.go:99", after := #[], guard := none }) (v := ?_) rfl (by kernel_rfl) (by kernel_rfl) (by kernel_rfl) (fun _ _ _ h => h) (Or.inl ⟨by rfl, ?_⟩) (by assumption) ?_
    rotate_left 1
    · ((intro w hSw; (try dsimp only at hSw); go_simp); first | done | (with_reducible rfl))
    try simp only [Act.put, List.setIfInBounds_toArray, List.set_cons_zero, List.set_cons_succ]
    refine wpAnyH_take (i := 2) (oi := { dst := some 42, op := Go.Op.move (Go.Operand.tmp 3), type := 29, pos := "law.go:99", after := #[], guard := none }) (v := ?_) rfl (by kernel_rfl) (by kernel_rfl) (by kernel_rfl) (fun _ _ _ h => h) (Or.inl ⟨by rfl, ?_⟩) (by assumption) ?_
    rotate_left 1
    · ((intro w hSw; (try dsimp only at hSw); go_simp); first | done | (with_reducible rfl))
    try simp only [Act.put, List.setIfInBounds_toArray, List.set_cons_zero, List.set_cons_succ]
    refine wpAnyH_take (i := 4) (oi := { dst := some 44, op := Go.Op.move (Go.Operand.tmp 10), type := 4, pos := "law.go:99", after := #[], guard := none }) (v := ?_) rfl (by kernel_rfl) (by kernel_rfl) (by kernel_rfl) (fun _ _ _ h => h) (Or.inl ⟨by rfl, ?_⟩) (by assumption) ?_
    rotate_left 1
    · ((intro w hSw; (try dsimp only at hSw); go_simp); first | done | (with_reducible rfl))
    try simp only [Act.put, List.setIfInBounds_toArray, List.set_cons_zero, List.set_cons_succ]
    refine wpAnyH_take (i := 5) (oi := { dst := some 45, op := Go.Op.unOp Go.UnOp.not 4 (Go.Operand.tmp 44), type := 4, pos := "law.go:99", after := #[{ on := 4, ground := Go.Ground.data }], guard := none }) (v := ?_) rfl (by kernel_rfl) (by kernel_rfl) (by kernel_rfl) (fun _ _ _ h => h) (Or.inl ⟨by rfl, ?_⟩) (by assumption) ?_
    rotate_left 1
    · ((intro w hSw; (try dsimp only at hSw); go_simp); first | done | (with_reducible rfl))
    try simp only [Act.put, List.setIfInBounds_toArray, List.set_cons_zero, List.set_cons_succ]
    refine wpAnyH_ready (rs := [3]) (by kernel_rfl) (by simp) ?_
    refine AllReadyH.cons (o := { dst := some 43, op := Go.Op.call { callee := Go.Callee.value (Go.Operand.func 20), args := #[Go.Operand.tmp 40, Go.Operand.tmp 41, Go.Operand.tmp 42], argTypes := #[24, 27, 29] }, type := 4, pos := "law.go:99", after := #[{ on := 0, ground := Go.Ground.data }, { on := 1, ground := Go.Ground.data }, { on := 2, ground := Go.Ground.data }], guard := none }) rfl (fun K hK => ?_) AllReadyH.nil
    go_simp
    first
      | (go_at_call 20; with_reducible refine Calls.mono (cn_not (cn_of (by assumption)) OK.out sz1 sz2 N1.out) ?_; rintro e w' ⟨rfl, hb⟩)
      | (go_at_call 20; with_reducible refine Calls.mono (cn_xy (cn_of (by assumption)) OK.out sz1 sz2 5 hb N2.out) ?_; rintro e w' ⟨rfl, hb⟩)
      | (go_at_call 20; with_reducible refine Calls.mono (cn_yx (cn_of (by assumption)) OK.out sz1 sz2 6 hb N3.out) ?_; rintro e w' ⟨rfl, hb⟩)
      | (go_at_call 29; refine (both_calls _ _ 2 2 _ (Nat.le_refl _)).mono ?_; rintro e w' ⟨rfl, hb⟩)
    try go_wp2_with fail
    refine hK.out _ _ ?_ (fun hH1 => ?_)
    · ((try dsimp only); (first | (with_reducible exact hS) | (with_reducible assumption) | (with_reducible exact cn_cells (CN.below (cn_of (by assumption)) hb)) | (refine cn_cells (CN.below (cn_of (by assumption)) ?_); exact below_alloc (Below.refl _ _) _)))
    clear hK K hH0
    try simp only [Act.put, List.setIfInBounds_toArray, List.set_cons_zero, List.set_cons_succ]
    refine wpAnyH_take (i := 6) (oi := { dst := some 46, op := Go.Op.binOp Go.BinOp.eql 4 (Go.Operand.tmp 43) (Go.Operand.tmp 45) 4, type := 4, pos := "law.go:99", after := #[{ on := 3, ground := Go.Ground.data }, { on := 5, ground := Go.Ground.data }], guard := none }) (v := ?_) rfl (by kernel_rfl) (by kernel_rfl) (by kernel_rfl) (fun _ _ _ h => h) (Or.inl ⟨by rfl, ?_⟩) (by assumption) ?_
    rotate_left 1
    · ((intro w hSw; (try dsimp only at hSw); go_simp); first | done | (with_reducible rfl))
    try simp only [Act.put, List.setIfInBounds_toArray, List.set_cons_zero, List.set_cons_succ]
    refine wpAnyH_take (i := 7) (oi := { dst := some 47, op := Go.Op.move (Go.Operand.tmp 46), type := 4, pos := "law.go:99", after := #[{ on := 6, ground := Go.Ground.data }, { on := 3, ground := Go.Ground.chain }], guard := none }) (v := ?_) rfl (by kernel_rfl) (by kernel_rfl) (by kernel_rfl) (fun _ _ _ h => h) (Or.inl ⟨by rfl, ?_⟩) (by assumption) ?_
    rotate_left 1
    · ((intro w hSw; (try dsimp only at hSw); go_simp); first | done | (with_reducible rfl))
    try simp only [Act.put, List.setIfInBounds_toArray, List.set_cons_zero, List.set_cons_succ]
    refine wpAnyH_take (i := 8) (oi := { dst := some 48, op := Go.Op.load 24 (Go.Operand.tmp 4), type := 24, pos := "law.go:99", after := #[{ on := 7, ground := Go.Ground.guard }], guard := some (7, true) }) (v := ?_) rfl (by kernel_rfl) (by kernel_rfl) (by kernel_rfl) (fun _ _ _ h => h) (Or.inl ⟨by rfl, ?_⟩) (by assumption) ?_
    rotate_left 1
    · ((intro w hSw; (try dsimp only at hSw); go_simp); first | done | (with_reducible rfl))
    try simp only [Act.put, List.setIfInBounds_toArray, List.set_cons_zero, List.set_cons_succ]
    refine wpAnyH_take (i := 9) (oi := { dst := some 49, op := Go.Op.load 24 (Go.Operand.tmp 5), type := 24, pos := "law.go:99", after := #[{ on := 7, ground := Go.Ground.guard }], guard := some (7, true) }) (v := ?_) rfl (by kernel_rfl) (by kernel_rfl) (by kernel_rfl) (fun _ _ _ h => h) (Or.inl ⟨by rfl, ?_⟩) (by assumption) ?_
    rotate_left 1
    · ((intro w hSw; (try dsimp only at hSw); go_simp); first | done | (with_reducible rfl))
    try simp only [Act.put, List.setIfInBounds_toArray, List.set_cons_zero, List.set_cons_succ]
    refine wpAnyH_take (i := 12) (oi := { dst := some 52, op := Go.Op.load 27 (Go.Operand.tmp 6), type := 27, pos := "law.go:99", after := #[{ on := 7, ground := Go.Ground.guard }], guard := some (7, true) }) (v := ?_) rfl (by kernel_rfl) (by kernel_rfl) (by kernel_rfl) (fun _ _ _ h => h) (Or.inl ⟨by rfl, ?_⟩) (by assumption) ?_
    rotate_left 1
    · ((intro w hSw; (try dsimp only at hSw); go_simp); first | done | (with_reducible rfl))
    try simp only [Act.put, List.setIfInBounds_toArray, List.set_cons_zero, List.set_cons_succ]
    refine wpAnyH_take (i := 13) (oi := { dst := some 53, op := Go.Op.move (Go.Operand.tmp 3), type := 29, pos := "law.go:99", after := #[{ on := 7, ground := Go.Ground.guard }], guard := some (7, true) }) (v := ?_) rfl (by kernel_rfl) (by kernel_rfl) (by kernel_rfl) (fun _ _ _ h => h) (Or.inl ⟨by rfl, ?_⟩) (by assumption) ?_
    rotate_left 1
    · ((intro w hSw; (try dsimp only at hSw); go_simp); first | done | (with_reducible rfl))
    try simp only [Act.put, List.setIfInBounds_toArray, List.set_cons_zero, List.set_cons_succ]
    refine wpAnyH_take (i := 15) (oi := { dst := some 55, op := Go.Op.move (Go.Operand.tmp 10), type := 4, pos := "law.go:99", after := #[{ on := 7, ground := Go.Ground.guard }], guard := some (7, true) }) (v := ?_) rfl (by kernel_rfl) (by kernel_rfl) (by kernel_rfl) (fun _ _ _ h => h) (Or.inl ⟨by rfl, ?_⟩) (by assumption) ?_
    rotate_left 1
    · ((intro w hSw; (try dsimp only at hSw); go_simp); first | done | (with_reducible rfl))
    try simp only [Act.put, List.setIfInBounds_toArray, List.set_cons_zero, List.set_cons_succ]
    refine wpAnyH_ready (rs := [10]) (by kernel_rfl) (by simp) ?_
    refine AllReadyH.cons (o := { dst := some 50, op := Go.Op.buildSlice 22 2 #[(0, Go.Operand.tmp 48), (1, Go.Operand.tmp 49)], type := 22, pos := "law.go:99", after := #[{ on := 8, ground := Go.Ground.data }, { on := 9, ground := Go.Ground.data }, { on := 7, ground := Go.Ground.guard }], guard := some (7, true) }) rfl (fun K hK => ?_) AllReadyH.nil
    go_simp
    refine hK.out _ _ ?_ (fun hH2 => ?_)
    · ((try dsimp only); (first | (with_reducible exact hS) | (with_reducible assumption) | (with_reducible exact cn_cells (CN.below (cn_of (by assumption)) hb)) | (refine cn_cells (CN.below (cn_of (by assumption)) ?_); exact below_alloc (Below.refl _ _) _)))
    clear hK K hH1
    try simp only [Act.put, List.setIfInBounds_toArray, List.set_cons_zero, List.set_cons_succ]
    refine wpAnyH_ready (rs := [11]) (by kernel_rfl) (by simp) ?_
    refine AllReadyH.cons (o := { dst := some 51, op := Go.Op.call { callee := Go.Callee.value (Go.Operand.func 29), args := #[Go.Operand.const (Go.Value.int Go.IntKind.i64 5), Go.Operand.tmp 50], argTypes := #[3, 22] }, type := 24, pos := "law.go:99", after := #[{ on := 10, ground := Go.Ground.data }, { on := 7, ground := Go.Ground.chain }, { on := 7, ground := Go.Ground.guard }], guard := some (7, true) }) rfl (fun K hK => ?_) AllReadyH.nil
    go_simp
    first
      | (go_at_call 20; with_reducible refine Calls.mono (cn_not (cn_of (by assumption)) OK.out sz1 sz2 N1.out) ?_; rintro e w' ⟨rfl, hb⟩)
      | (go_at_call 20; with_reducible refine Calls.mono (cn_xy (cn_of (by assumption)) OK.out sz1 sz2 5 hb N2.out) ?_; rintro e w' ⟨rfl, hb⟩)
      | (go_at_call 20; with_reducible refine Calls.mono (cn_yx (cn_of (by assumption)) OK.out sz1 sz2 6 hb N3.out) ?_; rintro e w' ⟨rfl, hb⟩)
      | (go_at_call 29; refine (both_calls _ _ 2 2 _ (Nat.le_refl _)).mono ?_; rintro e w' ⟨rfl, hb⟩)
    try go_wp2_with fail
    refine hK.out _ _ ?_ (fun hH3 => ?_)
    · ((try dsimp only); (first | (with_reducible exact hS) | (with_reducible assumption) | (with_reducible exact cn_cells (CN.below (cn_of (by assumption)) hb)) | (refine cn_cells (CN.below (cn_of (by assumption)) ?_); exact below_alloc (Below.refl _ _) _)))
    clear hK K hH2
    try simp only [Act.put, List.setIfInBounds_toArray, List.set_cons_zero, List.set_cons_succ]
    refine wpAnyH_ready (rs := [14]) (by kernel_rfl) (by simp) ?_
    refine AllReadyH.cons (o := { dst := some 54, op := Go.Op.call { callee := Go.Callee.value (Go.Operand.func 20), args := #[Go.Operand.tmp 51, Go.Operand.tmp 52, Go.Operand.tmp 53], argTypes := #[24, 27, 29] }, type := 4, pos := "law.go:99", after := #[{ on := 11, ground := Go.Ground.data }, { on := 12, ground := Go.Ground.data }, { on := 13, ground := Go.Ground.data }, { on := 11, ground := Go.Ground.chain }, { on := 7, ground := Go.Ground.guard }], guard := some (7, true) }) rfl (fun K hK => ?_) AllReadyH.nil
    go_simp
    first
      | (go_at_call 20; with_reducible refine Calls.mono (cn_not (cn_of (by assumption)) OK.out sz1 sz2 N1.out) ?_; rintro e w' ⟨rfl, hb⟩)
      | (go_at_call 20; with_reducible refine Calls.mono (cn_xy (cn_of (by assumption)) OK.out sz1 sz2 5 hb N2.out) ?_; rintro e w' ⟨rfl, hb⟩)
      | (go_at_call 20; with_reducible refine Calls.mono (cn_yx (cn_of (by assumption)) OK.out sz1 sz2 6 hb N3.out) ?_; rintro e w' ⟨rfl, hb⟩)
      | (go_at_call 29; refine (both_calls _ _ 2 2 _ (Nat.le_refl _)).mono ?_; rintro e w' ⟨rfl, hb⟩)
    try go_wp2_with fail
    refine hK.out _ _ ?_ (fun hH4 => ?_)
    · ((try dsimp only); (first | (with_reducible exact hS) | (with_reducible assumption) | (with_reducible exact cn_cells (CN.below (cn_of (by assumption)) hb)) | (refine cn_cells (CN.below (cn_of (by assumption)) ?_); exact below_alloc (Below.refl _ _) _)))
    clear hK K hH3
    try simp only [Act.put, List.setIfInBounds_toArray, List.set_cons_zero, List.set_cons_succ]
    refine wpAnyH_take (i := 16) (oi := { dst := some 56, op := Go.Op.move (Go.Operand.tmp 55), type := 4, pos := "law.go:99", after := #[{ on := 15, ground := Go.Ground.data }, { on := 14, ground := Go.Ground.chain }, { on := 7, ground := Go.Ground.guard }], guard := some (7, true) }) (v := ?_) rfl (by kernel_rfl) (by kernel_rfl) (by kernel_rfl) (fun _ _ _ h => h) (Or.inl ⟨by rfl, ?_⟩) (by assumption) ?_
    rotate_left 1
    · ((intro w hSw; (try dsimp only at hSw); go_simp); first | done | (with_reducible rfl))
    try simp only [Act.put, List.setIfInBounds_toArray, List.set_cons_zero, List.set_cons_succ]
    refine wpAnyH_take (i := 17) (oi := { dst := some 57, op := Go.Op.move (Go.Operand.tmp 11), type := 4, pos := "law.go:99", after := #[{ on := 16, ground := Go.Ground.guard }], guard := some (16, true) }) (v := undef) rfl (by kernel_rfl) (by kernel_rfl) (by kernel_rfl) (fun _ _ _ h => h) (Or.inr ⟨by rfl, rfl⟩) (by assumption) ?_
    try simp only [Act.put, List.setIfInBounds_toArray, List.set_cons_zero, List.set_cons_succ]
    refine wpAnyH_take (i := 18) (oi := { dst := some 58, op := Go.Op.pick (Go.Operand.tmp 56) (Go.Operand.tmp 57) (Go.Operand.const (Go.Value.bool false)), type := 4, pos := "law.go:99", after := #[{ on := 16, ground := Go.Ground.data }, { on := 17, ground := Go.Ground.data }, { on := 7, ground := Go.Ground.guard }], guard := some (7, true) }) (v := ?_) rfl (by kernel_rfl) (by kernel_rfl) (by kernel_rfl) (fun _ _ _ h => h) (Or.inl ⟨by rfl, ?_⟩) (by assumption) ?_
    rotate_left 1
    · ((intro w hSw; (try dsimp only at hSw); go_simp); first | done | (with_reducible rfl))
    try simp only [Act.put, List.setIfInBounds_toArray, List.set_cons_zero, List.set_cons_succ]
    refine wpAnyH_take (i := 19) (oi := { dst := some 59, op := Go.Op.binOp Go.BinOp.eql 4 (Go.Operand.tmp 54) (Go.Operand.tmp 58) 4, type := 4, pos := "law.go:99", after := #[{ on := 14, ground := Go.Ground.data }, { on := 18, ground := Go.Ground.data }, { on := 7, ground := Go.Ground.guard }], guard := some (7, true) }) (v := ?_) rfl (by kernel_rfl) (by kernel_rfl) (by kernel_rfl) (fun _ _ _ h => h) (Or.inl ⟨by rfl, ?_⟩) (by assumption) ?_
    rotate_left 1
    · ((intro w hSw; (try dsimp only at hSw); go_simp); first | done | (with_reducible rfl))
    try simp only [Act.put, List.setIfInBounds_toArray, List.set_cons_zero, List.set_cons_succ]
    refine wpAnyH_take (i := 20) (oi := { dst := some 60, op := Go.Op.pick (Go.Operand.tmp 47) (Go.Operand.tmp 59) (Go.Operand.const (Go.Value.bool false)), type := 4, pos := "law.go:99", after := #[{ on := 7, ground := Go.Ground.data }, { on := 19, ground := Go.Ground.data }], guard := none }) (v := ?_) rfl (by kernel_rfl) (by kernel_rfl) (by kernel_rfl) (fun _ _ _ h => h) (Or.inl ⟨by rfl, ?_⟩) (by assumption) ?_
    rotate_left 1
    · ((intro w hSw; (try dsimp only at hSw); go_simp); first | done | (with_reducible rfl))
    try simp only [Act.put, List.setIfInBounds_toArray, List.set_cons_zero, List.set_cons_succ]
    refine wpAnyH_take (i := 21) (oi := { dst := some 61, op := Go.Op.move (Go.Operand.tmp 60), type := 4, pos := "law.go:99", after := #[{ on := 20, ground := Go.Ground.data }, { on := 16, ground := Go.Ground.chain }], guard := none }) (v := ?_) rfl (by kernel_rfl) (by kernel_rfl) (by kernel_rfl) (fun _ _ _ h => h) (Or.inl ⟨by rfl, ?_⟩) (by assumption) ?_
    rotate_left 1
    · ((intro w hSw; (try dsimp only at hSw); go_simp); first | done | (with_reducible rfl))
    try simp only [Act.put, List.setIfInBounds_toArray, List.set_cons_zero, List.set_cons_succ]
    refine wpAnyH_take (i := 22) (oi := { dst := some 62, op := Go.Op.load 24 (Go.Operand.tmp 5), type := 24, pos := "law.go:99", after := #[{ on := 21, ground := Go.Ground.guard }], guard := some (21, true) }) (v := ?_) rfl (by kernel_rfl) (by kernel_rfl) (by kernel_rfl) (fun _ _ _ h => h) (Or.inl ⟨by rfl, ?_⟩) (by assumption) ?_
    rotate_left 1
    · ((intro w hSw; (try dsimp only at hSw); go_simp); first | done | (with_reducible rfl))
    try simp only [Act.put, List.setIfInBounds_toArray, List.set_cons_zero, List.set_cons_succ]
    refine wpAnyH_take (i := 23) (oi := { dst := some 63, op := Go.Op.load 24 (Go.Operand.tmp 4), type := 24, pos := "law.go:99", after := #[{ on := 21, ground := Go.Ground.guard }], guard := some (21, true) }) (v := ?_) rfl (by kernel_rfl) (by kernel_rfl) (by kernel_rfl) (fun _ _ _ h => h) (Or.inl ⟨by rfl, ?_⟩) (by assumption) ?_
    rotate_left 1
    · ((intro w hSw; (try dsimp only at hSw); go_simp); first | done | (with_reducible rfl))
    try simp only [Act.put, List.setIfInBounds_toArray, List.set_cons_zero, List.set_cons_succ]
    refine wpAnyH_take (i := 26) (oi := { dst := some 66, op := Go.Op.load 27 (Go.Operand.tmp 6), type := 27, pos := "law.go:99", after := #[{ on := 21, ground := Go.Ground.guard }], guard := some (21, true) }) (v := ?_) rfl (by kernel_rfl) (by kernel_rfl) (by kernel_rfl) (fun _ _ _ h => h) (Or.inl ⟨by rfl, ?_⟩) (by assumption) ?_
    rotate_left 1
    · ((intro w hSw; (try dsimp only at hSw); go_simp); first | done | (with_reducible rfl))
    try simp only [Act.put, List.setIfInBounds_toArray, List.set_cons_zero, List.set_cons_succ]
    refine wpAnyH_take (i := 27) (oi := { dst := some 67, op := Go.Op.move (Go.Operand.tmp 3), type := 29, pos := "law.go:99", after := #[{ on := 21, ground := Go.Ground.guard }], guard := some (21, true) }) (v := ?_) rfl (by kernel_rfl) (by kernel_rfl) (by kernel_rfl) (fun _ _ _ h => h) (Or.inl ⟨by rfl, ?_⟩) (by assumption) ?_
    rotate_left 1
    · ((intro w hSw; (try dsimp only at hSw); go_simp); first | done | (with_reducible rfl))
    try simp only [Act.put, List.setIfInBounds_toArray, List.set_cons_zero, List.set_cons_succ]
    refine wpAnyH_take (i := 29) (oi := { dst := some 69, op := Go.Op.move (Go.Operand.tmp 10), type := 4, pos := "law.go:99", after := #[{ on := 21, ground := Go.Ground.guard }], guard := some (21, true) }) (v := ?_) rfl (by kernel_rfl) (by kernel_rfl) (by kernel_rfl) (fun _ _ _ h => h) (Or.inl ⟨by rfl, ?_⟩) (by assumption) ?_
    rotate_left 1
    · ((intro w hSw; (try dsimp only at hSw); go_simp); first | done | (with_reducible rfl))
    try simp only [Act.put, List.setIfInBounds_toArray, List.set_cons_zero, List.set_cons_succ]
    refine wpAnyH_ready (rs := [24]) (by kernel_rfl) (by simp) ?_
    refine AllReadyH.cons (o := { dst := some 64, op := Go.Op.buildSlice 22 2 #[(0, Go.Operand.tmp 62), (1, Go.Operand.tmp 63)], type := 22, pos := "law.go:99", after := #[{ on := 22, ground := Go.Ground.data }, { on := 23, ground := Go.Ground.data }, { on := 21, ground := Go.Ground.guard }], guard := some (21, true) }) rfl (fun K hK => ?_) AllReadyH.nil
    go_simp
    refine hK.out _ _ ?_ (fun hH5 => ?_)
    · ((try dsimp only); (first | (with_reducible exact hS) | (with_reducible assumption) | (with_reducible exact cn_cells (CN.below (cn_of (by assumption)) hb)) | (refine cn_cells (CN.below (cn_of (by assumption)) ?_); exact below_alloc (Below.refl _ _) _)))
    clear hK K hH4
    try simp only [Act.put, List.setIfInBounds_toArray, List.set_cons_zero, List.set_cons_succ]
    refine wpAnyH_ready (rs := [25]) (by kernel_rfl) (by simp) ?_
    refine AllReadyH.cons (o := { dst := some 65, op := Go.Op.call { callee := Go.Callee.value (Go.Operand.func 29), args := #[Go.Operand.const (Go.Value.int Go.IntKind.i64 6), Go.Operand.tmp 64], argTypes := #[3, 22] }, type := 24, pos := "law.go:99", after := #[{ on := 24, ground := Go.Ground.data }, { on := 21, ground := Go.Ground.chain }, { on := 21, ground := Go.Ground.guard }], guard := some (21, true) }) rfl (fun K hK => ?_) AllReadyH.nil
    go_simp
    first
      | (go_at_call 20; with_reducible refine Calls.mono (cn_not (cn_of (by assumption)) OK.out sz1 sz2 N1.out) ?_; rintro e w' ⟨rfl, hb⟩)
      | (go_at_call 20; with_reducible refine Calls.mono (cn_xy (cn_of (by assumption)) OK.out sz1 sz2 5 hb N2.out) ?_; rintro e w' ⟨rfl, hb⟩)
      | (go_at_call 20; with_reducible refine Calls.mono (cn_yx (cn_of (by assumption)) OK.out sz1 sz2 6 hb N3.out) ?_; rintro e w' ⟨rfl, hb⟩)
      | (go_at_call 29; refine (both_calls _ _ 2 2 _ (Nat.le_refl _)).mono ?_; rintro e w' ⟨rfl, hb⟩)
    try go_wp2_with fail
    refine hK.out _ _ ?_ (fun hH6 => ?_)
    · ((try dsimp only); (first | (with_reducible exact hS) | (with_reducible assumption) | (with_reducible exact cn_cells (CN.below (cn_of (by assumption)) hb)) | (refine cn_cells (CN.below (cn_of (by assumption)) ?_); exact below_alloc (Below.refl _ _) _)))
    clear hK K hH5
    try simp only [Act.put, List.setIfInBounds_toArray, List.set_cons_zero, List.set_cons_succ]
    refine wpAnyH_ready (rs := [28]) (by kernel_rfl) (by simp) ?_
    refine AllReadyH.cons (o := { dst := some 68, op := Go.Op.call { callee := Go.Callee.value (Go.Operand.func 20), args := #[Go.Operand.tmp 65, Go.Operand.tmp 66, Go.Operand.tmp 67], argTypes := #[24, 27, 29] }, type := 4, pos := "law.go:99", after := #[{ on := 25, ground := Go.Ground.data }, { on := 26, ground := Go.Ground.data }, { on := 27, ground := Go.Ground.data }, { on := 25, ground := Go.Ground.chain }, { on := 21, ground := Go.Ground.guard }], guard := some (21, true) }) rfl (fun K hK => ?_) AllReadyH.nil
    go_simp
    first
      | (go_at_call 20; with_reducible refine Calls.mono (cn_not (cn_of (by assumption)) OK.out sz1 sz2 N1.out) ?_; rintro e w' ⟨rfl, hb⟩)
      | (go_at_call 20; with_reducible refine Calls.mono (cn_xy (cn_of (by assumption)) OK.out sz1 sz2 5 hb N2.out) ?_; rintro e w' ⟨rfl, hb⟩)
      | (go_at_call 20; with_reducible refine Calls.mono (cn_yx (cn_of (by assumption)) OK.out sz1 sz2 6 hb N3.out) ?_; rintro e w' ⟨rfl, hb⟩)
      | (go_at_call 29; refine (both_calls _ _ 2 2 _ (Nat.le_refl _)).mono ?_; rintro e w' ⟨rfl, hb⟩)
    try go_wp2_with fail
    refine hK.out _ _ ?_ (fun hH7 => ?_)
    · ((try dsimp only); (first | (with_reducible exact hS) | (with_reducible assumption) | (with_reducible exact cn_cells (CN.below (cn_of (by assumption)) hb)) | (refine cn_cells (CN.below (cn_of (by assumption)) ?_); exact below_alloc (Below.refl _ _) _)))
    clear hK K hH6
    try simp only [Act.put, List.setIfInBounds_toArray, List.set_cons_zero, List.set_cons_succ]
    refine wpAnyH_take (i := 30) (oi := { dst := some 70, op := Go.Op.move (Go.Operand.tmp 69), type := 4, pos := "law.go:99", after := #[{ on := 29, ground := Go.Ground.data }, { on := 28, ground := Go.Ground.chain }, { on := 21, ground := Go.Ground.guard }], guard := some (21, true) }) (v := ?_) rfl (by kernel_rfl) (by kernel_rfl) (by kernel_rfl) (fun _ _ _ h => h) (Or.inl ⟨by rfl, ?_⟩) (by assumption) ?_
    rotate_left 1
    · ((intro w hSw; (try dsimp only at hSw); go_simp); first | done | (with_reducible rfl))
    try simp only [Act.put, List.setIfInBounds_toArray, List.set_cons_zero, List.set_cons_succ]
    refine wpAnyH_take (i := 31) (oi := { dst := some 71, op := Go.Op.move (Go.Operand.tmp 11), type := 4, pos := "law.go:99", after := #[{ on := 30, ground := Go.Ground.guard }], guard := some (30, false) }) (v := ?_) rfl (by kernel_rfl) (by kernel_rfl) (by kernel_rfl) (fun _ _ _ h => h) (Or.inl ⟨by rfl, ?_⟩) (by assumption) ?_
    rotate_left 1
    · ((intro w hSw; (try dsimp only at hSw); go_simp); first | done | (with_reducible rfl))
    try simp only [Act.put, List.setIfInBounds_toArray, List.set_cons_zero, List.set_cons_succ]
    refine wpAnyH_take (i := 32) (oi := { dst := some 72, op := Go.Op.pick (Go.Operand.tmp 70) (Go.Operand.const (Go.Value.bool true)) (Go.Operand.tmp 71), type := 4, pos := "law.go:99", after := #[{ on := 30, ground := Go.Ground.data }, { on := 31, ground := Go.Ground.data }, { on := 21, ground := Go.Ground.guard }], guard := some (21, true) }) (v := ?_) rfl (by kernel_rfl) (by kernel_rfl) (by kernel_rfl) (fun _ _ _ h => h) (Or.inl ⟨by rfl, ?_⟩) (by assumption) ?_
    rotate_left 1
    · ((intro w hSw; (try dsimp only at hSw); go_simp); first | done | (with_reducible rfl))
    try simp only [Act.put, List.setIfInBounds_toArray, List.set_cons_zero, List.set_cons_succ]
    refine wpAnyH_take (i := 33) (oi := { dst := some 73, op := Go.Op.binOp Go.BinOp.eql 4 (Go.Operand.tmp 68) (Go.Operand.tmp 72) 4, type := 4, pos := "law.go:99", after := #[{ on := 28, ground := Go.Ground.data }, { on := 32, ground := Go.Ground.data }, { on := 21, ground := Go.Ground.guard }], guard := some (21, true) }) (v := ?_) rfl (by kernel_rfl) (by kernel_rfl) (by kernel_rfl) (fun _ _ _ h => h) (Or.inl ⟨by rfl, ?_⟩) (by assumption) ?_
    rotate_left 1
    · ((intro w hSw; (try dsimp only at hSw); go_simp); first | done | (with_reducible rfl))
    try simp only [Act.put, List.setIfInBounds_toArray, List.set_cons_zero, List.set_cons_succ]
    refine wpAnyH_take (i := 34) (oi := { dst := some 74, op := Go.Op.pick (Go.Operand.tmp 61) (Go.Operand.tmp 73) (Go.Operand.const (Go.Value.bool false)), type := 4, pos := "law.go:99", after := #[{ on := 21, ground := Go.Ground.data }, { on := 33, ground := Go.Ground.data }], guard := none }) (v := ?_) rfl (by kernel_rfl) (by kernel_rfl) (by kernel_rfl) (fun _ _ _ h => h) (Or.inl ⟨by rfl, ?_⟩) (by assumption) ?_
    rotate_left 1
    · ((intro w hSw; (try dsimp only at hSw); go_simp); first | done | (with_reducible rfl))
    try simp only [Act.put, List.setIfInBounds_toArray, List.set_cons_zero, List.set_cons_succ]
    refine wpAnyH_take (i := 35) (oi := { dst := some 13, op := Go.Op.assign (Go.Operand.tmp 74), type := 4, pos := "law.go:99", after := #[{ on := 34, ground := Go.Ground.data }, { on := 30, ground := Go.Ground.chain }, { on := 0, ground := Go.Ground.phase }, { on := 1, ground := Go.Ground.phase }, { on := 2, ground := Go.Ground.phase }, { on := 3, ground := Go.Ground.phase }, { on := 4, ground := Go.Ground.phase }, { on := 5, ground := Go.Ground.phase }, { on := 6, ground := Go.Ground.phase }, { on := 7, ground := Go.Ground.phase }, { on := 8, ground := Go.Ground.phase }, { on := 9, ground := Go.Ground.phase }, { on := 10, ground := Go.Ground.phase }, { on := 11, ground := Go.Ground.phase }, { on := 12, ground := Go.Ground.phase }, { on := 13, ground := Go.Ground.phase }, { on := 14, ground := Go.Ground.phase }, { on := 15, ground := Go.Ground.phase }, { on := 16, ground := Go.Ground.phase }, { on := 17, ground := Go.Ground.phase }, { on := 18, ground := Go.Ground.phase }, { on := 19, ground := Go.Ground.phase }, { on := 20, ground := Go.Ground.phase }, { on := 21, ground := Go.Ground.phase }, { on := 22, ground := Go.Ground.phase }, { on := 23, ground := Go.Ground.phase }, { on := 24, ground := Go.Ground.phase }, { on := 25, ground := Go.Ground.phase }, { on := 26, ground := Go.Ground.phase }, { on := 27, ground := Go.Ground.phase }, { on := 28, ground := Go.Ground.phase }, { on := 29, ground := Go.Ground.phase }, { on := 30, ground := Go.Ground.phase }, { on := 31, ground := Go.Ground.phase }, { on := 32, ground := Go.Ground.phase }, { on := 33, ground := Go.Ground.phase }, { on := 34, ground := Go.Ground.phase }], guard := none }) (v := ?_) rfl (by kernel_rfl) (by kernel_rfl) (by kernel_rfl) (fun _ _ _ h => h) (Or.inl ⟨by rfl, ?_⟩) (by assumption) ?_
    rotate_left 1
    · ((intro w hSw; (try dsimp only at hSw); go_simp); first | done | (with_reducible rfl))
    try simp only [Act.put, List.setIfInBounds_toArray, List.set_cons_zero, List.set_cons_succ]
    refine wpAnyH_done (by kernel_rfl) ?_ _
    have hH := hH7
    clear hH7
    replace HN := Aside0.mk (cn_of hH)
    clear hH hS
    go_wp2_with fail
    have hS := cn_cells (HN.out.below (below_drew (Below.refl _ _)))
    refine wp_region_held_drew (S := (fun w' => w'.cell? ⟨nb, 0, none⟩ = some (.int .i64 4) ∧ w'.cell? ⟨nb, 1, none⟩ = some (.string ⟨#[]⟩) ∧ w'.cell? ⟨nb, 2, none⟩ = some (.int .i64 0) ∧ w'.cell? ⟨nb, 3, none⟩ = some (.int .i64 0) ∧ w'.cell? ⟨nb, 4, none⟩ = some (.slice (some ⟨kb, 0, none⟩) 1 1) ∧ w'.cell? ⟨b1, 0, none⟩ = some (.int .i64 x.f0) ∧ w'.cell? ⟨b1, 1, none⟩ = some (.string x.f1) ∧ w'.cell? ⟨b1, 2, none⟩ = some (.int .i64 x.f2) ∧ w'.cell? ⟨b1, 3, none⟩ = some (.int .i64 x.f3) ∧ w'.cell? ⟨b1, 4, none⟩ = some (.slice A x.f4.length c) ∧ w'.cell? ⟨b2, 0, none⟩ = some (.int .i64 y.f0) ∧ w'.cell? ⟨b2, 1, none⟩ = some (.string y.f1) ∧ w'.cell? ⟨b2, 2, none⟩ = some (.int .i64 y.f2) ∧ w'.cell? ⟨b2, 3, none⟩ = some (.int .i64 y.f3) ∧ w'.cell? ⟨b2, 4, none⟩ = some (.slice B y.f4.length d) ∧ w'.cell? ⟨b3, 0, none⟩ = some (.slice D l.length dc) ∧ CN w w' b1 b2 b3 nb kb x y l cs A B D E c d dc ec)) (by kernel_rfl) ?_ (fun hH0 => ?_)
    · exact hS
    refine wpAnyH_take (i := 0) (oi := { dst := some 75, op := Go.Op.load 24 (Go.Operand.tmp 5), type := 24, pos := "law.go:100", after := #[], guard := none }) (v := ?_) rfl (by kernel_rfl) (by kernel_rfl) (by kernel_rfl) (fun _ _ _ h => h) (Or.inl ⟨by rfl, ?_⟩) (by assumption) ?_
    rotate_left 1
    · ((intro w hSw; (try dsimp only at hSw); go_simp); first | done | (with_reducible rfl))
    try simp only [Act.put, List.setIfInBounds_toArray, List.set_cons_zero, List.set_cons_succ]
    refine wpAnyH_take (i := 1) (oi := { dst := some 76, op := Go.Op.load 24 (Go.Operand.tmp 4), type := 24, pos := "law.go:100", after := #[], guard := none }) (v := ?_) rfl (by kernel_rfl) (by kernel_rfl) (by kernel_rfl) (fun _ _ _ h => h) (Or.inl ⟨by rfl, ?_⟩) (by assumption) ?_
    rotate_left 1
    · ((intro w hSw; (try dsimp only at hSw); go_simp); first | done | (with_reducible rfl))
    try simp only [Act.put, List.setIfInBounds_toArray, List.set_cons_zero, List.set_cons_succ]
    refine wpAnyH_take (i := 4) (oi := { dst := some 79, op := Go.Op.load 27 (Go.Operand.tmp 6), type := 27, pos := "law.go:100", after := #[], guard := none }) (v := ?_) rfl (by kernel_rfl) (by kernel_rfl) (by kernel_rfl) (fun _ _ _ h => h) (Or.inl ⟨by rfl, ?_⟩) (by assumption) ?_
    rotate_left 1
    · ((intro w hSw; (try dsimp only at hSw); go_simp); first | done | (with_reducible rfl))
    try simp only [Act.put, List.setIfInBounds_toArray, List.set_cons_zero, List.set_cons_succ]
    refine wpAnyH_take (i := 5) (oi := { dst := some 80, op := Go.Op.move (Go.Operand.tmp 3), type := 29, pos := "law.go:100", after := #[], guard := none }) (v := ?_) rfl (by kernel_rfl) (by kernel_rfl) (by kernel_rfl) (fun _ _ _ h => h) (Or.inl ⟨by rfl, ?_⟩) (by assumption) ?_
    rotate_left 1
    · ((intro w hSw; (try dsimp only at hSw); go_simp); first | done | (with_reducible rfl))
    try simp only [Act.put, List.setIfInBounds_toArray, List.set_cons_zero, List.set_cons_succ]
    refine wpAnyH_take (i := 7) (oi := { dst := some 82, op := Go.Op.move (Go.Operand.tmp 10), type := 4, pos := "law.go:100", after := #[], guard := none }) (v := ?_) rfl (by kernel_rfl) (by kernel_rfl) (by kernel_rfl) (fun _ _ _ h => h) (Or.inl ⟨by rfl, ?_⟩) (by assumption) ?_
    rotate_left 1
    · ((intro w hSw; (try dsimp only at hSw); go_simp); first | done | (with_reducible rfl))
    try simp only [Act.put, List.setIfInBounds_toArray, List.set_cons_zero, List.set_cons_succ]
    refine wpAnyH_ready (rs := [2]) (by kernel_rfl) (by simp) ?_
    refine AllReadyH.cons (o := { dst := some 77, op := Go.Op.buildSlice 22 2 #[(0, Go.Operand.tmp 75), (1, Go.Operand.tmp 76)], type := 22, pos := "law.go:100", after := #[{ on := 0, ground := Go.Ground.data }, { on := 1, ground := Go.Ground.data }], guard := none }) rfl (fun K hK => ?_) AllReadyH.nil
    go_simp
    refine hK.out _ _ ?_ (fun hH1 => ?_)
    · ((try dsimp only); (first | (with_reducible exact hS) | (with_reducible assumption) | (with_reducible exact cn_cells (CN.below (cn_of (by assumption)) hb)) | (refine cn_cells (CN.below (cn_of (by assumption)) ?_); exact below_alloc (Below.refl _ _) _)))
    clear hK K hH0
    try simp only [Act.put, List.setIfInBounds_toArray, List.set_cons_zero, List.set_cons_succ]
    refine wpAnyH_ready (rs := [3]) (by kernel_rfl) (by simp) ?_
    refine AllReadyH.cons (o := { dst := some 78, op := Go.Op.call { callee := Go.Callee.value (Go.Operand.func 29), args := #[Go.Operand.const (Go.Value.int Go.IntKind.i64 5), Go.Operand.tmp 77], argTypes := #[3, 22] }, type := 24, pos := "law.go:100", after := #[{ on := 2, ground := Go.Ground.data }], guard := none }) rfl (fun K hK => ?_) AllReadyH.nil
    go_simp
    first
      | (go_at_call 20; with_reducible refine Calls.mono (cn_yx (cn_of (by assumption)) OK.out sz1 sz2 5 hb N4.out) ?_; rintro e w' ⟨rfl, hb⟩)
      | (go_at_call 20; with_reducible refine Calls.mono (cn_yxd (cn_of (by assumption)) OK.out sz1 sz2 5 hb N4.out) ?_; rintro e w' ⟨rfl, hb⟩)
      | (go_at_call 20; with_reducible refine Calls.mono (cn_xy (cn_of (by assumption)) OK.out sz1 sz2 6 hb N5.out) ?_; rintro e w' ⟨rfl, hb⟩)
      | (go_at_call 20; with_reducible refine Calls.mono (cn_xyd (cn_of (by assumption)) OK.out sz1 sz2 6 hb N5.out) ?_; rintro e w' ⟨rfl, hb⟩)
      | (go_at_call 29; refine (both_calls _ _ 2 2 _ (Nat.le_refl _)).mono ?_; rintro e w' ⟨rfl, hb⟩)
    try go_wp2_with fail
    refine hK.out _ _ ?_ (fun hH2 => ?_)
    · ((try dsimp only); (first | (with_reducible exact hS) | (with_reducible assumption) | (with_reducible exact cn_cells (CN.below (cn_of (by assumption)) hb)) | (refine cn_cells (CN.below (cn_of (by assumption)) ?_); exact below_alloc (Below.refl _ _) _)))
    clear hK K hH1
    try simp only [Act.put, List.setIfInBounds_toArray, List.set_cons_zero, List.set_cons_succ]
    refine wpAnyH_ready (rs := [6]) (by kernel_rfl) (by simp) ?_
    refine AllReadyH.cons (o := { dst := some 81, op := Go.Op.call { callee := Go.Callee.value (Go.Operand.func 20), args := #[Go.Operand.tmp 78, Go.Operand.tmp 79, Go.Operand.tmp 80], argTypes := #[24, 27, 29] }, type := 4, pos := "law.go:100", after := #[{ on := 3, ground := Go.Ground.data }, { on := 4, ground := Go.Ground.data }, { on := 5, ground := Go.Ground.data }, { on := 3, ground := Go.Ground.chain }], guard := none }) rfl (fun K hK => ?_) AllReadyH.nil
    go_simp
    first
      | (go_at_call 20; with_reducible refine Calls.mono (cn_yx (cn_of (by assumption)) OK.out sz1 sz2 5 hb N4.out) ?_; rintro e w' ⟨rfl, hb⟩)
      | (go_at_call 20; with_reducible refine Calls.mono (cn_yxd (cn_of (by assumption)) OK.out sz1 sz2 5 hb N4.out) ?_; rintro e w' ⟨rfl, hb⟩)
      | (go_at_call 20; with_reducible refine Calls.mono (cn_xy (cn_of (by assumption)) OK.out sz1 sz2 6 hb N5.out) ?_; rintro e w' ⟨rfl, hb⟩)
      | (go_at_call 20; with_reducible refine Calls.mono (cn_xyd (cn_of (by assumption)) OK.out sz1 sz2 6 hb N5.out) ?_; rintro e w' ⟨rfl, hb⟩)
      | (go_at_call 29; refine (both_calls _ _ 2 2 _ (Nat.le_refl _)).mono ?_; rintro e w' ⟨rfl, hb⟩)
    try go_wp2_with fail
    refine hK.out _ _ ?_ (fun hH3 => ?_)
    · ((try dsimp only); (first | (with_reducible exact hS) | (with_reducible assumption) | (with_reducible exact cn_cells (CN.below (cn_of (by assumption)) hb)) | (refine cn_cells (CN.below (cn_of (by assumption)) ?_); exact below_alloc (Below.refl _ _) _)))
    clear hK K hH2
    try simp only [Act.put, List.setIfInBounds_toArray, List.set_cons_zero, List.set_cons_succ]
    refine wpAnyH_take (i := 8) (oi := { dst := some 83, op := Go.Op.move (Go.Operand.tmp 82), type := 4, pos := "law.go:100", after := #[{ on := 7, ground := Go.Ground.data }, { on := 6, ground := Go.Ground.chain }], guard := none }) (v := ?_) rfl (by kernel_rfl) (by kernel_rfl) (by kernel_rfl) (fun _ _ _ h => h) (Or.inl ⟨by rfl, ?_⟩) (by assumption) ?_
    rotate_left 1
    · ((intro w hSw; (try dsimp only at hSw); go_simp); first | done | (with_reducible rfl))
    try simp only [Act.put, List.setIfInBounds_toArray, List.set_cons_zero, List.set_cons_succ]
    refine wpAnyH_take (i := 9) (oi := { dst := some 84, op := Go.Op.move (Go.Operand.tmp 11), type := 4, pos := "law.go:100", after := #[{ on := 8, ground := Go.Ground.guard }], guard := some (8, true) }) (v := undef) rfl (by kernel_rfl) (by kernel_rfl) (by kernel_rfl) (fun _ _ _ h => h) (Or.inr ⟨by rfl, rfl⟩) (by assumption) ?_
    try simp only [Act.put, List.setIfInBounds_toArray, List.set_cons_zero, List.set_cons_succ]
    refine wpAnyH_take (i := 10) (oi := { dst := some 85, op := Go.Op.pick (Go.Operand.tmp 83) (Go.Operand.tmp 84) (Go.Operand.const (Go.Value.bool false)), type := 4, pos := "law.go:100", after := #[{ on := 8, ground := Go.Ground.data }, { on := 9, ground := Go.Ground.data }], guard := none }) (v := ?_) rfl (by kernel_rfl) (by kernel_rfl) (by kernel_rfl) (fun _ _ _ h => h) (Or.inl ⟨by rfl, ?_⟩) (by assumption) ?_
    rotate_left 1
    · ((intro w hSw; (try dsimp only at hSw); go_simp); first | done | (with_reducible rfl))
    try simp only [Act.put, List.setIfInBounds_toArray, List.set_cons_zero, List.set_cons_succ]
    refine wpAnyH_take (i := 11) (oi := { dst := some 86, op := Go.Op.binOp Go.BinOp.eql 4 (Go.Operand.tmp 81) (Go.Operand.tmp 85) 4, type := 4, pos := "law.go:100", after := #[{ on := 6, ground := Go.Ground.data }, { on := 10, ground := Go.Ground.data }], guard := none }) (v := ?_) rfl (by kernel_rfl) (by kernel_rfl) (by kernel_rfl) (fun _ _ _ h => h) (Or.inl ⟨by rfl, ?_⟩) (by assumption) ?_
    rotate_left 1
    · ((intro w hSw; (try dsimp only at hSw); go_simp); first | done | (with_reducible rfl))
    try simp only [Act.put, List.setIfInBounds_toArray, List.set_cons_zero, List.set_cons_succ]
    refine wpAnyH_take (i := 12) (oi := { dst := some 87, op := Go.Op.move (Go.Operand.tmp 86), type := 4, pos := "law.go:100", after := #[{ on := 11, ground := Go.Ground.data }, { on := 8, ground := Go.Ground.chain }], guard := none }) (v := ?_) rfl (by kernel_rfl) (by kernel_rfl) (by kernel_rfl) (fun _ _ _ h => h) (Or.inl ⟨by rfl, ?_⟩) (by assumption) ?_
    rotate_left 1
    · ((intro w hSw; (try dsimp only at hSw); go_simp); first | done | (with_reducible rfl))
    try simp only [Act.put, List.setIfInBounds_toArray, List.set_cons_zero, List.set_cons_succ]
    refine wpAnyH_take (i := 13) (oi := { dst := some 88, op := Go.Op.load 24 (Go.Operand.tmp 4), type := 24, pos := "law.go:100", after := #[{ on := 12, ground := Go.Ground.guard }], guard := some (12, true) }) (v := ?_) rfl (by kernel_rfl) (by kernel_rfl) (by kernel_rfl) (fun _ _ _ h => h) (Or.inl ⟨by rfl, ?_⟩) (by assumption) ?_
    rotate_left 1
    · ((intro w hSw; (try dsimp only at hSw); go_simp); first | done | (with_reducible rfl))
    try simp only [Act.put, List.setIfInBounds_toArray, List.set_cons_zero, List.set_cons_succ]
    refine wpAnyH_take (i := 14) (oi := { dst := some 89, op := Go.Op.load 24 (Go.Operand.tmp 5), type := 24, pos := "law.go:100", after := #[{ on := 12, ground := Go.Ground.guard }], guard := some (12, true) }) (v := ?_) rfl (by kernel_rfl) (by kernel_rfl) (by kernel_rfl) (fun _ _ _ h => h) (Or.inl ⟨by rfl, ?_⟩) (by assumption) ?_
    rotate_left 1
    · ((intro w hSw; (try dsimp only at hSw); go_simp); first | done | (with_reducible rfl))
    try simp only [Act.put, List.setIfInBounds_toArray, List.set_cons_zero, List.set_cons_succ]
    refine wpAnyH_take (i := 17) (oi := { dst := some 92, op := Go.Op.load 27 (Go.Operand.tmp 6), type := 27, pos := "law.go:100", after := #[{ on := 12, ground := Go.Ground.guard }], guard := some (12, true) }) (v := ?_) rfl (by kernel_rfl) (by kernel_rfl) (by kernel_rfl) (fun _ _ _ h => h) (Or.inl ⟨by rfl, ?_⟩) (by assumption) ?_
    rotate_left 1
    · ((intro w hSw; (try dsimp only at hSw); go_simp); first | done | (with_reducible rfl))
    try simp only [Act.put, List.setIfInBounds_toArray, List.set_cons_zero, List.set_cons_succ]
    refine wpAnyH_take (i := 18) (oi := { dst := some 93, op := Go.Op.move (Go.Operand.tmp 3), type := 29, pos := "law.go:100", after := #[{ on := 12, ground := Go.Ground.guard }], guard := some (12, true) }) (v := ?_) rfl (by kernel_rfl) (by kernel_rfl) (by kernel_rfl) (fun _ _ _ h => h) (Or.inl ⟨by rfl, ?_⟩) (by assumption) ?_
    rotate_left 1
    · ((intro w hSw; (try dsimp only at hSw); go_simp); first | done | (with_reducible rfl))
    try simp only [Act.put, List.setIfInBounds_toArray, List.set_cons_zero, List.set_cons_succ]
    refine wpAnyH_take (i := 20) (oi := { dst := some 95, op := Go.Op.move (Go.Operand.tmp 10), type := 4, pos := "law.go:100", after := #[{ on := 12, ground := Go.Ground.guard }], guard := some (12, true) }) (v := ?_) rfl (by kernel_rfl) (by kernel_rfl) (by kernel_rfl) (fun _ _ _ h => h) (Or.inl ⟨by rfl, ?_⟩) (by assumption) ?_
    rotate_left 1
    · ((intro w hSw; (try dsimp only at hSw); go_simp); first | done | (with_reducible rfl))
    try simp only [Act.put, List.setIfInBounds_toArray, List.set_cons_zero, List.set_cons_succ]
    refine wpAnyH_ready (rs := [15]) (by kernel_rfl) (by simp) ?_
    refine AllReadyH.cons (o := { dst := some 90, op := Go.Op.buildSlice 22 2 #[(0, Go.Operand.tmp 88), (1, Go.Operand.tmp 89)], type := 22, pos := "law.go:100", after := #[{ on := 13, ground := Go.Ground.data }, { on := 14, ground := Go.Ground.data }, { on := 12, ground := Go.Ground.guard }], guard := some (12, true) }) rfl (fun K hK => ?_) AllReadyH.nil
    go_simp
    refine hK.out _ _ ?_ (fun hH4 => ?_)
    · ((try dsimp only); (first | (with_reducible exact hS) | (with_reducible assumption) | (with_reducible exact cn_cells (CN.below (cn_of (by assumption)) hb)) | (refine cn_cells (CN.below (cn_of (by assumption)) ?_); exact below_alloc (Below.refl _ _) _)))
    clear hK K hH3
    try simp only [Act.put, List.setIfInBounds_toArray, List.set_cons_zero, List.set_cons_succ]
    refine wpAnyH_ready (rs := [16]) (by kernel_rfl) (by simp) ?_
    refine AllReadyH.cons (o := { dst := some 91, op := Go.Op.call { callee := Go.Callee.value (Go.Operand.func 29), args := #[Go.Operand.const (Go.Value.int Go.IntKind.i64 6), Go.Operand.tmp 90], argTypes := #[3, 22] }, type := 24, pos := "law.go:100", after := #[{ on := 15, ground := Go.Ground.data }, { on := 12, ground := Go.Ground.chain }, { on := 12, ground := Go.Ground.guard }], guard := some (12, true) }) rfl (fun K hK => ?_) AllReadyH.nil
    go_simp
    first
      | (go_at_call 20; with_reducible refine Calls.mono (cn_yx (cn_of (by assumption)) OK.out sz1 sz2 5 hb N4.out) ?_; rintro e w' ⟨rfl, hb⟩)
      | (go_at_call 20; with_reducible refine Calls.mono (cn_yxd (cn_of (by assumption)) OK.out sz1 sz2 5 hb N4.out) ?_; rintro e w' ⟨rfl, hb⟩)
      | (go_at_call 20; with_reducible refine Calls.mono (cn_xy (cn_of (by assumption)) OK.out sz1 sz2 6 hb N5.out) ?_; rintro e w' ⟨rfl, hb⟩)
      | (go_at_call 20; with_reducible refine Calls.mono (cn_xyd (cn_of (by assumption)) OK.out sz1 sz2 6 hb N5.out) ?_; rintro e w' ⟨rfl, hb⟩)
      | (go_at_call 29; refine (both_calls _ _ 2 2 _ (Nat.le_refl _)).mono ?_; rintro e w' ⟨rfl, hb⟩)
    try go_wp2_with fail
    refine hK.out _ _ ?_ (fun hH5 => ?_)
    · ((try dsimp only); (first | (with_reducible exact hS) | (with_reducible assumption) | (with_reducible exact cn_cells (CN.below (cn_of (by assumption)) hb)) | (refine cn_cells (CN.below (cn_of (by assumption)) ?_); exact below_alloc (Below.refl _ _) _)))
    clear hK K hH4
    try simp only [Act.put, List.setIfInBounds_toArray, List.set_cons_zero, List.set_cons_succ]
    refine wpAnyH_ready (rs := [19]) (by kernel_rfl) (by simp) ?_
    refine AllReadyH.cons (o := { dst := some 94, op := Go.Op.call { callee := Go.Callee.value (Go.Operand.func 20), args := #[Go.Operand.tmp 91, Go.Operand.tmp 92, Go.Operand.tmp 93], argTypes := #[24, 27, 29] }, type := 4, pos := "law.go:100", after := #[{ on := 16, ground := Go.Ground.data }, { on := 17, ground := Go.Ground.data }, { on := 18, ground := Go.Ground.data }, { on := 16, ground := Go.Ground.chain }, { on := 12, ground := Go.Ground.guard }], guard := some (12, true) }) rfl (fun K hK => ?_) AllReadyH.nil
    go_simp
    first
      | (go_at_call 20; with_reducible refine Calls.mono (cn_yx (cn_of (by assumption)) OK.out sz1 sz2 5 hb N4.out) ?_; rintro e w' ⟨rfl, hb⟩)
      | (go_at_call 20; with_reducible refine Calls.mono (cn_yxd (cn_of (by assumption)) OK.out sz1 sz2 5 hb N4.out) ?_; rintro e w' ⟨rfl, hb⟩)
      | (go_at_call 20; with_reducible refine Calls.mono (cn_xy (cn_of (by assumption)) OK.out sz1 sz2 6 hb N5.out) ?_; rintro e w' ⟨rfl, hb⟩)
      | (go_at_call 20; with_reducible refine Calls.mono (cn_xyd (cn_of (by assumption)) OK.out sz1 sz2 6 hb N5.out) ?_; rintro e w' ⟨rfl, hb⟩)
      | (go_at_call 29; refine (both_calls _ _ 2 2 _ (Nat.le_refl _)).mono ?_; rintro e w' ⟨rfl, hb⟩)
    try go_wp2_with fail
    refine hK.out _ _ ?_ (fun hH6 => ?_)
    · ((try dsimp only); (first | (with_reducible exact hS) | (with_reducible assumption) | (with_reducible exact cn_cells (CN.below (cn_of (by assumption)) hb)) | (refine cn_cells (CN.below (cn_of (by assumption)) ?_); exact below_alloc (Below.refl _ _) _)))
    clear hK K hH5
    try simp only [Act.put, List.setIfInBounds_toArray, List.set_cons_zero, List.set_cons_succ]
    refine wpAnyH_take (i := 21) (oi := { dst := some 96, op := Go.Op.move (Go.Operand.tmp 95), type := 4, pos := "law.go:100", after := #[{ on := 20, ground := Go.Ground.data }, { on := 19, ground := Go.Ground.chain }, { on := 12, ground := Go.Ground.guard }], guard := some (12, true) }) (v := ?_) rfl (by kernel_rfl) (by kernel_rfl) (by kernel_rfl) (fun _ _ _ h => h) (Or.inl ⟨by rfl, ?_⟩) (by assumption) ?_
    rotate_left 1
    · ((intro w hSw; (try dsimp only at hSw); go_simp); first | done | (with_reducible rfl))
    try simp only [Act.put, List.setIfInBounds_toArray, List.set_cons_zero, List.set_cons_succ]
    refine wpAnyH_take (i := 22) (oi := { dst := some 97, op := Go.Op.move (Go.Operand.tmp 11), type := 4, pos := "law.go:100", after := #[{ on := 21, ground := Go.Ground.guard }], guard := some (21, false) }) (v := ?_) rfl (by kernel_rfl) (by kernel_rfl) (by kernel_rfl) (fun _ _ _ h => h) (Or.inl ⟨by rfl, ?_⟩) (by assumption) ?_
    rotate_left 1
    · ((intro w hSw; (try dsimp only at hSw); go_simp); first | done | (with_reducible rfl))
    try simp only [Act.put, List.setIfInBounds_toArray, List.set_cons_zero, List.set_cons_succ]
    refine wpAnyH_take (i := 23) (oi := { dst := some 98, op := Go.Op.pick (Go.Operand.tmp 96) (Go.Operand.const (Go.Value.bool true)) (Go.Operand.tmp 97), type := 4, pos := "law.go:100", after := #[{ on := 21, ground := Go.Ground.data }, { on := 22, ground := Go.Ground.data }, { on := 12, ground := Go.Ground.guard }], guard := some (12, true) }) (v := ?_) rfl (by kernel_rfl) (by kernel_rfl) (by kernel_rfl) (fun _ _ _ h => h) (Or.inl ⟨by rfl, ?_⟩) (by assumption) ?_
    rotate_left 1
    · ((intro w hSw; (try dsimp only at hSw); go_simp); first | done | (with_reducible rfl))
    try simp only [Act.put, List.setIfInBounds_toArray, List.set_cons_zero, List.set_cons_succ]
    refine wpAnyH_take (i := 24) (oi := { dst := some 99, op := Go.Op.binOp Go.BinOp.eql 4 (Go.Operand.tmp 94) (Go.Operand.tmp 98) 4, type := 4, pos := "law.go:100", after := #[{ on := 19, ground := Go.Ground.data }, { on := 23, ground := Go.Ground.data }, { on := 12, ground := Go.Ground.guard }], guard := some (12, true) }) (v := ?_) rfl (by kernel_rfl) (by kernel_rfl) (by kernel_rfl) (fun _ _ _ h => h) (Or.inl ⟨by rfl, ?_⟩) (by assumption) ?_
    rotate_left 1
    · ((intro w hSw; (try dsimp only at hSw); go_simp); first | done | (with_reducible rfl))
    try simp only [Act.put, List.setIfInBounds_toArray, List.set_cons_zero, List.set_cons_succ]
    refine wpAnyH_take (i := 25) (oi := { dst := some 100, op := Go.Op.pick (Go.Operand.tmp 87) (Go.Operand.tmp 99) (Go.Operand.const (Go.Value.bool false)), type := 4, pos := "law.go:100", after := #[{ on := 12, ground := Go.Ground.data }, { on := 24, ground := Go.Ground.data }], guard := none }) (v := ?_) rfl (by kernel_rfl) (by kernel_rfl) (by kernel_rfl) (fun _ _ _ h => h) (Or.inl ⟨by rfl, ?_⟩) (by assumption) ?_
    rotate_left 1
    · ((intro w hSw; (try dsimp only at hSw); go_simp); first | done | (with_reducible rfl))
    try simp only [Act.put, List.setIfInBounds_toArray, List.set_cons_zero, List.set_cons_succ]
    refine wpAnyH_take (i := 26) (oi := { dst := some 14, op := Go.Op.assign (Go.Operand.tmp 100), type := 4, pos := "law.go:100", after := #[{ on := 25, ground := Go.Ground.data }, { on := 21, ground := Go.Ground.chain }, { on := 0, ground := Go.Ground.phase }, { on := 1, ground := Go.Ground.phase }, { on := 2, ground := Go.Ground.phase }, { on := 3, ground := Go.Ground.phase }, { on := 4, ground := Go.Ground.phase }, { on := 5, ground := Go.Ground.phase }, { on := 6, ground := Go.Ground.phase }, { on := 7, ground := Go.Ground.phase }, { on := 8, ground := Go.Ground.phase }, { on := 9, ground := Go.Ground.phase }, { on := 10, ground := Go.Ground.phase }, { on := 11, ground := Go.Ground.phase }, { on := 12, ground := Go.Ground.phase }, { on := 13, ground := Go.Ground.phase }, { on := 14, ground := Go.Ground.phase }, { on := 15, ground := Go.Ground.phase }, { on := 16, ground := Go.Ground.phase }, { on := 17, ground := Go.Ground.phase }, { on := 18, ground := Go.Ground.phase }, { on := 19, ground := Go.Ground.phase }, { on := 20, ground := Go.Ground.phase }, { on := 21, ground := Go.Ground.phase }, { on := 22, ground := Go.Ground.phase }, { on := 23, ground := Go.Ground.phase }, { on := 24, ground := Go.Ground.phase }, { on := 25, ground := Go.Ground.phase }], guard := none }) (v := ?_) rfl (by kernel_rfl) (by kernel_rfl) (by kernel_rfl) (fun _ _ _ h => h) (Or.inl ⟨by rfl, ?_⟩) (by assumption) ?_
    rotate_left 1
    · ((intro w hSw; (try dsimp only at hSw); go_simp); first | done | (with_reducible rfl))
    try simp only [Act.put, List.setIfInBounds_toArray, List.set_cons_zero, List.set_cons_succ]
    refine wpAnyH_done (by kernel_rfl) ?_ _
    have hH := hH6
    clear hH6
    replace HN := Aside0.mk (cn_of hH)
    clear hH hS
    go_wp2_with fail
    have hS := cn_cells (HN.out.below (below_drew (Below.refl _ _)))
    first
    | (
          go_region_held3 (fun w' => w'.cell? ⟨nb, 0, none⟩ = some (.int .i64 4) ∧ w'.cell? ⟨nb, 1, none⟩ = some (.string ⟨#[]⟩) ∧ w'.cell? ⟨nb, 2, none⟩ = some (.int .i64 0) ∧ w'.cell? ⟨nb, 3, none⟩ = some (.int .i64 0) ∧ w'.cell? ⟨nb, 4, none⟩ = some (.slice (some ⟨kb, 0, none⟩) 1 1) ∧ w'.cell? ⟨b1, 0, none⟩ = some (.int .i64 x.f0) ∧ w'.cell? ⟨b1, 1, none⟩ = some (.string x.f1) ∧ w'.cell? ⟨b1, 2, none⟩ = some (.int .i64 x.f2) ∧ w'.cell? ⟨b1, 3, none⟩ = some (.int .i64 x.f3) ∧ w'.cell? ⟨b1, 4, none⟩ = some (.slice A x.f4.length c) ∧ w'.cell? ⟨b2, 0, none⟩ = some (.int .i64 y.f0) ∧ w'.cell? ⟨b2, 1, none⟩ = some (.string y.f1) ∧ w'.cell? ⟨b2, 2, none⟩ = some (.int .i64 y.f2) ∧ w'.cell? ⟨b2, 3, none⟩ = some (.int .i64 y.f3) ∧ w'.cell? ⟨b2, 4, none⟩ = some (.slice B y.f4.length d) ∧ w'.cell? ⟨b3, 0, none⟩ = some (.slice D l.length dc) ∧ CN w w' b1 b2 b3 nb kb x y l cs A B D E c d dc ec)
            (first | (with_reducible exact hS) | (with_reducible assumption) | (with_reducible exact cn_cells (CN.below (cn_of (by assumption)) hb)) | (refine cn_cells (CN.below (cn_of (by assumption)) ?_); exact below_alloc (Below.refl _ _) _))
            (first
              | (go_at_call 20; with_reducible show Calls _ _ #[.agg #[.int .i64 4, _, _, _, _], _, _] _ _; with_reducible refine Calls.mono (cn_nand (cn_of (by assumption)) OK.out sz1 sz2 (by repeat (first | (with_reducible exact blk_new _ _ (by first | rfl | (simp; done))) | (with_reducible refine blk_drew_old ?_) | (with_reducible refine blk_through (by assumption) ?_) | (with_reducible refine blk_alloc_old ?_ _))) (by repeat (first | (with_reducible exact blk_new _ _ (by first | rfl | (simp; done))) | (with_reducible refine blk_drew_old ?_) | (with_reducible refine blk_through (by assumption) ?_) | (with_reducible refine blk_alloc_old ?_ _))) N6.out) ?_; rintro e w' ⟨rfl, hb⟩)
              | (go_at_call 20; with_reducible show Calls _ _ #[.agg #[.int .i64 6, _, _, _, _], _, _] _ _; with_reducible refine Calls.mono (cn_orn (cn_of (by assumption)) OK.out sz1 sz2 (by repeat (first | (with_reducible exact blk_new _ _ (by first | rfl | (simp; done))) | (with_reducible refine blk_drew_old ?_) | (with_reducible refine blk_through (by assumption) ?_) | (with_reducible refine blk_alloc_old ?_ _))) (by repeat (first | (with_reducible exact blk_new _ _ (by first | rfl | (simp; done))) | (with_reducible refine blk_drew_old ?_) | (with_reducible refine blk_through (by assumption) ?_) | (with_reducible refine blk_alloc_old ?_ _))) N7.out) ?_; rintro e w' ⟨rfl, hb⟩)
              | (go_at_call 29; refine (both_calls _ _ _ _ _ (Nat.le_refl _)).mono ?_; rintro e w' ⟨rfl, hb⟩)))
    | fail
    all_goals
      rename_i hH
      replace HN := Aside0.mk (cn_of hH)
      clear hH hS
      go_wp2
      go_ret
      first | exact ⟨rfl, HN.out.cp.old⟩ | exact ⟨rfl, by have := HN.out.cp.old; rwa [hb1] at this⟩
  · have M1 := N1.out
    simp only [Bool.not_true, Bool.not_false, Bool.true_and, Bool.false_and, Bool.true_or, Bool.false_or] at M1
    replace N1 := Aside0.mk M1
    clear M1
    have M2 := N2.out
    simp only [Bool.not_true, Bool.not_false, Bool.true_and, Bool.false_and, Bool.true_or, Bool.false_or] at M2
    replace N2 := Aside0.mk M2
    clear M2
    have M3 := N3.out
    simp only [Bool.not_true, Bool.not_false, Bool.true_and, Bool.false_and, Bool.true_or, Bool.false_or] at M3
    replace N3 := Aside0.mk M3
    clear M3
    have M4 := N4.out
    simp only [Bool.not_true, Bool.not_false, Bool.true_and, Bool.false_and, Bool.true_or, Bool.false_or] at M4
    replace N4 := Aside0.mk M4
    clear M4
    have M5 := N5.out
    simp only [Bool.not_true, Bool.not_false, Bool.true_and, Bool.false_and, Bool.true_or, Bool.false_or] at M5
    replace N5 := Aside0.mk M5
    clear M5
    have M6 := N6.out
    simp only [Bool.not_true, Bool.not_false, Bool.true_and, Bool.false_and, Bool.true_or, Bool.false_or] at M6
    replace N6 := Aside0.mk M6
    clear M6
    have M7 := N7.out
    simp only [Bool.not_true, Bool.not_false, Bool.true_and, Bool.false_and, Bool.true_or, Bool.false_or] at M7
    replace N7 := Aside0.mk M7
    clear M7
    go_wp2_with fail
    obtain ⟨Wn, hWn⟩ : ∃ W, w3.alloc (.cells (notC w2.heap.size) 24) = W := ⟨_, rfl⟩
    rw [hWn] at HN ⊢
    clear hWn
    obtain ⟨nb, hnb⟩ : ∃ k, w3.heap.size = k := ⟨_, rfl⟩
    obtain ⟨kb, hkb⟩ : ∃ k, w2.heap.size = k := ⟨_, rfl⟩
    obtain ⟨b1, hb1⟩ : ∃ k, w.heap.size = k := ⟨_, rfl⟩
    obtain ⟨b2, hb2⟩ : ∃ k, b1 + 1 = k := ⟨_, rfl⟩
    obtain ⟨b3, hb3⟩ : ∃ k, b2 + 1 = k := ⟨_, rfl⟩
    rw [hnb, hkb, hb1, hb2, hb3] at HN
    simp only [hnb, hkb, hb1, hb2, hb3]
    clear hnb hkb hb2 hb3
    have hS := cn_cells (HN.out.below (below_drew (Below.refl _ _)))
    refine wp_region_held_drew (S := (fun w' => w'.cell? ⟨nb, 0, none⟩ = some (.int .i64 4) ∧ w'.cell? ⟨nb, 1, none⟩ = some (.string ⟨#[]⟩) ∧ w'.cell? ⟨nb, 2, none⟩ = some (.int .i64 0) ∧ w'.cell? ⟨nb, 3, none⟩ = some (.int .i64 0) ∧ w'.cell? ⟨nb, 4, none⟩ = some (.slice (some ⟨kb, 0, none⟩) 1 1) ∧ w'.cell? ⟨b1, 0, none⟩ = some (.int .i64 x.f0) ∧ w'.cell? ⟨b1, 1, none⟩ = some (.string x.f1) ∧ w'.cell? ⟨b1, 2, none⟩ = some (.int .i64 x.f2) ∧ w'.cell? ⟨b1, 3, none⟩ = some (.int .i64 x.f3) ∧ w'.cell? ⟨b1, 4, none⟩ = some (.slice A x.f4.length c) ∧ w'.cell? ⟨b2, 0, none⟩ = some (.int .i64 y.f0) ∧ w'.cell? ⟨b2, 1, none⟩ = some (.string y.f1) ∧ w'.cell? ⟨b2, 2, none⟩ = some (.int .i64 y.f2) ∧ w'.cell? ⟨b2, 3, none⟩ = some (.int .i64 y.f3) ∧ w'.cell? ⟨b2, 4, none⟩ = some (.slice B y.f4.length d) ∧ w'.cell? ⟨b3, 0, none⟩ = some (.slice D l.length dc) ∧ CN w w' b1 b2 b3 nb kb x y l cs A B D E c d dc ec)) (by kernel_rfl) ?_ (fun hH0 => ?_)
    · exact hS
    refine wpAnyH_take (i := 0) (oi := { dst := some 40, op := Go.Op.load 24 (Go.Operand.tmp 12), type := 24, pos := "law.go:99", after := #[], guard := none }) (v := ?_) rfl (by kernel_rfl) (by kernel_rfl) (by kernel_rfl) (fun _ _ _ h => h) (Or.inl ⟨by rfl, ?_⟩) (by assumption) ?_
    rotate_left 1
    · ((intro w hSw; (try dsimp only at hSw); go_simp); first | done | (with_reducible rfl))
    try simp only [Act.put, List.setIfInBounds_toArray, List.set_cons_zero, List.set_cons_succ]
    refine wpAnyH_take (i := 1) (oi := { dst := some 41, op := Go.Op.load 27 (Go.Operand.tmp 6), type := 27, pos := "law.go:99", after := #[], guard := none }) (v := ?_) rfl (by kernel_rfl) (by kernel_rfl) (by kernel_rfl) (fun _ _ _ h => h) (Or.inl ⟨by rfl, ?_⟩) (by assumption) ?_
    rotate_left 1
    · ((intro w hSw; (try dsimp only at hSw); go_simp); first | done | (with_reducible rfl))
    try simp only [Act.put, List.setIfInBounds_toArray, List.set_cons_zero, List.set_cons_succ]
    refine wpAnyH_take (i := 2) (oi := { dst := some 42, op := Go.Op.move (Go.Operand.tmp 3), type := 29, pos := "law.go:99", after := #[], guard := none }) (v := ?_) rfl (by kernel_rfl) (by kernel_rfl) (by kernel_rfl) (fun _ _ _ h => h) (Or.inl ⟨by rfl, ?_⟩) (by assumption) ?_
    rotate_left 1
    · ((intro w hSw; (try dsimp only at hSw); go_simp); first | done | (with_reducible rfl))
    try simp only [Act.put, List.setIfInBounds_toArray, List.set_cons_zero, List.set_cons_succ]
    refine wpAnyH_take (i := 4) (oi := { dst := some 44, op := Go.Op.move (Go.Operand.tmp 10), type := 4, pos := "law.go:99", after := #[], guard := none }) (v := ?_) rfl (by kernel_rfl) (by kernel_rfl) (by kernel_rfl) (fun _ _ _ h => h) (Or.inl ⟨by rfl, ?_⟩) (by assumption) ?_
    rotate_left 1
    · ((intro w hSw; (try dsimp only at hSw); go_simp); first | done | (with_reducible rfl))
    try simp only [Act.put, List.setIfInBounds_toArray, List.set_cons_zero, List.set_cons_succ]
    refine wpAnyH_take (i := 5) (oi := { dst := some 45, op := Go.Op.unOp Go.UnOp.not 4 (Go.Operand.tmp 44), type := 4, pos := "law.go:99", after := #[{ on := 4, ground := Go.Ground.data }], guard := none }) (v := ?_) rfl (by kernel_rfl) (by kernel_rfl) (by kernel_rfl) (fun _ _ _ h => h) (Or.inl ⟨by rfl, ?_⟩) (by assumption) ?_
    rotate_left 1
    · ((intro w hSw; (try dsimp only at hSw); go_simp); first | done | (with_reducible rfl))
    try simp only [Act.put, List.setIfInBounds_toArray, List.set_cons_zero, List.set_cons_succ]
    refine wpAnyH_ready (rs := [3]) (by kernel_rfl) (by simp) ?_
    refine AllReadyH.cons (o := { dst := some 43, op := Go.Op.call { callee := Go.Callee.value (Go.Operand.func 20), args := #[Go.Operand.tmp 40, Go.Operand.tmp 41, Go.Operand.tmp 42], argTypes := #[24, 27, 29] }, type := 4, pos := "law.go:99", after := #[{ on := 0, ground := Go.Ground.data }, { on := 1, ground := Go.Ground.data }, { on := 2, ground := Go.Ground.data }], guard := none }) rfl (fun K hK => ?_) AllReadyH.nil
    go_simp
    first
      | (go_at_call 20; with_reducible refine Calls.mono (cn_not (cn_of (by assumption)) OK.out sz1 sz2 N1.out) ?_; rintro e w' ⟨rfl, hb⟩)
      | (go_at_call 20; with_reducible refine Calls.mono (cn_xy (cn_of (by assumption)) OK.out sz1 sz2 5 hb N2.out) ?_; rintro e w' ⟨rfl, hb⟩)
      | (go_at_call 20; with_reducible refine Calls.mono (cn_yx (cn_of (by assumption)) OK.out sz1 sz2 6 hb N3.out) ?_; rintro e w' ⟨rfl, hb⟩)
      | (go_at_call 29; refine (both_calls _ _ 2 2 _ (Nat.le_refl _)).mono ?_; rintro e w' ⟨rfl, hb⟩)
    try go_wp2_with fail
    refine hK.out _ _ ?_ (fun hH1 => ?_)
    · ((try dsimp only); (first | (with_reducible exact hS) | (with_reducible assumption) | (with_reducible exact cn_cells (CN.below (cn_of (by assumption)) hb)) | (refine cn_cells (CN.below (cn_of (by assumption)) ?_); exact below_alloc (Below.refl _ _) _)))
    clear hK K hH0
    try simp only [Act.put, List.setIfInBounds_toArray, List.set_cons_zero, List.set_cons_succ]
    refine wpAnyH_take (i := 6) (oi := { dst := some 46, op := Go.Op.binOp Go.BinOp.eql 4 (Go.Operand.tmp 43) (Go.Operand.tmp 45) 4, type := 4, pos := "law.go:99", after := #[{ on := 3, ground := Go.Ground.data }, { on := 5, ground := Go.Ground.data }], guard := none }) (v := ?_) rfl (by kernel_rfl) (by kernel_rfl) (by kernel_rfl) (fun _ _ _ h => h) (Or.inl ⟨by rfl, ?_⟩) (by assumption) ?_
    rotate_left 1
    · ((intro w hSw; (try dsimp only at hSw); go_simp); first | done | (with_reducible rfl))
    try simp only [Act.put, List.setIfInBounds_toArray, List.set_cons_zero, List.set_cons_succ]
    refine wpAnyH_take (i := 7) (oi := { dst := some 47, op := Go.Op.move (Go.Operand.tmp 46), type := 4, pos := "law.go:99", after := #[{ on := 6, ground := Go.Ground.data }, { on := 3, ground := Go.Ground.chain }], guard := none }) (v := ?_) rfl (by kernel_rfl) (by kernel_rfl) (by kernel_rfl) (fun _ _ _ h => h) (Or.inl ⟨by rfl, ?_⟩) (by assumption) ?_
    rotate_left 1
    · ((intro w hSw; (try dsimp only at hSw); go_simp); first | done | (with_reducible rfl))
    try simp only [Act.put, List.setIfInBounds_toArray, List.set_cons_zero, List.set_cons_succ]
    refine wpAnyH_take (i := 8) (oi := { dst := some 48, op := Go.Op.load 24 (Go.Operand.tmp 4), type := 24, pos := "law.go:99", after := #[{ on := 7, ground := Go.Ground.guard }], guard := some (7, true) }) (v := ?_) rfl (by kernel_rfl) (by kernel_rfl) (by kernel_rfl) (fun _ _ _ h => h) (Or.inl ⟨by rfl, ?_⟩) (by assumption) ?_
    rotate_left 1
    · ((intro w hSw; (try dsimp only at hSw); go_simp); first | done | (with_reducible rfl))
    try simp only [Act.put, List.setIfInBounds_toArray, List.set_cons_zero, List.set_cons_succ]
    refine wpAnyH_take (i := 9) (oi := { dst := some 49, op := Go.Op.load 24 (Go.Operand.tmp 5), type := 24, pos := "law.go:99", after := #[{ on := 7, ground := Go.Ground.guard }], guard := some (7, true) }) (v := ?_) rfl (by kernel_rfl) (by kernel_rfl) (by kernel_rfl) (fun _ _ _ h => h) (Or.inl ⟨by rfl, ?_⟩) (by assumption) ?_
    rotate_left 1
    · ((intro w hSw; (try dsimp only at hSw); go_simp); first | done | (with_reducible rfl))
    try simp only [Act.put, List.setIfInBounds_toArray, List.set_cons_zero, List.set_cons_succ]
    refine wpAnyH_take (i := 12) (oi := { dst := some 52, op := Go.Op.load 27 (Go.Operand.tmp 6), type := 27, pos := "law.go:99", after := #[{ on := 7, ground := Go.Ground.guard }], guard := some (7, true) }) (v := ?_) rfl (by kernel_rfl) (by kernel_rfl) (by kernel_rfl) (fun _ _ _ h => h) (Or.inl ⟨by rfl, ?_⟩) (by assumption) ?_
    rotate_left 1
    · ((intro w hSw; (try dsimp only at hSw); go_simp); first | done | (with_reducible rfl))
    try simp only [Act.put, List.setIfInBounds_toArray, List.set_cons_zero, List.set_cons_succ]
    refine wpAnyH_take (i := 13) (oi := { dst := some 53, op := Go.Op.move (Go.Operand.tmp 3), type := 29, pos := "law.go:99", after := #[{ on := 7, ground := Go.Ground.guard }], guard := some (7, true) }) (v := ?_) rfl (by kernel_rfl) (by kernel_rfl) (by kernel_rfl) (fun _ _ _ h => h) (Or.inl ⟨by rfl, ?_⟩) (by assumption) ?_
    rotate_left 1
    · ((intro w hSw; (try dsimp only at hSw); go_simp); first | done | (with_reducible rfl))
    try simp only [Act.put, List.setIfInBounds_toArray, List.set_cons_zero, List.set_cons_succ]
    refine wpAnyH_take (i := 15) (oi := { dst := some 55, op := Go.Op.move (Go.Operand.tmp 10), type := 4, pos := "law.go:99", after := #[{ on := 7, ground := Go.Ground.guard }], guard := some (7, true) }) (v := ?_) rfl (by kernel_rfl) (by kernel_rfl) (by kernel_rfl) (fun _ _ _ h => h) (Or.inl ⟨by rfl, ?_⟩) (by assumption) ?_
    rotate_left 1
    · ((intro w hSw; (try dsimp only at hSw); go_simp); first | done | (with_reducible rfl))
    try simp only [Act.put, List.setIfInBounds_toArray, List.set_cons_zero, List.set_cons_succ]
    refine wpAnyH_ready (rs := [10]) (by kernel_rfl) (by simp) ?_
    refine AllReadyH.cons (o := { dst := some 50, op := Go.Op.buildSlice 22 2 #[(0, Go.Operand.tmp 48), (1, Go.Operand.tmp 49)], type := 22, pos := "law.go:99", after := #[{ on := 8, ground := Go.Ground.data }, { on := 9, ground := Go.Ground.data }, { on := 7, ground := Go.Ground.guard }], guard := some (7, true) }) rfl (fun K hK => ?_) AllReadyH.nil
    go_simp
    refine hK.out _ _ ?_ (fun hH2 => ?_)
    · ((try dsimp only); (first | (with_reducible exact hS) | (with_reducible assumption) | (with_reducible exact cn_cells (CN.below (cn_of (by assumption)) hb)) | (refine cn_cells (CN.below (cn_of (by assumption)) ?_); exact below_alloc (Below.refl _ _) _)))
    clear hK K hH1
    try simp only [Act.put, List.setIfInBounds_toArray, List.set_cons_zero, List.set_cons_succ]
    refine wpAnyH_ready (rs := [11]) (by kernel_rfl) (by simp) ?_
    refine AllReadyH.cons (o := { dst := some 51, op := Go.Op.call { callee := Go.Callee.value (Go.Operand.func 29), args := #[Go.Operand.const (Go.Value.int Go.IntKind.i64 5), Go.Operand.tmp 50], argTypes := #[3, 22] }, type := 24, pos := "law.go:99", after := #[{ on := 10, ground := Go.Ground.data }, { on := 7, ground := Go.Ground.chain }, { on := 7, ground := Go.Ground.guard }], guard := some (7, true) }) rfl (fun K hK => ?_) AllReadyH.nil
    go_simp
    first
      | (go_at_call 20; with_reducible refine Calls.mono (cn_not (cn_of (by assumption)) OK.out sz1 sz2 N1.out) ?_; rintro e w' ⟨rfl, hb⟩)
      | (go_at_call 20; with_reducible refine Calls.mono (cn_xy (cn_of (by assumption)) OK.out sz1 sz2 5 hb N2.out) ?_; rintro e w' ⟨rfl, hb⟩)
      | (go_at_call 20; with_reducible refine Calls.mono (cn_yx (cn_of (by assumption)) OK.out sz1 sz2 6 hb N3.out) ?_; rintro e w' ⟨rfl, hb⟩)
      | (go_at_call 29; refine (both_calls _ _ 2 2 _ (Nat.le_refl _)).mono ?_; rintro e w' ⟨rfl, hb⟩)
    try go_wp2_with fail
    refine hK.out _ _ ?_ (fun hH3 => ?_)
    · ((try dsimp only); (first | (with_reducible exact hS) | (with_reducible assumption) | (with_reducible exact cn_cells (CN.below (cn_of (by assumption)) hb)) | (refine cn_cells (CN.below (cn_of (by assumption)) ?_); exact below_alloc (Below.refl _ _) _)))
    clear hK K hH2
    try simp only [Act.put, List.setIfInBounds_toArray, List.set_cons_zero, List.set_cons_succ]
    refine wpAnyH_ready (rs := [14]) (by kernel_rfl) (by simp) ?_
    refine AllReadyH.cons (o := { dst := some 54, op := Go.Op.call { callee := Go.Callee.value (Go.Operand.func 20), args := #[Go.Operand.tmp 51, Go.Operand.tmp 52, Go.Operand.tmp 53], argTypes := #[24, 27, 29] }, type := 4, pos := "law.go:99", after := #[{ on := 11, ground := Go.Ground.data }, { on := 12, ground := Go.Ground.data }, { on := 13, ground := Go.Ground.data }, { on := 11, ground := Go.Ground.chain }, { on := 7, ground := Go.Ground.guard }], guard := some (7, true) }) rfl (fun K hK => ?_) AllReadyH.nil
    go_simp
    first
      | (go_at_call 20; with_reducible refine Calls.mono (cn_not (cn_of (by assumption)) OK.out sz1 sz2 N1.out) ?_; rintro e w' ⟨rfl, hb⟩)
      | (go_at_call 20; with_reducible refine Calls.mono (cn_xy (cn_of (by assumption)) OK.out sz1 sz2 5 hb N2.out) ?_; rintro e w' ⟨rfl, hb⟩)
      | (go_at_call 20; with_reducible refine Calls.mono (cn_yx (cn_of (by assumption)) OK.out sz1 sz2 6 hb N3.out) ?_; rintro e w' ⟨rfl, hb⟩)
      | (go_at_call 29; refine (both_calls _ _ 2 2 _ (Nat.le_refl _)).mono ?_; rintro e w' ⟨rfl, hb⟩)
    try go_wp2_with fail
    refine hK.out _ _ ?_ (fun hH4 => ?_)
    · ((try dsimp only); (first | (with_reducible exact hS) | (with_reducible assumption) | (with_reducible exact cn_cells (CN.below (cn_of (by assumption)) hb)) | (refine cn_cells (CN.below (cn_of (by assumption)) ?_); exact below_alloc (Below.refl _ _) _)))
    clear hK K hH3
    try simp only [Act.put, List.setIfInBounds_toArray, List.set_cons_zero, List.set_cons_succ]
    refine wpAnyH_take (i := 16) (oi := { dst := some 56, op := Go.Op.move (Go.Operand.tmp 55), type := 4, pos := "law.go:99", after := #[{ on := 15, ground := Go.Ground.data }, { on := 14, ground := Go.Ground.chain }, { on := 7, ground := Go.Ground.guard }], guard := some (7, true) }) (v := ?_) rfl (by kernel_rfl) (by kernel_rfl) (by kernel_rfl) (fun _ _ _ h => h) (Or.inl ⟨by rfl, ?_⟩) (by assumption) ?_
    rotate_left 1
    · ((intro w hSw; (try dsimp only at hSw); go_simp); first | done | (with_reducible rfl))
    try simp only [Act.put, List.setIfInBounds_toArray, List.set_cons_zero, List.set_cons_succ]
    refine wpAnyH_take (i := 17) (oi := { dst := some 57, op := Go.Op.move (Go.Operand.tmp 11), type := 4, pos := "law.go:99", after := #[{ on := 16, ground := Go.Ground.guard }], guard := some (16, true) }) (v := ?_) rfl (by kernel_rfl) (by kernel_rfl) (by kernel_rfl) (fun _ _ _ h => h) (Or.inl ⟨by rfl, ?_⟩) (by assumption) ?_
    rotate_left 1
    · ((intro w hSw; (try dsimp only at hSw); go_simp); first | done | (with_reducible rfl))
    try simp only [Act.put, List.setIfInBounds_toArray, List.set_cons_zero, List.set_cons_succ]
    refine wpAnyH_take (i := 18) (oi := { dst := some 58, op := Go.Op.pick (Go.Operand.tmp 56) (Go.Operand.tmp 57) (Go.Operand.const (Go.Value.bool false)), type := 4, pos := "law.go:99", after := #[{ on := 16, ground := Go.Ground.data }, { on := 17, ground := Go.Ground.data }, { on := 7, ground := Go.Ground.guard }], guard := some (7, true) }) (v := ?_) rfl (by kernel_rfl) (by kernel_rfl) (by kernel_rfl) (fun _ _ _ h => h) (Or.inl ⟨by rfl, ?_⟩) (by assumption) ?_
    rotate_left 1
    · ((intro w hSw; (try dsimp only at hSw); go_simp); first | done | (with_reducible rfl))
    try simp only [Act.put, List.setIfInBounds_toArray, List.set_cons_zero, List.set_cons_succ]
    refine wpAnyH_take (i := 19) (oi := { dst := some 59, op := Go.Op.binOp Go.BinOp.eql 4 (Go.Operand.tmp 54) (Go.Operand.tmp 58) 4, type := 4, pos := "law.go:99", after := #[{ on := 14, ground := Go.Ground.data }, { on := 18, ground := Go.Ground.data }, { on := 7, ground := Go.Ground.guard }], guard := some (7, true) }) (v := ?_) rfl (by kernel_rfl) (by kernel_rfl) (by kernel_rfl) (fun _ _ _ h => h) (Or.inl ⟨by rfl, ?_⟩) (by assumption) ?_
    rotate_left 1
    · ((intro w hSw; (try dsimp only at hSw); go_simp); first | done | (with_reducible rfl))
    try simp only [Act.put, List.setIfInBounds_toArray, List.set_cons_zero, List.set_cons_succ]
    refine wpAnyH_take (i := 20) (oi := { dst := some 60, op := Go.Op.pick (Go.Operand.tmp 47) (Go.Operand.tmp 59) (Go.Operand.const (Go.Value.bool false)), type := 4, pos := "law.go:99", after := #[{ on := 7, ground := Go.Ground.data }, { on := 19, ground := Go.Ground.data }], guard := none }) (v := ?_) rfl (by kernel_rfl) (by kernel_rfl) (by kernel_rfl) (fun _ _ _ h => h) (Or.inl ⟨by rfl, ?_⟩) (by assumption) ?_
    rotate_left 1
    · ((intro w hSw; (try dsimp only at hSw); go_simp); first | done | (with_reducible rfl))
    try simp only [Act.put, List.setIfInBounds_toArray, List.set_cons_zero, List.set_cons_succ]
    refine wpAnyH_take (i := 21) (oi := { dst := some 61, op := Go.Op.move (Go.Operand.tmp 60), type := 4, pos := "law.go:99", after := #[{ on := 20, ground := Go.Ground.data }, { on := 16, ground := Go.Ground.chain }], guard := none }) (v := ?_) rfl (by kernel_rfl) (by kernel_rfl) (by kernel_rfl) (fun _ _ _ h => h) (Or.inl ⟨by rfl, ?_⟩) (by assumption) ?_
    rotate_left 1
    · ((intro w hSw; (try dsimp only at hSw); go_simp); first | done | (with_reducible rfl))
    try simp only [Act.put, List.setIfInBounds_toArray, List.set_cons_zero, List.set_cons_succ]
    refine wpAnyH_take (i := 22) (oi := { dst := some 62, op := Go.Op.load 24 (Go.Operand.tmp 5), type := 24, pos := "law.go:99", after := #[{ on := 21, ground := Go.Ground.guard }], guard := some (21, true) }) (v := ?_) rfl (by kernel_rfl) (by kernel_rfl) (by kernel_rfl) (fun _ _ _ h => h) (Or.inl ⟨by rfl, ?_⟩) (by assumption) ?_
    rotate_left 1
    · ((intro w hSw; (try dsimp only at hSw); go_simp); first | done | (with_reducible rfl))
    try simp only [Act.put, List.setIfInBounds_toArray, List.set_cons_zero, List.set_cons_succ]
    refine wpAnyH_take (i := 23) (oi := { dst := some 63, op := Go.Op.load 24 (Go.Operand.tmp 4), type := 24, pos := "law.go:99", after := #[{ on := 21, ground := Go.Ground.guard }], guard := some (21, true) }) (v := ?_) rfl (by kernel_rfl) (by kernel_rfl) (by kernel_rfl) (fun _ _ _ h => h) (Or.inl ⟨by rfl, ?_⟩) (by assumption) ?_
    rotate_left 1
    · ((intro w hSw; (try dsimp only at hSw); go_simp); first | done | (with_reducible rfl))
    try simp only [Act.put, List.setIfInBounds_toArray, List.set_cons_zero, List.set_cons_succ]
    refine wpAnyH_take (i := 26) (oi := { dst := some 66, op := Go.Op.load 27 (Go.Operand.tmp 6), type := 27, pos := "law.go:99", after := #[{ on := 21, ground := Go.Ground.guard }], guard := some (21, true) }) (v := ?_) rfl (by kernel_rfl) (by kernel_rfl) (by kernel_rfl) (fun _ _ _ h => h) (Or.inl ⟨by rfl, ?_⟩) (by assumption) ?_
    rotate_left 1
    · ((intro w hSw; (try dsimp only at hSw); go_simp); first | done | (with_reducible rfl))
    try simp only [Act.put, List.setIfInBounds_toArray, List.set_cons_zero, List.set_cons_succ]
    refine wpAnyH_take (i := 27) (oi := { dst := some 67, op := Go.Op.move (Go.Operand.tmp 3), type := 29, pos := "law.go:99", after := #[{ on := 21, ground := Go.Ground.guard }], guard := some (21, true) }) (v := ?_) rfl (by kernel_rfl) (by kernel_rfl) (by kernel_rfl) (fun _ _ _ h => h) (Or.inl ⟨by rfl, ?_⟩) (by assumption) ?_
    rotate_left 1
    · ((intro w hSw; (try dsimp only at hSw); go_simp); first | done | (with_reducible rfl))
    try simp only [Act.put, List.setIfInBounds_toArray, List.set_cons_zero, List.set_cons_succ]
    refine wpAnyH_take (i := 29) (oi := { dst := some 69, op := Go.Op.move (Go.Operand.tmp 10), type := 4, pos := "law.go:99", after := #[{ on := 21, ground := Go.Ground.guard }], guard := some (21, true) }) (v := ?_) rfl (by kernel_rfl) (by kernel_rfl) (by kernel_rfl) (fun _ _ _ h => h) (Or.inl ⟨by rfl, ?_⟩) (by assumption) ?_
    rotate_left 1
    · ((intro w hSw; (try dsimp only at hSw); go_simp); first | done | (with_reducible rfl))
    try simp only [Act.put, List.setIfInBounds_toArray, List.set_cons_zero, List.set_cons_succ]
    refine wpAnyH_ready (rs := [24]) (by kernel_rfl) (by simp) ?_
    refine AllReadyH.cons (o := { dst := some 64, op := Go.Op.buildSlice 22 2 #[(0, Go.Operand.tmp 62), (1, Go.Operand.tmp 63)], type := 22, pos := "law.go:99", after := #[{ on := 22, ground := Go.Ground.data }, { on := 23, ground := Go.Ground.data }, { on := 21, ground := Go.Ground.guard }], guard := some (21, true) }) rfl (fun K hK => ?_) AllReadyH.nil
    go_simp
    refine hK.out _ _ ?_ (fun hH5 => ?_)
    · ((try dsimp only); (first | (with_reducible exact hS) | (with_reducible assumption) | (with_reducible exact cn_cells (CN.below (cn_of (by assumption)) hb)) | (refine cn_cells (CN.below (cn_of (by assumption)) ?_); exact below_alloc (Below.refl _ _) _)))
    clear hK K hH4
    try simp only [Act.put, List.setIfInBounds_toArray, List.set_cons_zero, List.set_cons_succ]
    refine wpAnyH_ready (rs := [25]) (by kernel_rfl) (by simp) ?_
    refine AllReadyH.cons (o := { dst := some 65, op := Go.Op.call { callee := Go.Callee.value (Go.Operand.func 29), args := #[Go.Operand.const (Go.Value.int Go.IntKind.i64 6), Go.Operand.tmp 64], argTypes := #[3, 22] }, type := 24, pos := "law.go:99", after := #[{ on := 24, ground := Go.Ground.data }, { on := 21, ground := Go.Ground.chain }, { on := 21, ground := Go.Ground.guard }], guard := some (21, true) }) rfl (fun K hK => ?_) AllReadyH.nil
    go_simp
    first
      | (go_at_call 20; with_reducible refine Calls.mono (cn_not (cn_of (by assumption)) OK.out sz1 sz2 N1.out) ?_; rintro e w' ⟨rfl, hb⟩)
      | (go_at_call 20; with_reducible refine Calls.mono (cn_xy (cn_of (by assumption)) OK.out sz1 sz2 5 hb N2.out) ?_; rintro e w' ⟨rfl, hb⟩)
      | (go_at_call 20; with_reducible refine Calls.mono (cn_yx (cn_of (by assumption)) OK.out sz1 sz2 6 hb N3.out) ?_; rintro e w' ⟨rfl, hb⟩)
      | (go_at_call 29; refine (both_calls _ _ 2 2 _ (Nat.le_refl _)).mono ?_; rintro e w' ⟨rfl, hb⟩)
    try go_wp2_with fail
    refine hK.out _ _ ?_ (fun hH6 => ?_)
    · ((try dsimp only); (first | (with_reducible exact hS) | (with_reducible assumption) | (with_reducible exact cn_cells (CN.below (cn_of (by assumption)) hb)) | (refine cn_cells (CN.below (cn_of (by assumption)) ?_); exact below_alloc (Below.refl _ _) _)))
    clear hK K hH5
    try simp only [Act.put, List.setIfInBounds_toArray, List.set_cons_zero, List.set_cons_succ]
    refine wpAnyH_ready (rs := [28]) (by kernel_rfl) (by simp) ?_
    refine AllReadyH.cons (o := { dst := some 68, op := Go.Op.call { callee := Go.Callee.value (Go.Operand.func 20), args := #[Go.Operand.tmp 65, Go.Operand.tmp 66, Go.Operand.tmp 67], argTypes := #[24, 27, 29] }, type := 4, pos := "law.go:99", after := #[{ on := 25, ground := Go.Ground.data }, { on := 26, ground := Go.Ground.data }, { on := 27, ground := Go.Ground.data }, { on := 25, ground := Go.Ground.chain }, { on := 21, ground := Go.Ground.guard }], guard := some (21, true) }) rfl (fun K hK => ?_) AllReadyH.nil
    go_simp
    first
      | (go_at_call 20; with_reducible refine Calls.mono (cn_not (cn_of (by assumption)) OK.out sz1 sz2 N1.out) ?_; rintro e w' ⟨rfl, hb⟩)
      | (go_at_call 20; with_reducible refine Calls.mono (cn_xy (cn_of (by assumption)) OK.out sz1 sz2 5 hb N2.out) ?_; rintro e w' ⟨rfl, hb⟩)
      | (go_at_call 20; with_reducible refine Calls.mono (cn_yx (cn_of (by assumption)) OK.out sz1 sz2 6 hb N3.out) ?_; rintro e w' ⟨rfl, hb⟩)
      | (go_at_call 29; refine (both_calls _ _ 2 2 _ (Nat.le_refl _)).mono ?_; rintro e w' ⟨rfl, hb⟩)
    try go_wp2_with fail
    refine hK.out _ _ ?_ (fun hH7 => ?_)
    · ((try dsimp only); (first | (with_reducible exact hS) | (with_reducible assumption) | (with_reducible exact cn_cells (CN.below (cn_of (by assumption)) hb)) | (refine cn_cells (CN.below (cn_of (by assumption)) ?_); exact below_alloc (Below.refl _ _) _)))
    clear hK K hH6
    try simp only [Act.put, List.setIfInBounds_toArray, List.set_cons_zero, List.set_cons_succ]
    refine wpAnyH_take (i := 30) (oi := { dst := some 70, op := Go.Op.move (Go.Operand.tmp 69), type := 4, pos := "law.go:99", after := #[{ on := 29, ground := Go.Ground.data }, { on := 28, ground := Go.Ground.chain }, { on := 21, ground := Go.Ground.guard }], guard := some (21, true) }) (v := ?_) rfl (by kernel_rfl) (by kernel_rfl) (by kernel_rfl) (fun _ _ _ h => h) (Or.inl ⟨by rfl, ?_⟩) (by assumption) ?_
    rotate_left 1
    · ((intro w hSw; (try dsimp only at hSw); go_simp); first | done | (with_reducible rfl))
    try simp only [Act.put, List.setIfInBounds_toArray, List.set_cons_zero, List.set_cons_succ]
    refine wpAnyH_take (i := 31) (oi := { dst := some 71, op := Go.Op.move (Go.Operand.tmp 11), type := 4, pos := "law.go:99", after := #[{ on := 30, ground := Go.Ground.guard }], guard := some (30, false) }) (v := undef) rfl (by kernel_rfl) (by kernel_rfl) (by kernel_rfl) (fun _ _ _ h => h) (Or.inr ⟨by rfl, rfl⟩) (by assumption) ?_
    try simp only [Act.put, List.setIfInBounds_toArray, List.set_cons_zero, List.set_cons_succ]
    refine wpAnyH_take (i := 32) (oi := { dst := some 72, op := Go.Op.pick (Go.Operand.tmp 70) (Go.Operand.const (Go.Value.bool true)) (Go.Operand.tmp 71), type := 4, pos := "law.go:99", after := #[{ on := 30, ground := Go.Ground.data }, { on := 31, ground := Go.Ground.data }, { on := 21, ground := Go.Ground.guard }], guard := some (21, true) }) (v := ?_) rfl (by kernel_rfl) (by kernel_rfl) (by kernel_rfl) (fun _ _ _ h => h) (Or.inl ⟨by rfl, ?_⟩) (by assumption) ?_
    rotate_left 1
    · ((intro w hSw; (try dsimp only at hSw); go_simp); first | done | (with_reducible rfl))
    try simp only [Act.put, List.setIfInBounds_toArray, List.set_cons_zero, List.set_cons_succ]
    refine wpAnyH_take (i := 33) (oi := { dst := some 73, op := Go.Op.binOp Go.BinOp.eql 4 (Go.Operand.tmp 68) (Go.Operand.tmp 72) 4, type := 4, pos := "law.go:99", after := #[{ on := 28, ground := Go.Ground.data }, { on := 32, ground := Go.Ground.data }, { on := 21, ground := Go.Ground.guard }], guard := some (21, true) }) (v := ?_) rfl (by kernel_rfl) (by kernel_rfl) (by kernel_rfl) (fun _ _ _ h => h) (Or.inl ⟨by rfl, ?_⟩) (by assumption) ?_
    rotate_left 1
    · ((intro w hSw; (try dsimp only at hSw); go_simp); first | done | (with_reducible rfl))
    try simp only [Act.put, List.setIfInBounds_toArray, List.set_cons_zero, List.set_cons_succ]
    refine wpAnyH_take (i := 34) (oi := { dst := some 74, op := Go.Op.pick (Go.Operand.tmp 61) (Go.Operand.tmp 73) (Go.Operand.const (Go.Value.bool false)), type := 4, pos := "law.go:99", after := #[{ on := 21, ground := Go.Ground.data }, { on := 33, ground := Go.Ground.data }], guard := none }) (v := ?_) rfl (by kernel_rfl) (by kernel_rfl) (by kernel_rfl) (fun _ _ _ h => h) (Or.inl ⟨by rfl, ?_⟩) (by assumption) ?_
    rotate_left 1
    · ((intro w hSw; (try dsimp only at hSw); go_simp); first | done | (with_reducible rfl))
    try simp only [Act.put, List.setIfInBounds_toArray, List.set_cons_zero, List.set_cons_succ]
    refine wpAnyH_take (i := 35) (oi := { dst := some 13, op := Go.Op.assign (Go.Operand.tmp 74), type := 4, pos := "law.go:99", after := #[{ on := 34, ground := Go.Ground.data }, { on := 30, ground := Go.Ground.chain }, { on := 0, ground := Go.Ground.phase }, { on := 1, ground := Go.Ground.phase }, { on := 2, ground := Go.Ground.phase }, { on := 3, ground := Go.Ground.phase }, { on := 4, ground := Go.Ground.phase }, { on := 5, ground := Go.Ground.phase }, { on := 6, ground := Go.Ground.phase }, { on := 7, ground := Go.Ground.phase }, { on := 8, ground := Go.Ground.phase }, { on := 9, ground := Go.Ground.phase }, { on := 10, ground := Go.Ground.phase }, { on := 11, ground := Go.Ground.phase }, { on := 12, ground := Go.Ground.phase }, { on := 13, ground := Go.Ground.phase }, { on := 14, ground := Go.Ground.phase }, { on := 15, ground := Go.Ground.phase }, { on := 16, ground := Go.Ground.phase }, { on := 17, ground := Go.Ground.phase }, { on := 18, ground := Go.Ground.phase }, { on := 19, ground := Go.Ground.phase }, { on := 20, ground := Go.Ground.phase }, { on := 21, ground := Go.Ground.phase }, { on := 22, ground := Go.Ground.phase }, { on := 23, ground := Go.Ground.phase }, { on := 24, ground := Go.Ground.phase }, { on := 25, ground := Go.Ground.phase }, { on := 26, ground := Go.Ground.phase }, { on := 27, ground := Go.Ground.phase }, { on := 28, ground := Go.Ground.phase }, { on := 29, ground := Go.Ground.phase }, { on := 30, ground := Go.Ground.phase }, { on := 31, ground := Go.Ground.phase }, { on := 32, ground := Go.Ground.phase }, { on := 33, ground := Go.Ground.phase }, { on := 34, ground := Go.Ground.phase }], guard := none }) (v := ?_) rfl (by kernel_rfl) (by kernel_rfl) (by kernel_rfl) (fun _ _ _ h => h) (Or.inl ⟨by rfl, ?_⟩) (by assumption) ?_
    rotate_left 1
    · ((intro w hSw; (try dsimp only at hSw); go_simp); first | done | (with_reducible rfl))
    try simp only [Act.put, List.setIfInBounds_toArray, List.set_cons_zero, List.set_cons_succ]
    refine wpAnyH_done (by kernel_rfl) ?_ _
    have hH := hH7
    clear hH7
    replace HN := Aside0.mk (cn_of hH)
    clear hH hS
    go_wp2_with fail
    have hS := cn_cells (HN.out.below (below_drew (Below.refl _ _)))
    refine wp_region_held_drew (S := (fun w' => w'.cell? ⟨nb, 0, none⟩ = some (.int .i64 4) ∧ w'.cell? ⟨nb, 1, none⟩ = some (.string ⟨#[]⟩) ∧ w'.cell? ⟨nb, 2, none⟩ = some (.int .i64 0) ∧ w'.cell? ⟨nb, 3, none⟩ = some (.int .i64 0) ∧ w'.cell? ⟨nb, 4, none⟩ = some (.slice (some ⟨kb, 0, none⟩) 1 1) ∧ w'.cell? ⟨b1, 0, none⟩ = some (.int .i64 x.f0) ∧ w'.cell? ⟨b1, 1, none⟩ = some (.string x.f1) ∧ w'.cell? ⟨b1, 2, none⟩ = some (.int .i64 x.f2) ∧ w'.cell? ⟨b1, 3, none⟩ = some (.int .i64 x.f3) ∧ w'.cell? ⟨b1, 4, none⟩ = some (.slice A x.f4.length c) ∧ w'.cell? ⟨b2, 0, none⟩ = some (.int .i64 y.f0) ∧ w'.cell? ⟨b2, 1, none⟩ = some (.string y.f1) ∧ w'.cell? ⟨b2, 2, none⟩ = some (.int .i64 y.f2) ∧ w'.cell? ⟨b2, 3, none⟩ = some (.int .i64 y.f3) ∧ w'.cell? ⟨b2, 4, none⟩ = some (.slice B y.f4.length d) ∧ w'.cell? ⟨b3, 0, none⟩ = some (.slice D l.length dc) ∧ CN w w' b1 b2 b3 nb kb x y l cs A B D E c d dc ec)) (by kernel_rfl) ?_ (fun hH0 => ?_)
    · exact hS
    refine wpAnyH_take (i := 0) (oi := { dst := some 75, op := Go.Op.load 24 (Go.Operand.tmp 5), type := 24, pos := "law.go:100", after := #[], guard := none }) (v := ?_) rfl (by kernel_rfl) (by kernel_rfl) (by kernel_rfl) (fun _ _ _ h => h) (Or.inl ⟨by rfl, ?_⟩) (by assumption) ?_
    rotate_left 1
    · ((intro w hSw; (try dsimp only at hSw); go_simp); first | done | (with_reducible rfl))
    try simp only [Act.put, List.setIfInBounds_toArray, List.set_cons_zero, List.set_cons_succ]
    refine wpAnyH_take (i := 1) (oi := { dst := some 76, op := Go.Op.load 24 (Go.Operand.tmp 4), type := 24, pos := "law.go:100", after := #[], guard := none }) (v := ?_) rfl (by kernel_rfl) (by kernel_rfl) (by kernel_rfl) (fun _ _ _ h => h) (Or.inl ⟨by rfl, ?_⟩) (by assumption) ?_
    rotate_left 1
    · ((intro w hSw; (try dsimp only at hSw); go_simp); first | done | (with_reducible rfl))
    try simp only [Act.put, List.setIfInBounds_toArray, List.set_cons_zero, List.set_cons_succ]
    refine wpAnyH_take (i := 4) (oi := { dst := some 79, op := Go.Op.load 27 (Go.Operand.tmp 6), type := 27, pos := "law.go:100", after := #[], guard := none }) (v := ?_) rfl (by kernel_rfl) (by kernel_rfl) (by kernel_rfl) (fun _ _ _ h => h) (Or.inl ⟨by rfl, ?_⟩) (by assumption) ?_
    rotate_left 1
    · ((intro w hSw; (try dsimp only at hSw); go_simp); first | done | (with_reducible rfl))
    try simp only [Act.put, List.setIfInBounds_toArray, List.set_cons_zero, List.set_cons_succ]
    refine wpAnyH_take (i := 5) (oi := { dst := some 80, op := Go.Op.move (Go.Operand.tmp 3), type := 29, pos := "law.go:100", after := #[], guard := none }) (v := ?_) rfl (by kernel_rfl) (by kernel_rfl) (by kernel_rfl) (fun _ _ _ h => h) (Or.inl ⟨by rfl, ?_⟩) (by assumption) ?_
    rotate_left 1
    · ((intro w hSw; (try dsimp only at hSw); go_simp); first | done | (with_reducible rfl))
    try simp only [Act.put, List.setIfInBounds_toArray, List.set_cons_zero, List.set_cons_succ]
    refine wpAnyH_take (i := 7) (oi := { dst := some 82, op := Go.Op.move (Go.Operand.tmp 10), type := 4, pos := "law.go:100", after := #[], guard := none }) (v := ?_) rfl (by kernel_rfl) (by kernel_rfl) (by kernel_rfl) (fun _ _ _ h => h) (Or.inl ⟨by rfl, ?_⟩) (by assumption) ?_
    rotate_left 1
    · ((intro w hSw; (try dsimp only at hSw); go_simp); first | done | (with_reducible rfl))
    try simp only [Act.put, List.setIfInBounds_toArray, List.set_cons_zero, List.set_cons_succ]
    refine wpAnyH_ready (rs := [2]) (by kernel_rfl) (by simp) ?_
    refine AllReadyH.cons (o := { dst := some 77, op := Go.Op.buildSlice 22 2 #[(0, Go.Operand.tmp 75), (1, Go.Operand.tmp 76)], type := 22, pos := "law.go:100", after := #[{ on := 0, ground := Go.Ground.data }, { on := 1, ground := Go.Ground.data }], guard := none }) rfl (fun K hK => ?_) AllReadyH.nil
    go_simp
    refine hK.out _ _ ?_ (fun hH1 => ?_)
    · ((try dsimp only); (first | (with_reducible exact hS) | (with_reducible assumption) | (with_reducible exact cn_cells (CN.below (cn_of (by assumption)) hb)) | (refine cn_cells (CN.below (cn_of (by assumption)) ?_); exact below_alloc (Below.refl _ _) _)))
    clear hK K hH0
    try simp only [Act.put, List.setIfInBounds_toArray, List.set_cons_zero, List.set_cons_succ]
    refine wpAnyH_ready (rs := [3]) (by kernel_rfl) (by simp) ?_
    refine AllReadyH.cons (o := { dst := some 78, op := Go.Op.call { callee := Go.Callee.value (Go.Operand.func 29), args := #[Go.Operand.const (Go.Value.int Go.IntKind.i64 5), Go.Operand.tmp 77], argTypes := #[3, 22] }, type := 24, pos := "law.go:100", after := #[{ on := 2, ground := Go.Ground.data }], guard := none }) rfl (fun K hK => ?_) AllReadyH.nil
    go_simp
    first
      | (go_at_call 20; with_reducible refine Calls.mono (cn_yx (cn_of (by assumption)) OK.out sz1 sz2 5 hb N4.out) ?_; rintro e w' ⟨rfl, hb⟩)
      | (go_at_call 20; with_reducible refine Calls.mono (cn_yxd (cn_of (by assumption)) OK.out sz1 sz2 5 hb N4.out) ?_; rintro e w' ⟨rfl, hb⟩)
      | (go_at_call 20; with_reducible refine Calls.mono (cn_xy (cn_of (by assumption)) OK.out sz1 sz2 6 hb N5.out) ?_; rintro e w' ⟨rfl, hb⟩)
      | (go_at_call 20; with_reducible refine Calls.mono (cn_xyd (cn_of (by assumption)) OK.out sz1 sz2 6 hb N5.out) ?_; rintro e w' ⟨rfl, hb⟩)
      | (go_at_call 29; refine (both_calls _ _ 2 2 _ (Nat.le_refl _)).mono ?_; rintro e w' ⟨rfl, hb⟩)
    try go_wp2_with fail
    refine hK.out _ _ ?_ (fun hH2 => ?_)
    · ((try dsimp only); (first | (with_reducible exact hS) | (with_reducible assumption) | (with_reducible exact cn_cells (CN.below (cn_of (by assumption)) hb)) | (refine cn_cells (CN.below (cn_of (by assumption)) ?_); exact below_alloc (Below.refl _ _) _)))
    clear hK K hH1
    try simp only [Act.put, List.setIfInBounds_toArray, List.set_cons_zero, List.set_cons_succ]
    refine wpAnyH_ready (rs := [6]) (by kernel_rfl) (by simp) ?_
    refine AllReadyH.cons (o := { dst := some 81, op := Go.Op.call { callee := Go.Callee.value (Go.Operand.func 20), args := #[Go.Operand.tmp 78, Go.Operand.tmp 79, Go.Operand.tmp 80], argTypes := #[24, 27, 29] }, type := 4, pos := "law.go:100", after := #[{ on := 3, ground := Go.Ground.data }, { on := 4, ground := Go.Ground.data }, { on := 5, ground := Go.Ground.data }, { on := 3, ground := Go.Ground.chain }], guard := none }) rfl (fun K hK => ?_) AllReadyH.nil
    go_simp
    first
      | (go_at_call 20; with_reducible refine Calls.mono (cn_yx (cn_of (by assumption)) OK.out sz1 sz2 5 hb N4.out) ?_; rintro e w' ⟨rfl, hb⟩)
      | (go_at_call 20; with_reducible refine Calls.mono (cn_yxd (cn_of (by assumption)) OK.out sz1 sz2 5 hb N4.out) ?_; rintro e w' ⟨rfl, hb⟩)
      | (go_at_call 20; with_reducible refine Calls.mono (cn_xy (cn_of (by assumption)) OK.out sz1 sz2 6 hb N5.out) ?_; rintro e w' ⟨rfl, hb⟩)
      | (go_at_call 20; with_reducible refine Calls.mono (cn_xyd (cn_of (by assumption)) OK.out sz1 sz2 6 hb N5.out) ?_; rintro e w' ⟨rfl, hb⟩)
      | (go_at_call 29; refine (both_calls _ _ 2 2 _ (Nat.le_refl _)).mono ?_; rintro e w' ⟨rfl, hb⟩)
    try go_wp2_with fail
    refine hK.out _ _ ?_ (fun hH3 => ?_)
    · ((try dsimp only); (first | (with_reducible exact hS) | (with_reducible assumption) | (with_reducible exact cn_cells (CN.below (cn_of (by assumption)) hb)) | (refine cn_cells (CN.below (cn_of (by assumption)) ?_); exact below_alloc (Below.refl _ _) _)))
    clear hK K hH2
    try simp only [Act.put, List.setIfInBounds_toArray, List.set_cons_zero, List.set_cons_succ]
    refine wpAnyH_take (i := 8) (oi := { dst := some 83, op := Go.Op.move (Go.Operand.tmp 82), type := 4, pos := "law.go:100", after := #[{ on := 7, ground := Go.Ground.data }, { on := 6, ground := Go.Ground.chain }], guard := none }) (v := ?_) rfl (by kernel_rfl) (by kernel_rfl) (by kernel_rfl) (fun _ _ _ h => h) (Or.inl ⟨by rfl, ?_⟩) (by assumption) ?_
    rotate_left 1
    · ((intro w hSw; (try dsimp only at hSw); go_simp); first | done | (with_reducible rfl))
    try simp only [Act.put, List.setIfInBounds_toArray, List.set_cons_zero, List.set_cons_succ]
    refine wpAnyH_take (i := 9) (oi := { dst := some 84, op := Go.Op.move (Go.Operand.tmp 11), type := 4, pos := "law.go:100", after := #[{ on := 8, ground := Go.Ground.guard }], guard := some (8, true) }) (v := ?_) rfl (by kernel_rfl) (by kernel_rfl) (by kernel_rfl) (fun _ _ _ h => h) (Or.inl ⟨by rfl, ?_⟩) (by assumption) ?_
    rotate_left 1
    · ((intro w hSw; (try dsimp only at hSw); go_simp); first | done | (with_reducible rfl))
    try simp only [Act.put, List.setIfInBounds_toArray, List.set_cons_zero, List.set_cons_succ]
    refine wpAnyH_take (i := 10) (oi := { dst := some 85, op := Go.Op.pick (Go.Operand.tmp 83) (Go.Operand.tmp 84) (Go.Operand.const (Go.Value.bool false)), type := 4, pos := "law.go:100", after := #[{ on := 8, ground := Go.Ground.data }, { on := 9, ground := Go.Ground.data }], guard := none }) (v := ?_) rfl (by kernel_rfl) (by kernel_rfl) (by kernel_rfl) (fun _ _ _ h => h) (Or.inl ⟨by rfl, ?_⟩) (by assumption) ?_
    rotate_left 1
    · ((intro w hSw; (try dsimp only at hSw); go_simp); first | done | (with_reducible rfl))
    try simp only [Act.put, List.setIfInBounds_toArray, List.set_cons_zero, List.set_cons_succ]
    refine wpAnyH_take (i := 11) (oi := { dst := some 86, op := Go.Op.binOp Go.BinOp.eql 4 (Go.Operand.tmp 81) (Go.Operand.tmp 85) 4, type := 4, pos := "law.go:100", after := #[{ on := 6, ground := Go.Ground.data }, { on := 10, ground := Go.Ground.data }], guard := none }) (v := ?_) rfl (by kernel_rfl) (by kernel_rfl) (by kernel_rfl) (fun _ _ _ h => h) (Or.inl ⟨by rfl, ?_⟩) (by assumption) ?_
    rotate_left 1
    · ((intro w hSw; (try dsimp only at hSw); go_simp); first | done | (with_reducible rfl))
    try simp only [Act.put, List.setIfInBounds_toArray, List.set_cons_zero, List.set_cons_succ]
    refine wpAnyH_take (i := 12) (oi := { dst := some 87, op := Go.Op.move (Go.Operand.tmp 86), type := 4, pos := "law.go:100", after := #[{ on := 11, ground := Go.Ground.data }, { on := 8, ground := Go.Ground.chain }], guard := none }) (v := ?_) rfl (by kernel_rfl) (by kernel_rfl) (by kernel_rfl) (fun _ _ _ h => h) (Or.inl ⟨by rfl, ?_⟩) (by assumption) ?_
    rotate_left 1
    · ((intro w hSw; (try dsimp only at hSw); go_simp); first | done | (with_reducible rfl))
    try simp only [Act.put, List.setIfInBounds_toArray, List.set_cons_zero, List.set_cons_succ]
    refine wpAnyH_take (i := 13) (oi := { dst := some 88, op := Go.Op.load 24 (Go.Operand.tmp 4), type := 24, pos := "law.go:100", after := #[{ on := 12, ground := Go.Ground.guard }], guard := some (12, true) }) (v := ?_) rfl (by kernel_rfl) (by kernel_rfl) (by kernel_rfl) (fun _ _ _ h => h) (Or.inl ⟨by rfl, ?_⟩) (by assumption) ?_
    rotate_left 1
    · ((intro w hSw; (try dsimp only at hSw); go_simp); first | done | (with_reducible rfl))
    try simp only [Act.put, List.setIfInBounds_toArray, List.set_cons_zero, List.set_cons_succ]
    refine wpAnyH_take (i := 14) (oi := { dst := some 89, op := Go.Op.load 24 (Go.Operand.tmp 5), type := 24, pos := "law.go:100", after := #[{ on := 12, ground := Go.Ground.guard }], guard := some (12, true) }) (v := ?_) rfl (by kernel_rfl) (by kernel_rfl) (by kernel_rfl) (fun _ _ _ h => h) (Or.inl ⟨by rfl, ?_⟩) (by assumption) ?_
    rotate_left 1
    · ((intro w hSw; (try dsimp only at hSw); go_simp); first | done | (with_reducible rfl))
    try simp only [Act.put, List.setIfInBounds_toArray, List.set_cons_zero, List.set_cons_succ]
    refine wpAnyH_take (i := 17) (oi := { dst := some 92, op := Go.Op.load 27 (Go.Operand.tmp 6), type := 27, pos := "law.go:100", after := #[{ on := 12, ground := Go.Ground.guard }], guard := some (12, true) }) (v := ?_) rfl (by kernel_rfl) (by kernel_rfl) (by kernel_rfl) (fun _ _ _ h => h) (Or.inl ⟨by rfl, ?_⟩) (by assumption) ?_
    rotate_left 1
    · ((intro w hSw; (try dsimp only at hSw); go_simp); first | done | (with_reducible rfl))
    try simp only [Act.put, List.setIfInBounds_toArray, List.set_cons_zero, List.set_cons_succ]
    refine wpAnyH_take (i := 18) (oi := { dst := some 93, op := Go.Op.move (Go.Operand.tmp 3), type := 29, pos := "law.go:100", after := #[{ on := 12, ground := Go.Ground.guard }], guard := some (12, true) }) (v := ?_) rfl (by kernel_rfl) (by kernel_rfl) (by kernel_rfl) (fun _ _ _ h => h) (Or.inl ⟨by rfl, ?_⟩) (by assumption) ?_
    rotate_left 1
    · ((intro w hSw; (try dsimp only at hSw); go_simp); first | done | (with_reducible rfl))
    try simp only [Act.put, List.setIfInBounds_toArray, List.set_cons_zero, List.set_cons_succ]
    refine wpAnyH_take (i := 20) (oi := { dst := some 95, op := Go.Op.move (Go.Operand.tmp 10), type := 4, pos := "law.go:100", after := #[{ on := 12, ground := Go.Ground.guard }], guard := some (12, true) }) (v := ?_) rfl (by kernel_rfl) (by kernel_rfl) (by kernel_rfl) (fun _ _ _ h => h) (Or.inl ⟨by rfl, ?_⟩) (by assumption) ?_
    rotate_left 1
    · ((intro w hSw; (try dsimp only at hSw); go_simp); first | done | (with_reducible rfl))
    try simp only [Act.put, List.setIfInBounds_toArray, List.set_cons_zero, List.set_cons_succ]
    refine wpAnyH_ready (rs := [15]) (by kernel_rfl) (by simp) ?_
    refine AllReadyH.cons (o := { dst := some 90, op := Go.Op.buildSlice 22 2 #[(0, Go.Operand.tmp 88), (1, Go.Operand.tmp 89)], type := 22, pos := "law.go:100", after := #[{ on := 13, ground := Go.Ground.data }, { on := 14, ground := Go.Ground.data }, { on := 12, ground := Go.Ground.guard }], guard := some (12, true) }) rfl (fun K hK => ?_) AllReadyH.nil
    go_simp
    refine hK.out _ _ ?_ (fun hH4 => ?_)
    · ((try dsimp only); (first | (with_reducible exact hS) | (with_reducible assumption) | (with_reducible exact cn_cells (CN.below (cn_of (by assumption)) hb)) | (refine cn_cells (CN.below (cn_of (by assumption)) ?_); exact below_alloc (Below.refl _ _) _)))
    clear hK K hH3
    try simp only [Act.put, List.setIfInBounds_toArray, List.set_cons_zero, List.set_cons_succ]
    refine wpAnyH_ready (rs := [16]) (by kernel_rfl) (by simp) ?_
    refine AllReadyH.cons (o := { dst := some 91, op := Go.Op.call { callee := Go.Callee.value (Go.Operand.func 29), args := #[Go.Operand.const (Go.Value.int Go.IntKind.i64 6), Go.Operand.tmp 90], argTypes := #[3, 22] }, type := 24, pos := "law.go:100", after := #[{ on := 15, ground := Go.Ground.data }, { on := 12, ground := Go.Ground.chain }, { on := 12, ground := Go.Ground.guard }], guard := some (12, true) }) rfl (fun K hK => ?_) AllReadyH.nil
    go_simp
    first
      | (go_at_call 20; with_reducible refine Calls.mono (cn_yx (cn_of (by assumption)) OK.out sz1 sz2 5 hb N4.out) ?_; rintro e w' ⟨rfl, hb⟩)
      | (go_at_call 20; with_reducible refine Calls.mono (cn_yxd (cn_of (by assumption)) OK.out sz1 sz2 5 hb N4.out) ?_; rintro e w' ⟨rfl, hb⟩)
      | (go_at_call 20; with_reducible refine Calls.mono (cn_xy (cn_of (by assumption)) OK.out sz1 sz2 6 hb N5.out) ?_; rintro e w' ⟨rfl, hb⟩)
      | (go_at_call 20; with_reducible refine Calls.mono (cn_xyd (cn_of (by assumption)) OK.out sz1 sz2 6 hb N5.out) ?_; rintro e w' ⟨rfl, hb⟩)
      | (go_at_call 29; refine (both_calls _ _ 2 2 _ (Nat.le_refl _)).mono ?_; rintro e w' ⟨rfl, hb⟩)
    try go_wp2_with fail
    refine hK.out _ _ ?_ (fun hH5 => ?_)
    · ((try dsimp only); (first | (with_reducible exact hS) | (with_reducible assumption) | (with_reducible exact cn_cells (CN.below (cn_of (by assumption)) hb)) | (refine cn_cells (CN.below (cn_of (by assumption)) ?_); exact below_alloc (Below.refl _ _) _)))
    clear hK K hH4
    try simp only [Act.put, List.setIfInBounds_toArray, List.set_cons_zero, List.set_cons_succ]
    refine wpAnyH_ready (rs := [19]) (by kernel_rfl) (by simp) ?_
    refine AllReadyH.cons (o := { dst := some 94, op := Go.Op.call { callee := Go.Callee.value (Go.Operand.func 20), args := #[Go.Operand.tmp 91, Go.Operand.tmp 92, Go.Operand.tmp 93], argTypes := #[24, 27, 29] }, type := 4, pos := "law.go:100", after := #[{ on := 16, ground := Go.Ground.data }, { on := 17, ground := Go.Ground.data }, { on := 18, ground := Go.Ground.data }, { on := 16, ground := Go.Ground.chain }, { on := 12, ground := Go.Ground.guard }], guard := some (12, true) }) rfl (fun K hK => ?_) AllReadyH.nil
    go_simp
    first
      | (go_at_call 20; with_reducible refine Calls.mono (cn_yx (cn_of (by assumption)) OK.out sz1 sz2 5 hb N4.out) ?_; rintro e w' ⟨rfl, hb⟩)
      | (go_at_call 20; with_reducible refine Calls.mono (cn_yxd (cn_of (by assumption)) OK.out sz1 sz2 5 hb N4.out) ?_; rintro e w' ⟨rfl, hb⟩)
      | (go_at_call 20; with_reducible refine Calls.mono (cn_xy (cn_of (by assumption)) OK.out sz1 sz2 6 hb N5.out) ?_; rintro e w' ⟨rfl, hb⟩)
      | (go_at_call 20; with_reducible refine Calls.mono (cn_xyd (cn_of (by assumption)) OK.out sz1 sz2 6 hb N5.out) ?_; rintro e w' ⟨rfl, hb⟩)
      | (go_at_call 29; refine (both_calls _ _ 2 2 _ (Nat.le_refl _)).mono ?_; rintro e w' ⟨rfl, hb⟩)
    try go_wp2_with fail
    refine hK.out _ _ ?_ (fun hH6 => ?_)
    · ((try dsimp only); (first | (with_reducible exact hS) | (with_reducible assumption) | (with_reducible exact cn_cells (CN.below (cn_of (by assumption)) hb)) | (refine cn_cells (CN.below (cn_of (by assumption)) ?_); exact below_alloc (Below.refl _ _) _)))
    clear hK K hH5
    try simp only [Act.put, List.setIfInBounds_toArray, List.set_cons_zero, List.set_cons_succ]
    refine wpAnyH_take (i := 21) (oi := { dst := some 96, op := Go.Op.move (Go.Operand.tmp 95), type := 4, pos := "law.go:100", after := #[{ on := 20, ground := Go.Ground.data }, { on := 19, ground := Go.Ground.chain }, { on := 12, ground := Go.Ground.guard }], guard := some (12, true) }) (v := ?_) rfl (by kernel_rfl) (by kernel_rfl) (by kernel_rfl) (fun _ _ _ h => h) (Or.inl ⟨by rfl, ?_⟩) (by assumption) ?_
    rotate_left 1
    · ((intro w hSw; (try dsimp only at hSw); go_simp); first | done | (with_reducible rfl))
    try simp only [Act.put, List.setIfInBounds_toArray, List.set_cons_zero, List.set_cons_succ]
    refine wpAnyH_take (i := 22) (oi := { dst := some 97, op := Go.Op.move (Go.Operand.tmp 11), type := 4, pos := "law.go:100", after := #[{ on := 21, ground := Go.Ground.guard }], guard := some (21, false) }) (v := undef) rfl (by kernel_rfl) (by kernel_rfl) (by kernel_rfl) (fun _ _ _ h => h) (Or.inr ⟨by rfl, rfl⟩) (by assumption) ?_
    try simp only [Act.put, List.setIfInBounds_toArray, List.set_cons_zero, List.set_cons_succ]
    refine wpAnyH_take (i := 23) (oi := { dst := some 98, op := Go.Op.pick (Go.Operand.tmp 96) (Go.Operand.const (Go.Value.bool true)) (Go.Operand.tmp 97), type := 4, pos := "law.go:100", after := #[{ on := 21, ground := Go.Ground.data }, { on := 22, ground := Go.Ground.data }, { on := 12, ground := Go.Ground.guard }], guard := some (12, true) }) (v := ?_) rfl (by kernel_rfl) (by kernel_rfl) (by kernel_rfl) (fun _ _ _ h => h) (Or.inl ⟨by rfl, ?_⟩) (by assumption) ?_
    rotate_left 1
    · ((intro w hSw; (try dsimp only at hSw); go_simp); first | done | (with_reducible rfl))
    try simp only [Act.put, List.setIfInBounds_toArray, List.set_cons_zero, List.set_cons_succ]
    refine wpAnyH_take (i := 24) (oi := { dst := some 99, op := Go.Op.binOp Go.BinOp.eql 4 (Go.Operand.tmp 94) (Go.Operand.tmp 98) 4, type := 4, pos := "law.go:100", after := #[{ on := 19, ground := Go.Ground.data }, { on := 23, ground := Go.Ground.data }, { on := 12, ground := Go.Ground.guard }], guard := some (12, true) }) (v := ?_) rfl (by kernel_rfl) (by kernel_rfl) (by kernel_rfl) (fun _ _ _ h => h) (Or.inl ⟨by rfl, ?_⟩) (by assumption) ?_
    rotate_left 1
    · ((intro w hSw; (try dsimp only at hSw); go_simp); first | done | (with_reducible rfl))
    try simp only [Act.put, List.setIfInBounds_toArray, List.set_cons_zero, List.set_cons_succ]
    refine wpAnyH_take (i := 25) (oi := { dst := some 100, op := Go.Op.pick (Go.Operand.tmp 87) (Go.Operand.tmp 99) (Go.Operand.const (Go.Value.bool false)), type := 4, pos := "law.go:100", after := #[{ on := 12, ground := Go.Ground.data }, { on := 24, ground := Go.Ground.data }], guard := none }) (v := ?_) rfl (by kernel_rfl) (by kernel_rfl) (by kernel_rfl) (fun _ _ _ h => h) (Or.inl ⟨by rfl, ?_⟩) (by assumption) ?_
    rotate_left 1
    · ((intro w hSw; (try dsimp only at hSw); go_simp); first | done | (with_reducible rfl))
    try simp only [Act.put, List.setIfInBounds_toArray, List.set_cons_zero, List.set_cons_succ]
    refine wpAnyH_take (i := 26) (oi := { dst := some 14, op := Go.Op.assign (Go.Operand.tmp 100), type := 4, pos := "law.go:100", after := #[{ on := 25, ground := Go.Ground.data }, { on := 21, ground := Go.Ground.chain }, { on := 0, ground := Go.Ground.phase }, { on := 1, ground := Go.Ground.phase }, { on := 2, ground := Go.Ground.phase }, { on := 3, ground := Go.Ground.phase }, { on := 4, ground := Go.Ground.phase }, { on := 5, ground := Go.Ground.phase }, { on := 6, ground := Go.Ground.phase }, { on := 7, ground := Go.Ground.phase }, { on := 8, ground := Go.Ground.phase }, { on := 9, ground := Go.Ground.phase }, { on := 10, ground := Go.Ground.phase }, { on := 11, ground := Go.Ground.phase }, { on := 12, ground := Go.Ground.phase }, { on := 13, ground := Go.Ground.phase }, { on := 14, ground := Go.Ground.phase }, { on := 15, ground := Go.Ground.phase }, { on := 16, ground := Go.Ground.phase }, { on := 17, ground := Go.Ground.phase }, { on := 18, ground := Go.Ground.phase }, { on := 19, ground := Go.Ground.phase }, { on := 20, ground := Go.Ground.phase }, { on := 21, ground := Go.Ground.phase }, { on := 22, ground := Go.Ground.phase }, { on := 23, ground := Go.Ground.phase }, { on := 24, ground := Go.Ground.phase }, { on := 25, ground := Go.Ground.phase }], guard := none }) (v := ?_) rfl (by kernel_rfl) (by kernel_rfl) (by kernel_rfl) (fun _ _ _ h => h) (Or.inl ⟨by rfl, ?_⟩) (by assumption) ?_
    rotate_left 1
    · ((intro w hSw; (try dsimp only at hSw); go_simp); first | done | (with_reducible rfl))
    try simp only [Act.put, List.setIfInBounds_toArray, List.set_cons_zero, List.set_cons_succ]
    refine wpAnyH_done (by kernel_rfl) ?_ _
    have hH := hH6
    clear hH6
    replace HN := Aside0.mk (cn_of hH)
    clear hH hS
    go_wp2_with fail
    have hS := cn_cells (HN.out.below (below_drew (Below.refl _ _)))
    first
    | (
          go_region_held3 (fun w' => w'.cell? ⟨nb, 0, none⟩ = some (.int .i64 4) ∧ w'.cell? ⟨nb, 1, none⟩ = some (.string ⟨#[]⟩) ∧ w'.cell? ⟨nb, 2, none⟩ = some (.int .i64 0) ∧ w'.cell? ⟨nb, 3, none⟩ = some (.int .i64 0) ∧ w'.cell? ⟨nb, 4, none⟩ = some (.slice (some ⟨kb, 0, none⟩) 1 1) ∧ w'.cell? ⟨b1, 0, none⟩ = some (.int .i64 x.f0) ∧ w'.cell? ⟨b1, 1, none⟩ = some (.string x.f1) ∧ w'.cell? ⟨b1, 2, none⟩ = some (.int .i64 x.f2) ∧ w'.cell? ⟨b1, 3, none⟩ = some (.int .i64 x.f3) ∧ w'.cell? ⟨b1, 4, none⟩ = some (.slice A x.f4.length c) ∧ w'.cell? ⟨b2, 0, none⟩ = some (.int .i64 y.f0) ∧ w'.cell? ⟨b2, 1, none⟩ = some (.string y.f1) ∧ w'.cell? ⟨b2, 2, none⟩ = some (.int .i64 y.f2) ∧ w'.cell? ⟨b2, 3, none⟩ = some (.int .i64 y.f3) ∧ w'.cell? ⟨b2, 4, none⟩ = some (.slice B y.f4.length d) ∧ w'.cell? ⟨b3, 0, none⟩ = some (.slice D l.length dc) ∧ CN w w' b1 b2 b3 nb kb x y l cs A B D E c d dc ec)
            (first | (with_reducible exact hS) | (with_reducible assumption) | (with_reducible exact cn_cells (CN.below (cn_of (by assumption)) hb)) | (refine cn_cells (CN.below (cn_of (by assumption)) ?_); exact below_alloc (Below.refl _ _) _))
            (first
              | (go_at_call 20; with_reducible show Calls _ _ #[.agg #[.int .i64 4, _, _, _, _], _, _] _ _; with_reducible refine Calls.mono (cn_nand (cn_of (by assumption)) OK.out sz1 sz2 (by repeat (first | (with_reducible exact blk_new _ _ (by first | rfl | (simp; done))) | (with_reducible refine blk_drew_old ?_) | (with_reducible refine blk_through (by assumption) ?_) | (with_reducible refine blk_alloc_old ?_ _))) (by repeat (first | (with_reducible exact blk_new _ _ (by first | rfl | (simp; done))) | (with_reducible refine blk_drew_old ?_) | (with_reducible refine blk_through (by assumption) ?_) | (with_reducible refine blk_alloc_old ?_ _))) N6.out) ?_; rintro e w' ⟨rfl, hb⟩)
              | (go_at_call 20; with_reducible show Calls _ _ #[.agg #[.int .i64 6, _, _, _, _], _, _] _ _; with_reducible refine Calls.mono (cn_orn (cn_of (by assumption)) OK.out sz1 sz2 (by repeat (first | (with_reducible exact blk_new _ _ (by first | rfl | (simp; done))) | (with_reducible refine blk_drew_old ?_) | (with_reducible refine blk_through (by assumption) ?_) | (with_reducible refine blk_alloc_old ?_ _))) (by repeat (first | (with_reducible exact blk_new _ _ (by first | rfl | (simp; done))) | (with_reducible refine blk_drew_old ?_) | (with_reducible refine blk_through (by assumption) ?_) | (with_reducible refine blk_alloc_old ?_ _))) N7.out) ?_; rintro e w' ⟨rfl, hb⟩)
              | (go_at_call 29; refine (both_calls _ _ _ _ _ (Nat.le_refl _)).mono ?_; rintro e w' ⟨rfl, hb⟩)))
    | fail
    all_goals
      rename_i hH
      replace HN := Aside0.mk (cn_of hH)
      clear hH hS
      go_wp2
      go_ret
      first | exact ⟨rfl, HN.out.cp.old⟩ | exact ⟨rfl, by have := HN.out.cp.old; rwa [hb1] at this⟩
theorem conn_card {w : World} (x : Fm) (hx : Held x) (A : Option Addr) (c : Nat) (hA : Kd.C kFm w A x.f4.length x.f4) (hc : x.f4.length ≤ c) (y : Fm) (hy : Held y) (B : Option Addr) (d : Nat) (hB : Kd.C kFm w B y.f4.length y.f4) (hd : y.f4.length ≤ d) (l : List Fact) (hl : l.length ≤ 9223372036854775807) (_ : ∀ y ∈ l, HeldFact y) (D : Option Addr) (dc : Nat) (hD : Kd.C kFact w D l.length l) (hdc : l.length ≤ dc)
    (cs : List Int) (_ : cs.length ≤ 9223372036854775807) (_ : ∀ y ∈ cs, (Lit.int .i64 y).wf = true) (E : Option Addr) (ec : Nat) (hE : Kd.C (Kd.int .i64) w E cs.length cs) (hec : cs.length ≤ ec) (_ : World) :
    Calls Tryz.prog 5 #[.agg (fmC x A c), .agg (fmC y B d), .agg #[.slice D l.length dc], .slice E cs.length ec] w fun e w' => e = .returned (.bool true) ∧ Below w.heap.size w w' := by
  obtain ⟨b, g1, g2⟩ := PLawFormulaMatters.good_tells hx.low l cs hl
  obtain ⟨k, hk⟩ := g1.run
  obtain ⟨b', g1', g2'⟩ := PLawFormulaMatters.good_tells hy.low l cs hl
  obtain ⟨k', hk'⟩ := g1'.run
  exact conn_walk k k' x y l cs A B D E c d dc ec w b b' hA hc hB hd hD hdc hE hec hk hk' g2 g2'
end Go.Proofs.YtkgmempifggajaaGreatDoor.PLawConn
