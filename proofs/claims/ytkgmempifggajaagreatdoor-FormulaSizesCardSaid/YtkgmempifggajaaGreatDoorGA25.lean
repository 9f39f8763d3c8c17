/- What the statement's proof builds on: PureSizes. -/
import Derived.Test.YtkgmempifggajaaGreatDoorGA22
import Derived.Test.YtkgmempifggajaaGreatDoorGA23
import Derived.Test.YtkgmempifggajaaGreatDoorGA15
import Derived.Test.YtkgmempifggajaaGreatDoorGA24
-- the text YtkgmempifggajaaGreatDoorPureSizes
/- FormulaSizes: what the law computes is true. -/
namespace Go.Proofs.YtkgmempifggajaaGreatDoor.PLawFormulaSizes
open Go.RowKit Go.Proofs.YtkgmempifggajaaGreatDoorW.PrintWords Go.Proofs.YtkgmempifggajaaGreatDoorW.PrintLast Go.Proofs.YtkgmempifggajaaGreatDoorW.PrintMore
open Go.Proofs.YtkgmempifggajaaGreatDoor.P
set_option linter.unusedVariables false
set_option linter.unusedSimpArgs false

theorem size_f (x : S24) (h : size x ≤ 100000000) : formula_Size.f x.f0 x.f1 x.f2 x.f3 x.f4 = some ((size x : Int), (depth x : Int)) := by cases x; exact if_pos h
theorem same_f (x y : S24) : formula_Same.f x.f0 x.f1 x.f2 x.f3 x.f4 y.f0 y.f1 y.f2 y.f3 y.f4 = some (sameB x y) := by cases x; cases y; rfl
theorem l1_ends (x y : S24) (h : sameB x y = true) (hx : size x ≤ 200) :
    ∀ d i : Nat, i + d = x.f4.length → ∃ k0, ∀ k, k0 ≤ k → customhouselaw25_FormulaSizes.l1 k true (size x) (depth x) (size y) (depth y) i x.f0 x.f1 x.f2 x.f3 x.f4 y.f0 y.f1 y.f2 y.f3 y.f4 = some true := by
  obtain ⟨p0, p1, p2, p3, p4, p5⟩ := sameB_parts h
  obtain ⟨q1, q2⟩ := same_size h
  have hs := size_eq x
  have hlen := sizes_len x.f4
  intro d
  induction d with
  | zero =>
    intro i hi
    refine ⟨1, fun k hk => ?_⟩
    obtain ⟨k, rfl⟩ : ∃ q, k = q + 1 := ⟨k - 1, by omega⟩
    simp only [customhouselaw25_FormulaSizes.l1]
    rw [if_neg (by omega), if_pos trivial, if_pos (by omega), if_pos (by omega), if_pos p0, if_pos p1, if_pos p2, if_pos p3, p4]
    simp
  | succ d ihd =>
    intro i hi
    have hlt : i < x.f4.length := by omega
    have hlt2 : i < y.f4.length := by omega
    obtain ⟨k0, g⟩ := ihd (i + 1) (by omega)
    refine ⟨k0 + 1, fun k hk => ?_⟩
    obtain ⟨k, rfl⟩ : ∃ q, k = q + 1 := ⟨k - 1, by omega⟩
    simp only [customhouselaw25_FormulaSizes.l1]
    rw [if_pos (by omega), if_neg (by omega), if_pos (by omega), if_pos (by omega), rd_at x.f4 i hlt, rd_at y.f4 i hlt2, same_f, samesB_at p5 p4 i hlt]
    simp only [Option.bind_some, if_true]
    rw [wrap_id ((i : Int) + 1) (by omega) (by omega)]
    have := g k (by omega)
    push_cast at this
    exact this
theorem cast_max (a b : Nat) : ((max a b : Nat) : Int) = max (a : Int) (b : Int) := by omega
theorem j2_ends (x y : S24) (hx : size x ≤ 200) (hy : size y ≤ 200) : ∃ k0, ∀ k, k0 ≤ k → customhouselaw25_FormulaSizes.j2 k true (size x) (depth x) false x.f0 x.f1 x.f2 x.f3 x.f4 y.f0 y.f1 y.f2 y.f3 y.f4 = some true := by
  cases h : sameB x y
  · refine ⟨1, fun k hk => ?_⟩
    obtain ⟨k, rfl⟩ : ∃ q, k = q + 1 := ⟨k - 1, by omega⟩
    simp only [customhouselaw25_FormulaSizes.j2]
    rw [if_neg (by decide), same_f, h]
    rfl
  · obtain ⟨k0, g⟩ := l1_ends x y h hx x.f4.length 0 (by omega)
    refine ⟨k0 + 1, fun k hk => ?_⟩
    obtain ⟨k, rfl⟩ : ∃ q, k = q + 1 := ⟨k - 1, by omega⟩
    simp only [customhouselaw25_FormulaSizes.j2]
    rw [if_neg (by decide), same_f, h]
    simp only [Option.bind_some, if_true]
    rw [size_f y (by omega)]
    simp only [Option.bind_some]
    exact g k (by omega)
theorem l0_ends (x y : S24) (hx : size x ≤ 200) (hy : size y ≤ 200) :
    ∀ d i : Nat, i + d = x.f4.length → ∃ k0, ∀ k, k0 ≤ k → customhouselaw25_FormulaSizes.l0 k true (size x) (depth x) (1 + sizes (x.f4.take i)) (depths (x.f4.take i)) i x.f0 x.f1 x.f2 x.f3 x.f4 y.f0 y.f1 y.f2 y.f3 y.f4 = some true := by
  have hs := size_eq x
  have hd := depth_eq x
  have hlen := sizes_len x.f4
  have hdl := depth_le_size x
  intro d
  induction d with
  | zero =>
    intro i hi
    obtain ⟨k0, g⟩ := j2_ends x y hx hy
    refine ⟨k0 + 1, fun k hk => ?_⟩
    obtain ⟨k, rfl⟩ : ∃ q, k = q + 1 := ⟨k - 1, by omega⟩
    obtain rfl : i = x.f4.length := by omega
    simp only [customhouselaw25_FormulaSizes.l0]
    rw [if_neg (by omega), List.take_length, if_pos (by omega), if_pos (by rw [wrap_id _ (by omega) (by omega)]; omega), same_f, sameB_refl]
    simp only [Option.bind_some, if_true]
    rw [same_f, same_f, sameB_symm x y]
    simp only [Option.bind_some, bne_self_eq_false]
    exact g k (by omega)
  | succ d ihd =>
    intro i hi
    have hlt : i < x.f4.length := by omega
    have hsz := size_mem x.f4 i hlt
    have hsn := sizes_snoc x.f4 i hlt
    have hdn := depths_snoc x.f4 i hlt
    have hle := sizes_take_le x.f4 (i + 1)
    obtain ⟨k0, g⟩ := ihd (i + 1) (by omega)
    refine ⟨k0 + 1, fun k hk => ?_⟩
    obtain ⟨k, rfl⟩ : ∃ q, k = q + 1 := ⟨k - 1, by omega⟩
    simp only [customhouselaw25_FormulaSizes.l0]
    rw [if_pos (by omega), if_pos (by omega), rd_at x.f4 i hlt, size_f x.f4[i] (by omega)]
    simp only [Option.bind_some]
    rw [wrap_id ((i : Int) + 1) (by omega) (by omega), wrap_id _ (by omega) (by omega), mx_eq]
    have := g k (by omega)
    rw [hsn, hdn] at this
    push_cast at this
    rw [← Int.add_assoc, cast_max] at this
    exact this
theorem j0_ends (x y : S24) (b : Bool) (h : b = false → size x ≤ 200 ∧ size y ≤ 200) : Tells (fun k => customhouselaw25_FormulaSizes.j0 k true b x.f0 x.f1 x.f2 x.f3 x.f4 y.f0 y.f1 y.f2 y.f3 y.f4) true := by
  cases b
  · obtain ⟨h1, h2⟩ := h rfl
    have g := l0_ends x y h1 h2 x.f4.length 0 (by omega)
    refine Tells.step (h := fun k => customhouselaw25_FormulaSizes.l0 k true (size x) (depth x) 1 0 0 x.f0 x.f1 x.f2 x.f3 x.f4 y.f0 y.f1 y.f2 y.f3 y.f4) (fun k => ?_) ?_
    · simp only [customhouselaw25_FormulaSizes.j0]
      rw [if_neg (by decide), size_f x (by omega)]
      rfl
    · simpa [sizes, depths, Tells] using g
  · exact Tells.step (h := fun _ => some true) (fun k => by simp [customhouselaw25_FormulaSizes.j0]) Tells.same
theorem sizes_true (x : S24) (hx : Held x) (y : S24) (hy : Held y) : ∃ k, customhouselaw25_FormulaSizes.f k x.f0 x.f1 x.f2 x.f3 x.f4 y.f0 y.f1 y.f2 y.f3 y.f4 = some true := by
  refine Tells.run ?_
  unfold customhouselaw25_FormulaSizes.f
  have up : ∀ b : Bool, (b = false → size x ≤ 200 ∧ size y ≤ 200) → _ := fun b h => j0_ends x y b h
  refine Tells.bind (Tells.of (show customhouselaw25_head.f = some true from rfl)) ?_
  refine Tells.bind (small_tells x hx.low 200 (by decide) (by decide)) ?_
  by_cases h1 : (size x : Int) ≤ 200
  · rw [decide_eq_true h1]
    simp only [if_true]
    refine Tells.bind (small_tells y hy.low 200 (by decide) (by decide)) ?_
    by_cases h2 : (size y : Int) ≤ 200
    · rw [decide_eq_true h2]
      simp only [if_true]
      obtain ⟨k1, b1, g1⟩ := short_all hx.low
      refine Tells.bind (a := b1) ⟨k1, g1⟩ ?_
      cases b1
      · exact up _ (fun h => by cases h)
      · simp only [if_true]
        obtain ⟨k2, b2, g2⟩ := short_all hy.low
        exact Tells.bind (a := b2) ⟨k2, g2⟩ (up _ (fun _ => ⟨by omega, by omega⟩))
    · rw [decide_eq_false h2]
      exact up _ (fun h => by cases h)
  · rw [decide_eq_false h1]
    exact up _ (fun h => by cases h)
end Go.Proofs.YtkgmempifggajaaGreatDoor.PLawFormulaSizes
