/- What the statement's proof builds on: SameLaw. -/
import Derived.Test.YtkgmempifggajaaGreatDoorGA10
-- the text YtkgmempifggajaaGreatDoorSameLaw
/- Formulas that are the same: reflexive, symmetric; the same size and depth. -/
namespace Go.Proofs.YtkgmempifggajaaGreatDoor.P
open Go.RowKit
set_option linter.unusedVariables false
set_option linter.unusedSimpArgs false

theorem samesB_refl (l : List Fm) (h : ∀ k (hk : k < l.length), sameB l[k] l[k] = true) : samesB l l = true := by
  induction l with
  | nil => rfl
  | cons a l ih =>
    simp only [samesB, Bool.and_eq_true]
    exact ⟨h 0 (by simp), ih (fun k hk => h (k + 1) (by simpa using hk))⟩
theorem sameB_refl_all (N : Nat) : ∀ x : Fm, size x ≤ N → sameB x x = true := by
  induction N with
  | zero => intro x h; have := size_pos x; omega
  | succ N ih =>
    intro x hx
    have hs := size_eq x
    rw [sameB_eq, samesB_refl x.f4 (fun k hk => ih _ (by have := size_mem x.f4 k hk; omega))]
    simp
theorem sameB_refl (x : Fm) : sameB x x = true := sameB_refl_all (size x) x (Nat.le_refl _)
theorem samesB_symm (l m : List Fm) (hl : l.length = m.length) (h : ∀ k (hk : k < l.length) (y : Fm), sameB l[k] y = sameB y l[k]) : samesB l m = samesB m l := by
  induction l generalizing m with
  | nil => cases m with
    | nil => rfl
    | cons b m => simp at hl
  | cons a l ih =>
    cases m with
    | nil => simp at hl
    | cons b m =>
      simp only [samesB]
      rw [ih m (by simpa using hl) (fun k hk y => h (k + 1) (by simpa using hk) y)]
      have := h 0 (by simp) b
      simp only [List.getElem_cons_zero] at this
      rw [this]
theorem beq_comm_ {α : Type} [BEq α] [LawfulBEq α] (a b : α) : (a == b) = (b == a) := by
  cases h : a == b
  · cases h2 : b == a
    · rfl
    · rw [beq_iff_eq] at h2; subst h2; simp at h
  · rw [beq_iff_eq] at h; subst h; simp
theorem sameB_symm_all (N : Nat) : ∀ x y : Fm, size x ≤ N → sameB x y = sameB y x := by
  induction N with
  | zero => intro x y h; have := size_pos x; omega
  | succ N ih =>
    intro x y hx
    have hs := size_eq x
    rw [sameB_eq, sameB_eq, beq_comm_ x.f0 y.f0, beq_comm_ x.f1.toList y.f1.toList, beq_comm_ x.f2 y.f2, beq_comm_ x.f3 y.f3, beq_comm_ x.f4.length y.f4.length]
    by_cases hl : x.f4.length = y.f4.length
    · rw [samesB_symm x.f4 y.f4 hl (fun k hk z => ih _ z (by have := size_mem x.f4 k hk; omega))]
    · have : (y.f4.length == x.f4.length) = false := by simp; omega
      rw [this]; simp
theorem sameB_symm (x y : Fm) : sameB x y = sameB y x := sameB_symm_all (size x) x y (Nat.le_refl _)
theorem sameB_parts {x y : Fm} (h : sameB x y = true) : x.f0 = y.f0 ∧ x.f1.toList = y.f1.toList ∧ x.f2 = y.f2 ∧ x.f3 = y.f3 ∧ x.f4.length = y.f4.length ∧ samesB x.f4 y.f4 = true := by
  rw [sameB_eq] at h
  simpa [and_assoc] using h
theorem samesB_at {l m : List Fm} (h : samesB l m = true) (hl : l.length = m.length) (k : Nat) (hk : k < l.length) : sameB l[k] (m[k]'(by omega)) = true := by
  induction l generalizing m k with
  | nil => simp at hk
  | cons a l ih =>
    cases m with
    | nil => simp at hl
    | cons b m =>
      simp only [samesB, Bool.and_eq_true] at h
      cases k with
      | zero => exact h.1
      | succ k => exact ih h.2 (by simpa using hl) k (by simpa using hk)
theorem samesB_sizes (l m : List Fm) (hl : l.length = m.length) (h : samesB l m = true) (hs : ∀ k (hk : k < l.length) (y : Fm), sameB l[k] y = true → size l[k] = size y ∧ depth l[k] = depth y) : sizes l = sizes m ∧ depths l = depths m := by
  induction l generalizing m with
  | nil => cases m with
    | nil => exact ⟨rfl, rfl⟩
    | cons b m => simp at hl
  | cons a l ih =>
    cases m with
    | nil => simp at hl
    | cons b m =>
      simp only [samesB, Bool.and_eq_true] at h
      have h1 := hs 0 (by simp) b h.1
      simp only [List.getElem_cons_zero] at h1
      have h2 := ih m (by simpa using hl) h.2 (fun k hk y => hs (k + 1) (by simpa using hk) y)
      simp only [sizes, depths]
      rw [h1.1, h1.2, h2.1, h2.2]
      exact ⟨rfl, rfl⟩
theorem same_size_all (N : Nat) : ∀ x y : Fm, size x ≤ N → sameB x y = true → size x = size y ∧ depth x = depth y := by
  induction N with
  | zero => intro x y h; have := size_pos x; omega
  | succ N ih =>
    intro x y hx h
    have hs := size_eq x
    obtain ⟨_, _, _, _, hl, hk⟩ := sameB_parts h
    have := samesB_sizes x.f4 y.f4 hl hk (fun k hk z hz => ih _ z (by have := size_mem x.f4 k hk; omega) hz)
    rw [size_eq x, size_eq y, depth_eq x, depth_eq y, this.1, this.2]
    exact ⟨rfl, rfl⟩
theorem same_size {x y : Fm} (h : sameB x y = true) : size x = size y ∧ depth x = depth y := same_size_all (size x) x y (Nat.le_refl _) h
end Go.Proofs.YtkgmempifggajaaGreatDoor.P
