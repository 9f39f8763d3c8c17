/- What the statement's proof builds on: NamedLaw, FLaw. -/
import Derived.Test.YtkgmempifggajaaGreatDoorGA17
import Derived.Test.YtkgmempifggajaaGreatDoorGA13
-- the text YtkgmempifggajaaGreatDoorNamedLaw
/- The facts that a formula names; what a formula says depends on them alone. -/
namespace Go.Proofs.YtkgmempifggajaaGreatDoor.P
set_option linter.unusedVariables false
set_option linter.unusedSimpArgs false
mutual
/-- Whether a formula tests a fact. -/
def namedB (name : ByteArray) : Fm → Bool
  | ⟨op, nm, _, _, kids⟩ => (op == 3 && nm.toList == name.toList) || namedsB name kids
def namedsB (name : ByteArray) : List Fm → Bool
  | [] => false
  | k :: ks => namedB name k || namedsB name ks
end
theorem namedB_eq (name : ByteArray) (x : Fm) : namedB name x = ((x.f0 == 3 && x.f1.toList == name.toList) || namedsB name x.f4) := by cases x; simp [namedB]
theorem namedsB_any (name : ByteArray) (l : List Fm) : namedsB name l = l.any (namedB name) := by
  induction l with
  | nil => simp [namedsB]
  | cons a l ih => simp [namedsB, ih]
theorem namedB_kid {name : ByteArray} {x : Fm} {k : Fm} (hk : k ∈ x.f4) (h : namedB name k = true) : namedB name x = true := by
  rw [namedB_eq, namedsB_any, Bool.or_eq_true, List.any_eq_true]
  exact .inr ⟨k, hk, h⟩
theorem toList_inj {a b : ByteArray} (h : a.toList = b.toList) : a = b := by
  rw [toList_data, toList_data] at h
  cases a with
  | mk a =>
    cases b with
    | mk b =>
      congr
      exact Array.toList_inj.1 h
theorem holds_congr (g g' : ByteArray → Int) (N : Nat) : ∀ x : Fm, size x ≤ N → (∀ name, namedB name x = true → g name = g' name) → holdsE g x = holdsE g' x := by
  induction N with
  | zero => intro x h; have := size_pos x; omega
  | succ N ih =>
    intro x hN hg
    have hs := size_eq x
    have hk : ∀ k ∈ x.f4, holdsE g k = holdsE g' k := by
      intro k hk
      obtain ⟨i, hi, rfl⟩ := List.mem_iff_getElem.1 hk
      have := size_mem x.f4 i hi
      exact ih _ (by omega) (fun name hn => hg name (namedB_kid hk hn))
    rw [holdsE_eq, holdsE_eq]
    have e1 : x.f0 = 3 → g x.f1 = g' x.f1 := fun h3 => hg _ (by rw [namedB_eq]; simp [h3])
    have e2 : holdsHd g x.f4 = holdsHd g' x.f4 := by
      cases hx : x.f4 with
      | nil => rfl
      | cons a r => simp only [holdsHd]; exact hk a (by rw [hx]; simp)
    have e3 : holdsAll g x.f4 = holdsAll g' x.f4 := by
      rw [holdsAll_any, holdsAll_any]
      congr 1
      rw [Bool.eq_iff_iff, List.any_eq_true, List.any_eq_true]
      constructor
      · rintro ⟨k, h1, h2⟩; exact ⟨k, h1, by rw [← hk k h1]; exact h2⟩
      · rintro ⟨k, h1, h2⟩; exact ⟨k, h1, by rw [hk k h1]; exact h2⟩
    have e4 : holdsAny g x.f4 = holdsAny g' x.f4 := by
      rw [holdsAny_any, holdsAny_any]
      rw [Bool.eq_iff_iff, List.any_eq_true, List.any_eq_true]
      constructor
      · rintro ⟨k, h1, h2⟩; exact ⟨k, h1, by rw [← hk k h1]; exact h2⟩
      · rintro ⟨k, h1, h2⟩; exact ⟨k, h1, by rw [hk k h1]; exact h2⟩
    rw [e2, e3, e4]
    by_cases h3 : x.f0 = 3
    · rw [if_pos h3, if_pos h3, e1 h3]
    · rw [if_neg h3, if_neg h3]
theorem firstEs_zero {g : Fm → Int} {l : List Fm} (h : firstEs g l = 0) : ∀ k ∈ l, firstE g k = 0 := by
  induction l with
  | nil => intro k hk; simp at hk
  | cons a l ih =>
    simp only [firstEs] at h
    by_cases ha : firstE g a = 0
    · rw [if_pos ha] at h
      intro k hk
      rcases List.mem_cons.1 hk with rfl | hk
      · exact ha
      · exact ih h k hk
    · rw [if_neg ha] at h; exact absurd h ha
theorem named_index (l : List Fact) (N : Nat) : ∀ x : Fm, size x ≤ N → firstE (checkNode l) x = 0 → ∀ name, namedB name x = true → 0 ≤ indexOf l name := by
  induction N with
  | zero => intro x h; have := size_pos x; omega
  | succ N ih =>
    intro x hN hck name hn
    have hs := size_eq x
    obtain ⟨h1, h2⟩ := checks_of l x hck
    rw [namedB_eq, Bool.or_eq_true] at hn
    rcases hn with hn | hn
    · simp only [Bool.and_eq_true, beq_iff_eq] at hn
      have := (check_node_of l x h1).2 hn.1
      rw [← toList_inj hn.2]
      exact this.2.2
    · rw [namedsB_any, List.any_eq_true] at hn
      obtain ⟨k, hk, hn⟩ := hn
      obtain ⟨i, hi, rfl⟩ := List.mem_iff_getElem.1 hk
      have := size_mem x.f4 i hi
      exact ih _ (by omega) (firstEs_zero h2 _ hk) name hn
theorem check_first {x : Fm} {l : List Fact} (h : checkF x l = 0) : firstE (checkNode l) x = 0 ∧ isLarge x = false := by
  unfold checkF at h
  cases hL : isLarge x
  · rw [if_neg (by rw [hL]; decide)] at h; exact ⟨h, rfl⟩
  · rw [if_pos hL] at h; exact absurd h (by decide)
theorem index_at {l : List Fact} {name : ByteArray} (h : 0 ≤ indexOf l name) : ∃ j, ∃ hj : j < l.length, indexOf l name = j ∧ l[j].f0 = name := by
  unfold indexOf at h ⊢
  induction l with
  | nil => simp [idxBy] at h
  | cons a l ih =>
    unfold idxBy at h ⊢
    by_cases ha : named name a = true
    · rw [if_pos ha]
      unfold named at ha
      exact ⟨0, by simp, rfl, toList_inj (by simpa using ha)⟩
    · rw [if_neg ha] at h ⊢
      by_cases hm : idxBy (named name) l = -1
      · rw [if_pos hm] at h; omega
      · rw [if_neg hm]
        have hge := idxBy_ge (named name) l
        obtain ⟨j, hj, h1, h2⟩ := ih (by omega)
        exact ⟨j + 1, by simp; omega, by rw [h1]; rfl, by simpa using h2⟩
/-- Two cases that fit and agree about the facts that a formula names. -/
theorem holds_agree (x : Fm) (l : List Fact) (a b : List Int) (ha : fitsB l a = true) (hb : fitsB l b = true) (hc : checkF x l = 0)
    (h : ∀ j (hj : j < l.length), namedB l[j].f0 x = true → a.getD j 0 = b.getD j 0) : holdsF x l a = holdsF x l b := by
  unfold holdsF
  rw [ha, hb]
  congr 1
  refine holds_congr _ _ (size x) x (Nat.le_refl _) (fun name hn => ?_)
  have hi := named_index l (size x) x (Nat.le_refl _) (check_first hc).1 name hn
  obtain ⟨j, hj, h1, h2⟩ := index_at hi
  unfold valOf
  rw [h1]
  simp only [Int.toNat_natCast]
  exact h j hj (by rw [h2]; exact hn)
theorem fits_mixed {l : List Fact} {a b m : List Int} (ha : fitsB l a = true) (hb : fitsB l b = true) (hm : m.length = l.length) (h : ∀ j, j < l.length → m.getD j 0 = a.getD j 0 ∨ m.getD j 0 = b.getD j 0) : fitsB l m = true := by
  refine fitsB_true l m (fits_valid ha).1 hm (fun j hj => ?_)
  have h1 := fits_at ha j hj
  have h2 := fits_at hb j hj
  unfold inAt at h1 h2 ⊢
  rcases h j hj with h | h
  · rw [h]; exact h1
  · rw [h]; exact h2
end Go.Proofs.YtkgmempifggajaaGreatDoor.P
-- the text YtkgmempifggajaaGreatDoorFLaw
/- What the functions of formula tell, by a formula as one thing. -/
namespace Go.Proofs.YtkgmempifggajaaGreatDoor.P
set_option linter.unusedVariables false
theorem size_fm (x : Fm) (h : size x ≤ 100000000) : formula_Size.f x.f0 x.f1 x.f2 x.f3 x.f4 = some ((size x : Int), (depth x : Int)) := by cases x; exact if_pos h
theorem check_fm (x : Fm) (l : List Fact) (h : size x ≤ 100000000) : formula_Check.f x.f0 x.f1 x.f2 x.f3 x.f4 l = some (checkF x l) := by cases x; exact if_pos h
theorem holds_fm (x : Fm) (l : List Fact) (cs : List Int) (h : size x ≤ 100000000) (hl : okDom l = true) : formula_Holds.f x.f0 x.f1 x.f2 x.f3 x.f4 l cs = some (holdsF x l cs) := by cases x; exact if_pos ⟨h, hl⟩
end Go.Proofs.YtkgmempifggajaaGreatDoor.P
