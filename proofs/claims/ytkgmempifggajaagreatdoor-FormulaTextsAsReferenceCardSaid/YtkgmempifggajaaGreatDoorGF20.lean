/- What the statement's proof builds on: Tells. -/
/- Fuelled computations that answer from some amount of fuel on. -/
namespace Go.Proofs.YtkgmempifggajaaGreatDoor.P
set_option linter.unusedVariables false
def Tells {β : Type} (g : Nat → Option β) (b : β) : Prop := ∃ k0, ∀ k, k0 ≤ k → g k = some b
theorem Tells.same {β : Type} {b : β} : Tells (fun _ => some b) b := ⟨0, fun _ _ => rfl⟩
theorem Tells.of {β : Type} {o : Option β} {b : β} (h : o = some b) : Tells (fun _ => o) b := ⟨0, fun _ _ => h⟩
theorem Tells.bind {α β : Type} {g : Nat → Option α} {a : α} {f : Nat → α → Option β} {b : β} (h : Tells g a) (h2 : Tells (fun k => f k a) b) : Tells (fun k => (g k).bind (f k)) b := by
 obtain ⟨k1, h1⟩ := h
 obtain ⟨k2, h2⟩ := h2
 refine ⟨max k1 k2, fun k hk => ?_⟩
 show (g k).bind (f k) = some b
 rw [h1 k (by omega)]
 exact h2 k (by omega)
theorem Tells.step {β : Type} {g h : Nat → Option β} {b : β} (he : ∀ k, g (k + 1) = h k) (hh : Tells h b) : Tells g b := by
 obtain ⟨k0, h0⟩ := hh
 refine ⟨k0 + 1, fun k hk => ?_⟩
 obtain ⟨k, rfl⟩ : ∃ q, k = q + 1 := ⟨k - 1, by omega⟩
 rw [he]
 exact h0 k (by omega)
theorem Tells.eq {β : Type} {g h : Nat → Option β} {b : β} (he : ∀ k, g k = h k) (hh : Tells h b) : Tells g b := by
 obtain ⟨k0, h0⟩ := hh
 exact ⟨k0, fun k hk => (he k).trans (h0 k hk)⟩
theorem Tells.run {β : Type} {g : Nat → Option β} {b : β} (h : Tells g b) : ∃ k, g k = some b := by
 obtain ⟨k0, h0⟩ := h
 exact ⟨k0, h0 k0 (Nat.le_refl _)⟩
end Go.Proofs.YtkgmempifggajaaGreatDoor.P
