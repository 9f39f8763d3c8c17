/- What the statement's proof builds on: Types, Gen, Spec, LexSpec, LexA, Idx, LexB, Fm, Size. -/
import Derived.Test.YtkgmempifggajaaGreatDoorProg
import Derived.Test.YtkgmempifggajaaGreatDoorGF4
import Derived.OneCell
import Derived.Laws.EntriesVeiled
import Derived.WalkLawsBesides
import Derived.WalkSpells
/- The Lean types of the program's structs and what it means that memory holds them (printed by the kit's kinds.py). -/
namespace Go.Proofs.YtkgmempifggajaaGreatDoor.P
open Go.RowKit Go.Proofs.YtkgmempifggajaaGreatDoorW.PrintWords Go.Proofs.YtkgmempifggajaaGreatDoorW.PrintLast Go.Proofs.YtkgmempifggajaaGreatDoorW.PrintMore
set_option linter.unusedVariables false
structure S24 where
 f0 : Int
 f1 : ByteArray
 f2 : Int
 f3 : Int
 f4 : (List S24)
def z24 : S24 := ⟨(0 : Int), (⟨#[]⟩ : ByteArray), (0 : Int), (0 : Int), ([] : List S24)⟩
def F24 (d : Kd S24) : Kd S24 := Kd.iso (Kd.pair (Kd.int .i64) (Kd.pair Kd.string (Kd.pair (Kd.int .i64) (Kd.pair (Kd.int .i64) (Kd.slice 24 d))))) (fun x : S24 => (x.f0, x.f1, x.f2, x.f3, x.f4))
theorem mono24 : Kd.Mono F24 := Kd.mono_iso _ (Kd.mono_pair (Kd.mono_const _) (Kd.mono_pair (Kd.mono_const _) (Kd.mono_pair (Kd.mono_const _) (Kd.mono_pair (Kd.mono_const _) (Kd.mono_slice 24 Kd.mono_id)))))
theorem sub24 : Kd.Sub F24 [24] := Kd.sub_iso _ (Kd.sub_pair (Kd.sub_const _ (by decide)) (Kd.sub_pair (Kd.sub_const _ (by decide)) (Kd.sub_pair (Kd.sub_const _ (by decide)) (Kd.sub_pair (Kd.sub_const _ (by decide)) (Kd.sub_slice 24 (by decide) Kd.sub_id)))))
theorem sz24 : ∀ n, (Kd.upto F24 5 [24] n).sz = 5 := Kd.upto_sz (fun _ => rfl)
def k24 : Kd S24 := Kd.fix F24 5 [24] sz24 (Kd.upto_E sub24)
theorem k24_heap : Kd.Heap k24 := Kd.heap_fix (fun _ h_ => Kd.heap_iso _ (Kd.heap_pair (Kd.heap_int .i64) (Kd.heap_pair Kd.heap_string (Kd.heap_pair (Kd.heap_int .i64) (Kd.heap_pair (Kd.heap_int .i64) (Kd.heap_slice 24 h_))))))
theorem k24_open {w : World} {x : S24} {cs : List Value} (h : k24.K w x cs) : ∃ A4 c4, cs = [.int .i64 x.f0, .string x.f1, .int .i64 x.f2, .int .i64 x.f3, .slice A4 x.f4.length c4] ∧ x.f4.length ≤ c4 ∧ k24.C w A4 x.f4.length x.f4 := by
 obtain ⟨n, h⟩ := h
 cases n with
 | zero => exact h.elim
 | succ n =>
  obtain ⟨_, _, rfl, rfl, ⟨_, _, rfl, rfl, ⟨_, _, rfl, rfl, ⟨_, _, rfl, rfl, ⟨A4, c4, rfl, l4, g4⟩⟩⟩⟩⟩ := h
  exact ⟨A4, c4, rfl, l4, Kd.fix_C g4⟩
theorem k24_openM {w : World} {base : Nat} {ok : Nat → Prop} {x : S24} {cs : List Value} (h : k24.M w base ok x cs) : ∃ v4, cs = [.int .i64 x.f0, .string x.f1, .int .i64 x.f2, .int .i64 x.f3, v4] ∧ k24.R 24 w base ok v4 x.f4 := by
 obtain ⟨n, h⟩ := h
 cases n with
 | zero => exact h.elim
 | succ n =>
  obtain ⟨_, _, rfl, rfl, ⟨_, _, rfl, rfl, ⟨_, _, rfl, rfl, ⟨_, _, rfl, rfl, ⟨v4, rfl, g4⟩⟩⟩⟩⟩ := h
  exact ⟨v4, rfl, Kd.fix_R g4⟩
theorem k24_mk (w : World) (x : S24) {A4 : Option Addr} {c4 : Nat} (l4 : x.f4.length ≤ c4) (g4 : k24.C w A4 x.f4.length x.f4) : k24.K w x [.int .i64 x.f0, .string x.f1, .int .i64 x.f2, .int .i64 x.f3, .slice A4 x.f4.length c4] := by
 obtain ⟨n4, q4⟩ := Kd.fix_C_back mono24 g4
 have r4 := Kd.upto_C_le mono24 sz24 (show n4 ≤ n4 by omega) q4
 exact ⟨n4 + 1, ⟨[.int .i64 x.f0], [.string x.f1, .int .i64 x.f2, .int .i64 x.f3, .slice A4 x.f4.length c4], rfl, rfl, ⟨[.string x.f1], [.int .i64 x.f2, .int .i64 x.f3, .slice A4 x.f4.length c4], rfl, rfl, ⟨[.int .i64 x.f2], [.int .i64 x.f3, .slice A4 x.f4.length c4], rfl, rfl, ⟨[.int .i64 x.f3], [.slice A4 x.f4.length c4], rfl, rfl, ⟨A4, c4, rfl, l4, r4⟩⟩⟩⟩⟩⟩
theorem k24_mkM (w : World) (base : Nat) (ok : Nat → Prop) (x : S24) {v4 : Value} (g4 : k24.R 24 w base ok v4 x.f4) : k24.M w base ok x [.int .i64 x.f0, .string x.f1, .int .i64 x.f2, .int .i64 x.f3, v4] := by
 obtain ⟨n4, q4⟩ := Kd.fix_R_back mono24 g4
 have r4 := Kd.upto_R_le mono24 sz24 (show n4 ≤ n4 by omega) q4
 exact ⟨n4 + 1, ⟨[.int .i64 x.f0], [.string x.f1, .int .i64 x.f2, .int .i64 x.f3, v4], rfl, rfl, ⟨[.string x.f1], [.int .i64 x.f2, .int .i64 x.f3, v4], rfl, rfl, ⟨[.int .i64 x.f2], [.int .i64 x.f3, v4], rfl, rfl, ⟨[.int .i64 x.f3], [v4], rfl, rfl, ⟨v4, rfl, r4⟩⟩⟩⟩⟩⟩
theorem k24_openF {W : World} {ok : Nat → Prop} {x : S24} {cs : List Value} (h : Kd.FK k24 W ok x cs) : ∃ A4 c4, cs = [.int .i64 x.f0, .string x.f1, .int .i64 x.f2, .int .i64 x.f3, .slice A4 x.f4.length c4] ∧ x.f4.length ≤ c4 ∧ Kd.F k24 W ok A4 x.f4.length x.f4 := by
 obtain ⟨A4, c4, rfl, l4, _⟩ := k24_open (Kd.FK_now h)
 exact ⟨A4, c4, rfl, l4, (fun W' hW => by obtain ⟨A4_, c4_, he, l4_, g4_⟩ := k24_open (h W' hW); injection (Option.some.inj (show some (Value.slice A4 x.f4.length c4) = some (Value.slice A4_ x.f4.length c4_) from congrArg (fun l => l[4]?) he)) with ha_ _ _; rw [ha_]; exact g4_)⟩
def rd_T24 (xs : List S24) (i : Int) : S24 := xs.getD i.toNat z24
theorem at_T24 {w : World} {A : Option Addr} {n : Nat} {xs : List S24} (h : Kd.C k24 w A n xs) (i : Int) (h0 : 0 ≤ i) (h1 : i < n) : ∃ ad A4 c4, A = some ad ∧ w.cell? (ad.add (i.toNat * 5)) = some (.int .i64 (rd_T24 xs i).f0) ∧ w.cell? ⟨(ad.add (i.toNat * 5)).block, (ad.add (i.toNat * 5)).off + 1, none⟩ = some (.string (rd_T24 xs i).f1) ∧ w.cell? ⟨(ad.add (i.toNat * 5)).block, (ad.add (i.toNat * 5)).off + 2, none⟩ = some (.int .i64 (rd_T24 xs i).f2) ∧ w.cell? ⟨(ad.add (i.toNat * 5)).block, (ad.add (i.toNat * 5)).off + 3, none⟩ = some (.int .i64 (rd_T24 xs i).f3) ∧ w.cell? ⟨(ad.add (i.toNat * 5)).block, (ad.add (i.toNat * 5)).off + 4, none⟩ = some (.slice A4 (rd_T24 xs i).f4.length c4) ∧ (rd_T24 xs i).f4.length ≤ c4 ∧ k24.C w A4 (rd_T24 xs i).f4.length (rd_T24 xs i).f4 := by
 obtain ⟨ad, c, e, _, hK, hc0⟩ := Kd.C_get h z24 i h0 h1
 have hc : ∀ j u, c[j]? = some u → w.cell? (ad.add (i.toNat * 5 + j)) = some u := hc0
 obtain ⟨A4, c4, rfl, l4, g4⟩ := k24_open hK
 exact ⟨ad, A4, c4, e, hc 0 _ rfl, by rw [← add_field _ _ 1 (by omega)]; exact hc 1 _ rfl, by rw [← add_field _ _ 2 (by omega)]; exact hc 2 _ rfl, by rw [← add_field _ _ 3 (by omega)]; exact hc 3 _ rfl, by rw [← add_field _ _ 4 (by omega)]; exact hc 4 _ rfl, l4, g4⟩
structure S49 where
 f0 : ByteArray
 f1 : Int
 f2 : Int
 f3 : Int
def z49 : S49 := ⟨(⟨#[]⟩ : ByteArray), (0 : Int), (0 : Int), (0 : Int)⟩
def k49 : Kd S49 := Kd.iso (Kd.pair Kd.string (Kd.pair (Kd.int .i64) (Kd.pair (Kd.int .i64) (Kd.int .i64)))) (fun x : S49 => (x.f0, x.f1, x.f2, x.f3))
theorem k49_open {w : World} {x : S49} {cs : List Value} (h : k49.K w x cs) : cs = [.string x.f0, .int .i64 x.f1, .int .i64 x.f2, .int .i64 x.f3] := by
 obtain ⟨_, _, rfl, rfl, ⟨_, _, rfl, rfl, ⟨_, _, rfl, rfl, rfl⟩⟩⟩ := h
 exact rfl
theorem k49_mk (w : World) (x : S49)  : k49.K w x [.string x.f0, .int .i64 x.f1, .int .i64 x.f2, .int .i64 x.f3] := ⟨[.string x.f0], [.int .i64 x.f1, .int .i64 x.f2, .int .i64 x.f3], rfl, rfl, ⟨[.int .i64 x.f1], [.int .i64 x.f2, .int .i64 x.f3], rfl, rfl, ⟨[.int .i64 x.f2], [.int .i64 x.f3], rfl, rfl, rfl⟩⟩⟩
def rd_T49 (xs : List S49) (i : Int) : S49 := xs.getD i.toNat z49
theorem at_T49 {w : World} {A : Option Addr} {n : Nat} {xs : List S49} (h : Kd.C k49 w A n xs) (i : Int) (h0 : 0 ≤ i) (h1 : i < n) : ∃ ad , A = some ad ∧ w.cell? (ad.add (i.toNat * 4)) = some (.string (rd_T49 xs i).f0) ∧ w.cell? ⟨(ad.add (i.toNat * 4)).block, (ad.add (i.toNat * 4)).off + 1, none⟩ = some (.int .i64 (rd_T49 xs i).f1) ∧ w.cell? ⟨(ad.add (i.toNat * 4)).block, (ad.add (i.toNat * 4)).off + 2, none⟩ = some (.int .i64 (rd_T49 xs i).f2) ∧ w.cell? ⟨(ad.add (i.toNat * 4)).block, (ad.add (i.toNat * 4)).off + 3, none⟩ = some (.int .i64 (rd_T49 xs i).f3) := by
 obtain ⟨ad, c, e, _, hK, hc0⟩ := Kd.C_get h z49 i h0 h1
 have hc : ∀ j u, c[j]? = some u → w.cell? (ad.add (i.toNat * 4 + j)) = some u := hc0
 obtain rfl := k49_open hK
 exact ⟨ad, e, hc 0 _ rfl, by rw [← add_field _ _ 1 (by omega)]; exact hc 1 _ rfl, by rw [← add_field _ _ 2 (by omega)]; exact hc 2 _ rfl, by rw [← add_field _ _ 3 (by omega)]; exact hc 3 _ rfl⟩
structure S75 where
 f0 : Int
 f1 : Int
 f2 : Int
 f3 : ByteArray
def z75 : S75 := ⟨(0 : Int), (0 : Int), (0 : Int), (⟨#[]⟩ : ByteArray)⟩
def k75 : Kd S75 := Kd.iso (Kd.pair (Kd.int .i64) (Kd.pair (Kd.int .i64) (Kd.pair (Kd.int .i64) Kd.string))) (fun x : S75 => (x.f0, x.f1, x.f2, x.f3))
theorem k75_open {w : World} {x : S75} {cs : List Value} (h : k75.K w x cs) : cs = [.int .i64 x.f0, .int .i64 x.f1, .int .i64 x.f2, .string x.f3] := by
 obtain ⟨_, _, rfl, rfl, ⟨_, _, rfl, rfl, ⟨_, _, rfl, rfl, rfl⟩⟩⟩ := h
 exact rfl
theorem k75_mkM (w : World) (base : Nat) (ok : Nat → Prop) (x : S75)  : k75.M w base ok x [.int .i64 x.f0, .int .i64 x.f1, .int .i64 x.f2, .string x.f3] := ⟨[.int .i64 x.f0], [.int .i64 x.f1, .int .i64 x.f2, .string x.f3], rfl, rfl, ⟨[.int .i64 x.f1], [.int .i64 x.f2, .string x.f3], rfl, rfl, ⟨[.int .i64 x.f2], [.string x.f3], rfl, rfl, rfl⟩⟩⟩
def rd_T75 (xs : List S75) (i : Int) : S75 := xs.getD i.toNat z75
theorem at_T75 {w : World} {A : Option Addr} {n : Nat} {xs : List S75} (h : Kd.C k75 w A n xs) (i : Int) (h0 : 0 ≤ i) (h1 : i < n) : ∃ ad , A = some ad ∧ w.cell? (ad.add (i.toNat * 4)) = some (.int .i64 (rd_T75 xs i).f0) ∧ w.cell? ⟨(ad.add (i.toNat * 4)).block, (ad.add (i.toNat * 4)).off + 1, none⟩ = some (.int .i64 (rd_T75 xs i).f1) ∧ w.cell? ⟨(ad.add (i.toNat * 4)).block, (ad.add (i.toNat * 4)).off + 2, none⟩ = some (.int .i64 (rd_T75 xs i).f2) ∧ w.cell? ⟨(ad.add (i.toNat * 4)).block, (ad.add (i.toNat * 4)).off + 3, none⟩ = some (.string (rd_T75 xs i).f3) := by
 obtain ⟨ad, c, e, _, hK, hc0⟩ := Kd.C_get h z75 i h0 h1
 have hc : ∀ j u, c[j]? = some u → w.cell? (ad.add (i.toNat * 4 + j)) = some u := hc0
 obtain rfl := k75_open hK
 exact ⟨ad, e, hc 0 _ rfl, by rw [← add_field _ _ 1 (by omega)]; exact hc 1 _ rfl, by rw [← add_field _ _ 2 (by omega)]; exact hc 2 _ rfl, by rw [← add_field _ _ 3 (by omega)]; exact hc 3 _ rfl⟩
end Go.Proofs.YtkgmempifggajaaGreatDoor.P
/- Small words on worlds: what has changed between two of them, and what is read the same in both. -/
namespace Go.Proofs.YtkgmempifggajaaGreatDoor.P
open Go.RowKit Go.Proofs.YtkgmempifggajaaGreatDoorW.PrintWords Go.Proofs.YtkgmempifggajaaGreatDoorW.PrintLast Go.Proofs.YtkgmempifggajaaGreatDoorW.PrintMore
set_option linter.unusedVariables false
abbrev Fm := S24
abbrev kFm := k24
abbrev Tok := S75
abbrev kTok := k75
abbrev Fact := S49
abbrev kFact := k49
structure Same (S : Nat → Prop) (w w' : World) : Prop where
 os : w'.os = w.os
 tape : w'.tape = w.tape
 output : w'.output = w.output
 size : w.heap.size ≤ w'.heap.size
 block : ∀ k, k < w.heap.size → ¬ S k → w'.heap[k]? = w.heap[k]?
namespace Same
variable {S S' : Nat → Prop} {w w1 w2 : World}
theorem refl (S : Nat → Prop) (w : World) : Same S w w := ⟨rfl, rfl, rfl, Nat.le_refl _, fun _ _ _ => rfl⟩
theorem trans (h : Same S w w1) (k : Same S w1 w2) : Same S w w2 :=
 ⟨k.os.trans h.os, k.tape.trans h.tape, k.output.trans h.output, Nat.le_trans h.size k.size, fun i hi hs => (k.block i (Nat.lt_of_lt_of_le hi h.size) hs).trans (h.block i hi hs)⟩
theorem mono (h : Same S w w1) (hs : ∀ k, k < w.heap.size → S k → S' k) : Same S' w w1 :=
 ⟨h.os, h.tape, h.output, h.size, fun i hi hn => h.block i hi (fun hS => hn (hs i hi hS))⟩
theorem of_below (h : Below w.heap.size w w1) : Same S w w1 := ⟨h.os, h.tape, h.output, h.size, fun i hi _ => h.block i hi⟩
theorem drew (h : Same S w w1) : Same S w w1.drew := ⟨h.os, h.tape, h.output, h.size, h.block⟩
theorem drewN (h : Same S w w1) (n : Nat) : Same S w (w1.drewN n) := ⟨h.os, h.tape, h.output, h.size, h.block⟩
theorem alloc (h : Same S w w1) (o : Obj) : Same S w (w1.alloc o) :=
 h.trans (of_below ((Below.refl _ _).alloc (Nat.le_refl _) o))
theorem setCell (h : Same S w w1) {p : Addr} (hp : S p.block) (u : Value) : Same S w (w1.setCell p u) :=
 ⟨h.os, h.tape, h.output, by simpa [World.setCell] using h.size, fun i hi hn => (Below.heap_setCell _ _ _ _ (fun e => hn (by rw [e]; exact hp))).trans (h.block i hi hn)⟩
theorem setNew (h : Same S w w1) {p : Addr} (hp : w.heap.size ≤ p.block) (u : Value) : Same S w (w1.setCell p u) :=
 ⟨h.os, h.tape, h.output, by simpa [World.setCell] using h.size, fun i hi hn => (Below.heap_setCell _ _ _ _ (by omega)).trans (h.block i hi hn)⟩
theorem below (h : Same S w w1) (hs : ∀ k, S k → w.heap.size ≤ k) : Below w.heap.size w w1 :=
 ⟨h.os, h.tape, h.output, h.size, fun k hk => h.block k hk (fun hS => by have := hs k hS; omega)⟩
theorem then_ {S2 : Nat → Prop} (h : Same S w w1) (k : Same S2 w1 w2) (hs : ∀ i, i < w.heap.size → S2 i → S i) : Same S w w2 :=
 ⟨k.os.trans h.os, k.tape.trans h.tape, k.output.trans h.output, Nat.le_trans h.size k.size, fun i hi hn => (k.block i (Nat.lt_of_lt_of_le hi h.size) (fun h2 => hn (hs i hi h2))).trans (h.block i hi hn)⟩
theorem at_ (h : Same S w w1) {b : Nat} {o : Obj} (hb : w.heap[b]? = some o) (hs : ¬ S b) : w1.heap[b]? = some o := (h.block b (lt_of_block hb) hs).trans hb
theorem below0 (h : Same (fun _ => False) w w1) : Below w.heap.size w w1 := h.below (fun _ hk => hk.elim)
theorem thenB (h : Same S w w1) (k : Below w1.heap.size w1 w2) : Same S w w2 := h.trans (of_below k)
end Same
theorem F_same {α : Type} {d : Kd α} {w w1 : World} {ok S : Nat → Prop} {A : Option Addr} {n : Nat} {xs : List α} (h : Kd.F d w ok A n xs) (hs : Same S w w1) (hok : ∀ k, ok k → ¬ S k) : Kd.F d w1 ok A n xs :=
 Kd.F_step h (fun k hk hlt => hs.block k hlt (hok k hk))
theorem blk_alloc_old {w : World} {b : Nat} {o : Obj} (h : w.heap[b]? = some o) (o' : Obj) : (w.alloc o').heap[b]? = some o := (Below.heap_alloc w o' b (lt_of_block h)).trans h
theorem blk_drew_old {w : World} {b : Nat} {o : Obj} (h : w.heap[b]? = some o) : w.drew.heap[b]? = some o := h
theorem blk_drewN_old {w : World} {b : Nat} {o : Obj} (h : w.heap[b]? = some o) (n : Nat) : (w.drewN n).heap[b]? = some o := h
theorem blk_set_other {w : World} {b : Nat} {o : Obj} (h : w.heap[b]? = some o) {p : Addr} (hp : b ≠ p.block) (u : Value) : (w.setCell p u).heap[b]? = some o := (Below.heap_setCell w p u b hp).trans h
theorem blk_at (w : World) (o : Obj) (i : Nat) : (w.alloc o).heap[i]? = if i = w.heap.size then some o else w.heap[i]? := by
 show (w.heap.push o)[i]? = _
 rw [Array.getElem?_push]
theorem blk_new (w : World) (o : Obj) {n : Nat} (h : n = w.heap.size) : (w.alloc o).heap[n]? = some o := by rw [h, blk_at, if_pos rfl]
theorem cells_int {a b : Int} {k : IntKind} {t : TypeId} (h : a = b) : some (Obj.cells #[.int k a] t (0, 0)) = some (Obj.cells #[.int k b] t (0, 0)) := by rw [h]
theorem mx_eq (a b : Int) : mx a b = max a b := by unfold mx; split <;> omega
end Go.Proofs.YtkgmempifggajaaGreatDoor.P
/- Formulas as plain Lean data: size, depth. -/
namespace Go.Proofs.YtkgmempifggajaaGreatDoor.P
set_option linter.unusedVariables false
mutual
def size : Fm → Nat
 | ⟨_, _, _, _, kids⟩ => 1 + sizes kids
def sizes : List Fm → Nat
 | [] => 0
 | k :: ks => size k + sizes ks
end
mutual
def depth : Fm → Nat
 | ⟨_, _, _, _, kids⟩ => 1 + depths kids
def depths : List Fm → Nat
 | [] => 0
 | k :: ks => max (depth k) (depths ks)
end
theorem size_eq (x : Fm) : size x = 1 + sizes x.f4 := by cases x; simp [size]
theorem depth_eq (x : Fm) : depth x = 1 + depths x.f4 := by cases x; simp [depth]
theorem size_pos (x : Fm) : 1 ≤ size x := by rw [size_eq]; omega
theorem sizes_append (l m : List Fm) : sizes (l ++ m) = sizes l + sizes m := by
 induction l with
 | nil => simp [sizes]
 | cons a l ih => simp [sizes, ih]; omega
theorem depths_append (l m : List Fm) : depths (l ++ m) = max (depths l) (depths m) := by
 induction l with
 | nil => simp [depths]
 | cons a l ih => simp [depths, ih, Nat.max_assoc]
theorem take_snoc_ {α : Type} (l : List α) (k : Nat) (h : k < l.length) : l.take (k + 1) = l.take k ++ [l[k]] := List.take_succ_eq_append_getElem h
theorem sizes_snoc (l : List Fm) (k : Nat) (h : k < l.length) : sizes (l.take (k + 1)) = sizes (l.take k) + size l[k] := by
 rw [take_snoc_ l k h, sizes_append]; simp [sizes]
theorem depths_snoc (l : List Fm) (k : Nat) (h : k < l.length) : depths (l.take (k + 1)) = max (depths (l.take k)) (depth l[k]) := by
 rw [take_snoc_ l k h, depths_append]; simp [depths]
theorem sizes_take_le (l : List Fm) (k : Nat) : sizes (l.take k) ≤ sizes l := by
 conv => rhs; rw [← List.take_append_drop k l]
 rw [sizes_append]; omega
theorem size_mem (l : List Fm) (k : Nat) (h : k < l.length) : size l[k] ≤ sizes l := by
 have := sizes_snoc l k h; have := sizes_take_le l (k + 1); omega
theorem depths_take_le (l : List Fm) (k : Nat) : depths (l.take k) ≤ depths l := by
 conv => rhs; rw [← List.take_append_drop k l]
 rw [depths_append]; omega
mutual
theorem depth_le_size : ∀ x : Fm, depth x ≤ size x
 | ⟨_, _, _, _, kids⟩ => by have := depths_le_sizes kids; simp only [depth, size]; omega
theorem depths_le_sizes : ∀ l : List Fm, depths l ≤ sizes l
 | [] => by simp [depths, sizes]
 | k :: ks => by have h1 := depth_le_size k; have h2 := depths_le_sizes ks; simp only [depths, sizes]; omega
end
theorem length_le_sizes (l : List Fm) : l.length ≤ sizes l := by
 induction l with
 | nil => simp
 | cons a l ih => have := size_pos a; simp [sizes]; omega
end Go.Proofs.YtkgmempifggajaaGreatDoor.P
/- Texts and their tokens, as plain Lean functions over lists of bytes. -/
namespace Go.Proofs.YtkgmempifggajaaGreatDoor.P
set_option linter.unusedVariables false
def isLetter (c : UInt8) : Bool := (97 ≤ c && c ≤ 122) || (65 ≤ c && c ≤ 90)
def isDigit (c : UInt8) : Bool := 48 ≤ c && c ≤ 57
def isBlank (c : UInt8) : Bool := c == 32 || c == 9 || c == 10
def isWord (c : UInt8) : Bool := isLetter c || isDigit c || c == 95
def isSym (c : UInt8) : Bool := c == 59 || c == 44 || c == 46 || c == 58 || c == 40 || c == 41 || c == 91 || c == 93 || c == 123 || c == 125 || c == 61 || c == 43 || c == 45
def cls (c : UInt8) : Nat :=
 if isLetter c then 3 else if isDigit c then 4 else if c == 95 then 5 else if isBlank c then 1 else if c == 35 then 2 else if c == 34 then 6
 else if c == 33 then 7 else if c == 60 || c == 62 then 8 else if isSym c then 9 else 0
def skip : Bool → List UInt8 → List UInt8
 | _, [] => []
 | false, c :: l => if isBlank c then skip false l else if c == 35 then skip true l else c :: l
 | true, c :: l => if c == 10 then skip false l else skip true l
def numOf (l : List UInt8) : Nat := l.foldl (fun n c => 10 * n + (c.toNat - 48)) 0
structure Tk where
 kind : Nat
 text : List UInt8
 n : Nat
 width : Nat
def token : List UInt8 → Except Nat Tk
 | [] => .error 3
 | c :: l =>
  if isLetter c then
   let t := c :: l.takeWhile isWord
   if t.length > 24 then .error 2 else .ok ⟨1, t, 0, t.length⟩
  else if isDigit c then
   let t := c :: l.takeWhile isDigit
   if t.length > 13 then .error 4
   else match l.dropWhile isDigit with
    | [] => .ok ⟨2, t, numOf t, t.length⟩
    | a :: _ => if isLetter a || a == 95 then .error 4 else .ok ⟨2, t, numOf t, t.length⟩
  else if c == 34 then
   let t := l.takeWhile (fun a => !(a == 34 || a == 10))
   match l.dropWhile (fun a => !(a == 34 || a == 10)) with
   | [] => .error 6
   | a :: _ => if a == 10 then .error 6 else if t.length > 400 then .error 2 else .ok ⟨3, t, 0, t.length + 2⟩
  else if (c == 33 || c == 60 || c == 62) && l.head? == some 61 then .ok ⟨4, [c, 61], 0, 2⟩
  else if c == 60 || c == 62 || isSym c then .ok ⟨4, [c], 0, 1⟩
  else .error 3
def lexs : Nat → List UInt8 → Nat → Nat → Except (Nat × Nat) (List Tok)
 | 0, _, _, _ => .ok []
 | f + 1, l, at_, cnt =>
  let m := skip false l
  let p := at_ + (l.length - m.length)
  if m.isEmpty then .ok []
  else match token m with
   | .error e => .error (e, p)
   | .ok t =>
    if cnt == 5000 then .error (2, p)
    else match lexs f (m.drop t.width) (p + t.width) (cnt + 1) with
     | .error e => .error e
     | .ok r => .ok (⟨(t.kind : Int), (p : Int), (t.n : Int), ⟨t.text.toArray⟩⟩ :: r)
def lex (l : List UInt8) : List Tok × Int × Int :=
 if l.length > 20000 then ([], 2, -1)
 else match lexs (l.length + 1) l 0 0 with
  | .error (e, p) => ([], (e : Int), (p : Int))
  | .ok r => (r, 0, 0)
end Go.Proofs.YtkgmempifggajaaGreatDoor.P
/- lexer's (*scanner).at, while: the class of a byte; the end of a run of bytes. -/
namespace Go.Proofs.YtkgmempifggajaaGreatDoor.P
open Go.RowKit Go.Proofs.YtkgmempifggajaaGreatDoorW.PrintWords Go.Proofs.YtkgmempifggajaaGreatDoorW.PrintLast Go.Proofs.YtkgmempifggajaaGreatDoorW.PrintMore
set_option linter.unusedVariables false
structure IsScan (w : World) (b : Nat) (s : ByteArray) : Prop where
 text : w.cell? ⟨b, 0, none⟩ = some (.string s)
 cl : ∀ c : UInt8, w.cell? ⟨b, 1 + c.toNat, none⟩ = some (.int .i64 (cls c))
 size : s.size ≤ 20000
theorem IsScan.lt {w : World} {b : Nat} {s : ByteArray} (h : IsScan w b s) : b < w.heap.size := World.block_lt_of_cell? w ⟨b, 0, none⟩ h.text
theorem IsScan.below {w w1 : World} {b : Nat} {s : ByteArray} (h : IsScan w b s) (hb : Below w.heap.size w w1) : IsScan w1 b s :=
 ⟨pw_cell_below hb h.text, fun c => pw_cell_below hb (h.cl c), h.size⟩
def clsAt (s : ByteArray) (i : Int) : Int := if h : i.toNat < s.size then (cls s[i.toNat] : Int) else 0
theorem at_out (s : ByteArray) (b : Nat) (i : Int) (w : World) (h : IsScan w b s) (h0 : 0 ≤ i) (h1 : (s.size : Int) ≤ i) :
  Calls Tryz.prog 97 #[.pointer (some ⟨b, 0, none⟩), .int .i64 i] w fun e w' => e = .returned (.int .i64 0) ∧ Drawn0 w w' := by
 have ht := h.text
 have hs := h.size
 go_enter Tryz.func97, Tryz.ntmps97
 go_wp2
 go_ret
 exact ⟨rfl, Drawn0.refl _⟩
set_option maxRecDepth 100000 in
theorem at_in (s : ByteArray) (b : Nat) (i : Nat) (w : World) (h : IsScan w b s) (h1 : i < s.size) :
  Calls Tryz.prog 97 #[.pointer (some ⟨b, 0, none⟩), .int .i64 i] w fun e w' => e = .returned (.int .i64 (cls s[i])) ∧ Drawn0 w w' := by
 have ht := h.text
 have hs := h.size
 have hc := h.cl s[i]
 have hb : (s[i].toNat : Int) < 256 := by have := s[i].toNat_lt; omega
 have hb' : s[i].toNat < 256 := by have := s[i].toNat_lt; omega
 go_enter Tryz.func97, Tryz.ntmps97
 go_wp2
 go_quiet (fail)
 go_wp2
 go_ret
 exact ⟨rfl, (Drawn0.refl _).step _⟩
theorem at_calls (s : ByteArray) (b : Nat) (i : Int) (w : World) (h : IsScan w b s) (h0 : 0 ≤ i) :
  Calls Tryz.prog 97 #[.pointer (some ⟨b, 0, none⟩), .int .i64 i] w fun e w' => e = .returned (.int .i64 (clsAt s i)) ∧ Drawn0 w w' := by
 obtain ⟨n, rfl⟩ := Int.eq_ofNat_of_zero_le h0
 by_cases hn : n < s.size
 ·simpa [clsAt, hn] using at_in s b n w h hn
 ·simpa [clsAt, hn] using at_out s b n w h h0 (by omega)
end Go.Proofs.YtkgmempifggajaaGreatDoor.P
/- slices.Index and slices.Contains at whole numbers and at strings. -/
namespace Go.Proofs.YtkgmempifggajaaGreatDoor.P
open Go.RowKit Go.Proofs.YtkgmempifggajaaGreatDoorW.PrintWords Go.Proofs.YtkgmempifggajaaGreatDoorW.PrintLast Go.Proofs.YtkgmempifggajaaGreatDoorW.PrintMore
set_option linter.unusedVariables false
def idxBy {α : Type} (p : α → Bool) : List α → Int
 | [] => -1
 | a :: l => if p a then 0 else if idxBy p l = -1 then -1 else idxBy p l + 1
theorem idxBy_ge {α : Type} (p : α → Bool) (l : List α) : -1 ≤ idxBy p l := by
 induction l with
 | nil => simp [idxBy]
 | cons a l ih => unfold idxBy; split <;> first | omega | (split <;> omega)
theorem idxBy_hit {α : Type} {p : α → Bool} : ∀ {l : List α} {k : Nat} (hk : k < l.length), (∀ j (hj : j < k), p (l[j]'(by omega)) = false) → p l[k] = true → idxBy p l = k
 | [], k, hk, _, _ => absurd hk (by simp)
 | a :: l, 0, _, _, h => by simp at h; simp [idxBy, h]
 | a :: l, k + 1, hk, hn, h => by
  have h0 := hn 0 (by omega)
  simp at h0 h hk
  have ih := idxBy_hit (l := l) (k := k) hk (fun j hj => by have := hn (j + 1) (by omega); simpa using this) h
  simp [idxBy, h0, ih] <;> omega
theorem idxBy_none {α : Type} {p : α → Bool} : ∀ {l : List α}, (∀ j (hj : j < l.length), p l[j] = false) → idxBy p l = -1
 | [], _ => rfl
 | a :: l, h => by
  have h0 := h 0 (by simp)
  simp at h0
  have ih := idxBy_none (l := l) (fun j hj => by have := h (j + 1) (by simpa using hj); simpa using this)
  simp [idxBy, h0, ih]
theorem idxBy_any {α : Type} (p : α → Bool) (l : List α) : decide (0 ≤ idxBy p l) = l.any p := by
 induction l with
 | nil => simp [idxBy]
 | cons a l ih =>
  have := idxBy_ge p l
  unfold idxBy
  by_cases h : p a
  ·simp [h]
  ·simp only [h, Bool.false_eq_true, if_false, List.any_cons, Bool.false_or]
   rw [← ih]
   split
   ·rename_i h2; simp [h2]
   ·rename_i h2
    by_cases h3 : 0 ≤ idxBy p l
    ·simp [h3] <;> omega
    ·exact absurd (by omega : idxBy p l = -1) h2
theorem scal_at {α : Type} {enc : α → Value} {h1 : ∀ x, (enc x).oneCell' = true} {w : World} {A : Option Addr} {n : Nat} {xs : List α} (h : Kd.C (Kd.scalar enc h1) w A n xs) (k : Nat) (hk : k < xs.length) : ∃ ad, A = some ad ∧ w.cell? (ad.add k) = some (enc xs[k]) := by
 have hl : xs.length = n := h.1
 obtain ⟨ad, cs, e, _, hK, hc⟩ := Kd.C_get h xs[k] (k : Int) (by omega) (by omega)
 have hx : xs.getD (k : Int).toNat xs[k] = xs[k] := by simp [List.getD_eq_getElem?_getD, List.getElem?_eq_getElem hk]
 rw [hx] at hK
 have hK' : cs = [enc xs[k]] := hK
 subst hK'
 refine ⟨ad, e, ?_⟩
 have := hc 0 _ rfl
 simpa [Kd.scalar] using this
theorem index_int (l : List Int) (A : Option Addr) (c : Nat) (v : Int) (w : World) (hC : Kd.C (Kd.int .i64) w A l.length l) :
  Calls Tryz.prog 127 #[.slice A l.length c, .int .i64 v] w fun e w' => e = .returned (.int .i64 (idxBy (fun a => v == a) l)) ∧ w = w' := by
 have hm : l.length ≤ 9223372036854775807 := hC.2.1
 have HC := Aside0.mk hC
 clear hC
 go_enter Tryz.func127, Tryz.ntmps127
 go_wp2
 go_loop [8] (fun i => ∃ k : Nat, k ≤ l.length ∧ i = .int .i64 k ∧ Aside0 (∀ j (hj : j < k) (hl : j < l.length), (v == l[j]) = false)) (fun i => l.length - (intOf i).toNat)
 case atStart => exact ⟨0, Nat.zero_le _, rfl, ⟨fun j hj => absurd hj (by omega)⟩⟩
 case round =>
  obtain ⟨k, hk, rfl, HN⟩ := hrel
  by_cases hlt : k < l.length
  ·obtain ⟨ad, rfl, hc⟩ := scal_at HC.out k hlt
   cases hv : v == l[k]
   ·go_wp2
    go_round
    case rel => exact ⟨k + 1, by omega, by go_num, ⟨fun j hj hl => by
     by_cases e : j = k
     ·subst e; exact hv
     ·exact HN.out j (by omega) hl⟩⟩
    case measure => simp [intOf]; omega
   ·go_wp2
    go_ret
    exact ⟨by rw [idxBy_hit hlt (fun j hj => HN.out j hj (by omega)) hv]; rfl, rfl⟩
  ·obtain rfl : k = l.length := by omega
   go_wp2
   go_ret
   exact ⟨by rw [idxBy_none (fun j hj => HN.out j hj hj)]; rfl, rfl⟩
theorem contains_int (l : List Int) (A : Option Addr) (c : Nat) (v : Int) (w : World) (hC : Kd.C (Kd.int .i64) w A l.length l) :
  Calls Tryz.prog 111 #[.slice A l.length c, .int .i64 v] w fun e w' => e = .returned (.bool (l.any (fun a => v == a))) ∧ w = w' := by
 have HC := Aside0.mk hC
 clear hC
 go_enter Tryz.func111, Tryz.ntmps111
 go_wp2_with (refine (index_int l A c v w HC.out).mono ?_; rintro e w' ⟨rfl, rfl⟩)
 go_ret
 exact ⟨by rw [← idxBy_any]; rfl, rfl⟩
theorem index_str (l : List ByteArray) (A : Option Addr) (c : Nat) (v : ByteArray) (w : World) (hC : Kd.C Kd.string w A l.length l) :
  Calls Tryz.prog 89 #[.slice A l.length c, .string v] w fun e w' => e = .returned (.int .i64 (idxBy (fun a => v.toList == a.toList) l)) ∧ w = w' := by
 have hm : l.length ≤ 9223372036854775807 := hC.2.1
 have HC := Aside0.mk hC
 clear hC
 go_enter Tryz.func89, Tryz.ntmps89
 go_wp2
 go_loop [8] (fun i => ∃ k : Nat, k ≤ l.length ∧ i = .int .i64 k ∧ Aside0 (∀ j (hj : j < k) (hl : j < l.length), (v.toList == l[j].toList) = false)) (fun i => l.length - (intOf i).toNat)
 case atStart => exact ⟨0, Nat.zero_le _, rfl, ⟨fun j hj => absurd hj (by omega)⟩⟩
 case round =>
  obtain ⟨k, hk, rfl, HN⟩ := hrel
  by_cases hlt : k < l.length
  ·obtain ⟨ad, rfl, hc⟩ := scal_at HC.out k hlt
   cases hv : v.toList == l[k].toList
   ·go_wp2
    go_round
    case rel => exact ⟨k + 1, by omega, by go_num, ⟨fun j hj hl => by
     by_cases e : j = k
     ·subst e; exact hv
     ·exact HN.out j (by omega) hl⟩⟩
    case measure => simp [intOf]; omega
   ·go_wp2
    go_ret
    exact ⟨by rw [idxBy_hit hlt (fun j hj => HN.out j hj (by omega)) hv]; rfl, rfl⟩
  ·obtain rfl : k = l.length := by omega
   go_wp2
   go_ret
   exact ⟨by rw [idxBy_none (fun j hj => HN.out j hj hj)]; rfl, rfl⟩
theorem contains_str (l : List ByteArray) (A : Option Addr) (c : Nat) (v : ByteArray) (w : World) (hC : Kd.C Kd.string w A l.length l) :
  Calls Tryz.prog 71 #[.slice A l.length c, .string v] w fun e w' => e = .returned (.bool (l.any (fun a => v.toList == a.toList))) ∧ w = w' := by
 have HC := Aside0.mk hC
 clear hC
 go_enter Tryz.func71, Tryz.ntmps71
 go_wp2_with (refine (index_str l A c v w HC.out).mono ?_; rintro e w' ⟨rfl, rfl⟩)
 go_ret
 exact ⟨by rw [← idxBy_any]; rfl, rfl⟩
end Go.Proofs.YtkgmempifggajaaGreatDoor.P
/- lexer's (*scanner).while: the end of a run of bytes of some classes. -/
namespace Go.Proofs.YtkgmempifggajaaGreatDoor.P
open Go.RowKit Go.Proofs.YtkgmempifggajaaGreatDoorW.PrintWords Go.Proofs.YtkgmempifggajaaGreatDoorW.PrintLast Go.Proofs.YtkgmempifggajaaGreatDoorW.PrintMore
set_option linter.unusedVariables false
set_option linter.unusedSimpArgs false
def endOf (p : UInt8 → Bool) (s : ByteArray) (i : Nat) : Nat := i + ((s.data.toList.drop i).takeWhile p).length
theorem takeWhile_len {α : Type} (p : α → Bool) : ∀ (l : List α) (m : Nat), m ≤ l.length → (∀ j (hj : j < m) (hl : j < l.length), p l[j] = true) → (∀ h : m < l.length, p l[m] = false) → (l.takeWhile p).length = m
 | [], m, hm, _, _ => by simp at hm; simp [hm]
 | a :: l, 0, _, _, h => by have := h (by simp); simp at this; simp [List.takeWhile_cons, this]
 | a :: l, m + 1, hm, ha, h => by
  have h0 := ha 0 (by omega) (by simp)
  simp at h0
  have := takeWhile_len p l m (by simpa using hm) (fun j hj hl => by have := ha (j + 1) (by omega) (by simpa using hl); simpa using this) (fun hl => by have := h (by simpa using hl); simpa using this)
  simp [List.takeWhile_cons, h0, this]
theorem endOf_eq {p : UInt8 → Bool} {s : ByteArray} {i k : Nat} (hi : i ≤ k) (hk : k ≤ s.size) (h : ∀ j (hj : i ≤ j) (hl : j < k), p s[j] = true) (he : ∀ hl : k < s.size, p s[k] = false) : endOf p s i = k := by
 have := takeWhile_len p (s.data.toList.drop i) (k - i) (by simp; omega) (fun j hj hl => by
  have := h (i + j) (by omega) (by omega)
  simpa [ByteArray.getElem_eq_getElem_data] using this) (fun hl => by
  have hl' : k < s.size := by simp at hl; omega
  have := he hl'
  have e : i + (k - i) = k := by omega
  simp only [List.getElem_drop, e]
  simpa [ByteArray.getElem_eq_getElem_data] using this)
 unfold endOf
 rw [this]
 omega
theorem endOf_ge (p : UInt8 → Bool) (s : ByteArray) (i : Nat) : i ≤ endOf p s i := by unfold endOf; omega
theorem endOf_le (p : UInt8 → Bool) (s : ByteArray) (i : Nat) (h : i ≤ s.size) : endOf p s i ≤ s.size := by
 unfold endOf
 have := (List.takeWhile_prefix (l := s.data.toList.drop i) p).length_le
 simp at this
 omega
set_option maxRecDepth 100000 in
theorem while_calls (l : List Int) (A : Option Addr) (c : Nat) (s : ByteArray) (b : Nat) (i : Nat) (w : World) (h : IsScan w b s) (hi : i ≤ s.size) (hC : Kd.C (Kd.int .i64) w A l.length l) :
  Calls Tryz.prog 96 #[.pointer (some ⟨b, 0, none⟩), .int .i64 i, .slice A l.length c] w fun e w' => e = .returned (.int .i64 (endOf (fun a => l.any (fun x => (cls a : Int) == x)) s i)) ∧ Drawn0 w w' := by
 have ht := h.text
 have hs := h.size
 have HC := Aside0.mk hC
 have HI := Aside0.mk h
 clear hC h
 go_enter Tryz.func96, Tryz.ntmps96
 go_wp2
 go_loopw [1] (fun v wr => ∃ k : Nat, i ≤ k ∧ k ≤ s.size ∧ v = .int .i64 k ∧ Aside0 (∀ j (hj : i ≤ j) (hl : j < k) (hs : j < s.size), l.any (fun x => (cls s[j] : Int) == x) = true) ∧ Aside0 (Drawn0 w wr)) (fun v _ => s.size - (intOf v).toNat)
 case atStart => exact ⟨i, Nat.le_refl _, hi, rfl, ⟨fun j h1 h2 => absurd h2 (by omega)⟩, ⟨Drawn0.refl _⟩⟩
 case round =>
  obtain ⟨k, hik, hk, rfl, HN, HD⟩ := hrel
  have hi2 := HI.out.below HD.out.below
  have ht2 := hi2.text
  have HI2 := Aside0.mk hi2
  have HC2 := Aside0.mk (Kd.C_below HC.out HD.out.below)
  clear hi2 ht
  by_cases hlt : k < s.size
  ·cases hv : l.any (fun x => (cls s[k] : Int) == x)
   all_goals
    go_wp2_with fail
    refine (at_in s b k wr HI2.out hlt).mono ?_
    rintro e w' ⟨rfl, hd⟩
    have HD3 := Aside0.mk hd
    clear hd
    go_wp2_with fail
    refine (contains_int l A c (cls s[k]) w' (Kd.C_below HC2.out HD3.out.below)).mono ?_
    rintro e w2 ⟨rfl, rfl⟩
    go_wp2
   ·go_ret
    exact ⟨by rw [endOf_eq hik hk (fun j hj hl => HN.out j hj hl (by omega)) (fun _ => hv)]; rfl, ⟨by
     obtain ⟨n, rfl⟩ := HD.out.out
     obtain ⟨m, rfl⟩ := HD3.out.out
     exact ⟨n + m, World.drewN_drewN ..⟩⟩⟩
   ·go_roundw
    case rel => exact ⟨k + 1, by omega, by omega, by go_num, ⟨fun j h1 h2 h3 => by
     by_cases e : j = k
     ·subst e; exact hv
     ·exact HN.out j h1 (by omega) h3⟩, ⟨⟨by
     obtain ⟨n, rfl⟩ := HD.out.out
     obtain ⟨m, rfl⟩ := HD3.out.out
     exact ⟨n + m, World.drewN_drewN ..⟩⟩⟩⟩
    case measure => simp [intOf]; omega
  ·obtain rfl : k = s.size := by omega
   go_wp2
   go_ret
   exact ⟨by rw [endOf_eq hik (Nat.le_refl _) (fun j hj hl => HN.out j hj hl hl) (fun hl => absurd hl (by omega))]; rfl, HD.out⟩
end Go.Proofs.YtkgmempifggajaaGreatDoor.P
/- The elements of a row of formulas, facts and tokens, as the walk reads them. -/
namespace Go.Proofs.YtkgmempifggajaaGreatDoor.P
open Go.RowKit Go.Proofs.YtkgmempifggajaaGreatDoorW.PrintWords Go.Proofs.YtkgmempifggajaaGreatDoorW.PrintLast Go.Proofs.YtkgmempifggajaaGreatDoorW.PrintMore
set_option linter.unusedVariables false
theorem fm_at {W : World} {ok : Nat → Prop} {A : Option Addr} {n : Nat} {xs : List Fm} (h : Kd.F kFm W ok A n xs) (k : Nat) (hk : k < xs.length) :
  ∃ ad A4 c4, A = some ad ∧ ok ad.block ∧ W.cell? (ad.add (k * 5)) = some (.int .i64 xs[k].f0) ∧ W.cell? ⟨(ad.add (k * 5)).block, (ad.add (k * 5)).off + 1, none⟩ = some (.string xs[k].f1) ∧
   W.cell? ⟨(ad.add (k * 5)).block, (ad.add (k * 5)).off + 2, none⟩ = some (.int .i64 xs[k].f2) ∧ W.cell? ⟨(ad.add (k * 5)).block, (ad.add (k * 5)).off + 3, none⟩ = some (.int .i64 xs[k].f3) ∧
   W.cell? ⟨(ad.add (k * 5)).block, (ad.add (k * 5)).off + 4, none⟩ = some (.slice A4 xs[k].f4.length c4) ∧ xs[k].f4.length ≤ c4 ∧ Kd.F kFm W ok A4 xs[k].f4.length xs[k].f4 := by
 have hl := Kd.F_len h
 obtain ⟨ad, cs, e, _, hK, hc0, hok⟩ := Kd.F_get h z24 (k : Int) (by omega) (by omega)
 have hx : xs.getD (k : Int).toNat z24 = xs[k] := by simp [List.getD_eq_getElem?_getD, List.getElem?_eq_getElem hk]
 rw [hx] at hK
 have hc : ∀ j u, cs[j]? = some u → W.cell? (ad.add (k * 5 + j)) = some u := hc0
 obtain ⟨A4, c4, rfl, l4, g4⟩ := k24_openF hK
 exact ⟨ad, A4, c4, e, hok (by decide), hc 0 _ rfl, by rw [← add_field _ _ 1 (by omega)]; exact hc 1 _ rfl, by rw [← add_field _ _ 2 (by omega)]; exact hc 2 _ rfl, by rw [← add_field _ _ 3 (by omega)]; exact hc 3 _ rfl, by rw [← add_field _ _ 4 (by omega)]; exact hc 4 _ rfl, l4, g4⟩
end Go.Proofs.YtkgmempifggajaaGreatDoor.P
/- formula.Size and formula.large: the number of nodes and the depth. -/
namespace Go.Proofs.YtkgmempifggajaaGreatDoor.P
open Go.RowKit Go.Proofs.YtkgmempifggajaaGreatDoorW.PrintWords Go.Proofs.YtkgmempifggajaaGreatDoorW.PrintLast Go.Proofs.YtkgmempifggajaaGreatDoorW.PrintMore
attribute [local go_sem] max2_int min2_int
set_option linter.unusedVariables false
def SizePost (x : Fm) (n d level : Int) (bn bd : Nat) (w : World) (e : Ending) (w' : World) : Prop :=
 e = .returned (.tuple #[]) ∧ w'.heap[bn]? = some (.cells #[.int .i64 (n + size x)] 3 (0, 0)) ∧ w'.heap[bd]? = some (.cells #[.int .i64 (mx d (level + (depth x - 1)))] 3 (0, 0)) ∧ Same (fun k => k = bn ∨ k = bd) w w'
set_option maxHeartbeats 400000 in
theorem visit_calls (N : Nat) : ∀ (x : Fm) (A : Option Addr) (c : Nat) (w : World) (ok : Nat → Prop) (n d : Int) (bn bd bv : Nat) (level : Int),
  size x ≤ N → Kd.F kFm w ok A x.f4.length x.f4 → x.f4.length ≤ c → (∀ k, ok k → k ≠ bn ∧ k ≠ bd ∧ k ≠ bv) →
  w.heap[bn]? = some (.cells #[.int .i64 n] 3 (0, 0)) → w.heap[bd]? = some (.cells #[.int .i64 d] 3 (0, 0)) →
  w.heap[bv]? = some (.cells #[.func (.func 36) #[] #[.pointer (some ⟨bn, 0, none⟩), .pointer (some ⟨bd, 0, none⟩), .pointer (some ⟨bv, 0, none⟩)]] 58 (0, 0)) →
  bn ≠ bd → bn ≠ bv → bd ≠ bv → 0 ≤ n → n + size x ≤ 1000000000 → 0 ≤ d → d ≤ 1000000000 → 0 ≤ level → level + size x ≤ 1000000000 →
  Calls Tryz.prog 36 #[.agg #[.int .i64 x.f0, .string x.f1, .int .i64 x.f2, .int .i64 x.f3, .slice A x.f4.length c], .int .i64 level, .pointer (some ⟨bn, 0, none⟩), .pointer (some ⟨bd, 0, none⟩), .pointer (some ⟨bv, 0, none⟩)] w (SizePost x n d level bn bd w) := by
 induction N with
 | zero => intro x; intros; have := size_pos x; omega
 | succ N ih =>
 intro x A c w ok n d bn bd bv level hN hF hc hok hn hd hv hnd hnv hdv hn0 hn1 hd0 hd1 hl0 hl1
 have hs := size_eq x
 have hcn := cell_of_one hn
 have hcd := cell_of_one hd
 have hfn := free_of_one hn
 have hfd := free_of_one hd
 have hln := lt_of_block hn
 have hld := lt_of_block hd
 have hlv := lt_of_block hv
 have hnd' := hnd.symm
 have hlen := length_le_sizes x.f4
 have hlb : x.f4.length ≤ 1000000000 := by omega
 have hS := Aside0.mk hs
 have HF := Aside0.mk hF
 have HN := Aside0.mk hn
 have HD := Aside0.mk hd
 have HV := Aside0.mk hv
 have HOK := Aside0.mk hok
 clear hs hF hn hd hv hok
 go_enter Tryz.func36, Tryz.ntmps36
 go_wp2
 go_region
 rw [show (if d < level then level else d) = mx d level from rfl]
 go_wp2
 go_loopw [17] (fun i wr => ∃ k : Nat, k ≤ x.f4.length ∧ i = .int .i64 k ∧ Aside0 (wr.heap[bn]? = some (.cells #[.int .i64 (n + 1 + sizes (x.f4.take k))] 3 (0, 0))) ∧ Aside0 (wr.heap[bd]? = some (.cells #[.int .i64 (mx d (level + depths (x.f4.take k)))] 3 (0, 0))) ∧ Aside0 (Same (fun k => k = bn ∨ k = bd) w wr)) (fun i _ => x.f4.length - (intOf i).toNat)
 case atStart =>
  refine ⟨0, Nat.zero_le _, rfl, ⟨?_⟩, ⟨?_⟩, ⟨?_⟩⟩
  ·exact blk_drew_old (blk_alloc_old (blk_set_other (by simpa [sizes] using one_setCell HN.out) hnd _) _)
  ·exact blk_drew_old (blk_alloc_old (by simpa [depths] using one_setCell (blk_set_other HD.out hnd' _)) _)
  ·exact ((((Same.refl _ _).setCell (.inl rfl) _).setCell (.inr rfl) _).alloc _).drew
 case round =>
  obtain ⟨k, hk, rfl, HN', HD', HS'⟩ := hrel
  have hsk := sizes_take_le x.f4 k
  have hss := hS.out
  have hdp := depths_take_le x.f4 k
  have hdl := depths_le_sizes x.f4
  by_cases hlt : k < x.f4.length
  ·obtain ⟨ad, A4, c4, rfl, hb, k0, k1, k2, k3, k4, l4, F4⟩ := fm_at (F_same HF.out HS'.out (fun i hi => by have := HOK.out i hi; omega)) k hlt
   have F4' := Aside0.mk F4
   have hsz := size_mem x.f4 k hlt
   have hsn := sizes_snoc x.f4 k hlt
   have hsl := sizes_take_le x.f4 (k + 1)
   clear F4
   have hv2 := HS'.out.at_ HV.out (by omega)
   have HV2 := Aside0.mk hv2
   have hcv := cell_of_one hv2
   have hlv2 := lt_of_block hv2
   clear hv2
   have HI := Aside0.mk ih
   have HX := Aside0.mk hsn
   clear ih hss hsn
   go_wp2_with fail
   refine (HI.out x.f4[k] A4 c4 _ ok (n + 1 + sizes (x.f4.take k)) (mx d (level + depths (x.f4.take k))) bn bd bv (level + 1) (by have := hS.out; omega) (Kd.F_alloc F4'.out _) l4 HOK.out (blk_alloc_old HN'.out _) (blk_alloc_old HD'.out _) (blk_alloc_old HV2.out _) hnd hnv hdv (by omega) (by have := hS.out; have := HX.out; omega) (by unfold mx; split <;> omega) (by have := hS.out; unfold mx; split <;> omega) (by omega) (by have := hS.out; omega)).mono ?_
   rintro e w' ⟨rfl, h1, h2, h3⟩
   have H1 := Aside0.mk h1
   have H2 := Aside0.mk h2
   have H3 := Aside0.mk h3
   clear h1 h2 h3
   go_wp2
   go_roundw
   case rel =>
    refine ⟨k + 1, by omega, by go_num, ⟨?_⟩, ⟨?_⟩, ⟨?_⟩⟩
    ·exact H1.out.trans (cells_int (by have := HX.out; omega))
    ·refine H2.out.trans (cells_int ?_)
     have := depth_eq x.f4[k]
     rw [depths_snoc _ _ hlt]
     simp only [mx_eq]
     omega
    ·exact HS'.out.then_ (((Same.refl _ _).alloc _).trans H3.out) (fun _ _ h => h)
   case measure => simp [intOf]; omega
  ·obtain rfl : k = x.f4.length := by omega
   go_wp2
   go_end0
   have := depth_eq x
   refine ⟨rfl, ?_, ?_, HS'.out⟩
   ·refine HN'.out.trans (cells_int ?_)
    rw [List.take_length]
    omega
   ·refine HD'.out.trans (cells_int ?_)
    rw [List.take_length, this]
    simp only [mx_eq]
    omega
theorem Size_calls (x : Fm) (A : Option Addr) (c : Nat) (w : World) (hC : Kd.C kFm w A x.f4.length x.f4) (hc : x.f4.length ≤ c) (hs : size x ≤ 100000000) :
  Calls Tryz.prog 16 #[.agg #[.int .i64 x.f0, .string x.f1, .int .i64 x.f2, .int .i64 x.f3, .slice A x.f4.length c]] w fun e w' => e = .returned (.tuple #[.int .i64 (size x), .int .i64 (depth x)]) ∧ Below w.heap.size w w' := by
 have HF := Aside0.mk (Kd.C_F k24_heap hC)
 have HS := Aside0.mk hs
 clear hC hs
 go_enter Tryz.func16, Tryz.ntmps16
 go_wp2_with fail
 refine (visit_calls (size x) x A c _ (fun k => k < w.heap.size) 0 0 (w.heap.size + 1) (w.heap.size + 2) (w.heap.size + 3) 1 (Nat.le_refl _) ?_ hc (fun k hk => by omega) ?_ ?_ ?_ (by omega) (by omega) (by omega) (by omega) (by have := HS.out; omega) (by omega) (by omega) (by omega) (by have := HS.out; omega)).mono ?_
 ·exact Kd.F_alloc (Kd.F_alloc (Kd.F_alloc (Kd.F_alloc HF.out _) _) _) _
 ·(repeat (first | (refine blk_new _ _ ?_; first | rfl | (simp; done)) | refine blk_alloc_old ?_ _ | refine blk_drew_old ?_ | refine blk_drewN_old ?_ _ | assumption))
 ·(repeat (first | (refine blk_new _ _ ?_; first | rfl | (simp; done)) | refine blk_alloc_old ?_ _ | refine blk_drew_old ?_ | refine blk_drewN_old ?_ _ | assumption))
 ·(repeat (first | (refine blk_new _ _ ?_; first | rfl | (simp; done)) | refine blk_alloc_old ?_ _ | refine blk_drew_old ?_ | refine blk_drewN_old ?_ _ | assumption))
 rintro e w' ⟨rfl, h1, h2, h3⟩
 have hd := depth_eq x
 have hcn := (cell_of_one h1).trans (show _ = some (Value.int .i64 (size x)) by rw [Int.zero_add])
 have hcd := (cell_of_one h2).trans (show _ = some (Value.int .i64 (depth x)) by rw [mx_eq, show max 0 (1 + ((depth x : Int) - 1)) = depth x by omega])
 clear hd
 have H3 := Aside0.mk h3
 clear h1 h2 h3
 go_wp2
 go_quiet (fail)
 go_wp2
 go_ret2
 refine ⟨by rfl, (((((((Same.refl _ w).alloc _).alloc _).alloc _).alloc _).then_ H3.out (fun i hi h => by omega)).drewN _).below0⟩
end Go.Proofs.YtkgmempifggajaaGreatDoor.P
