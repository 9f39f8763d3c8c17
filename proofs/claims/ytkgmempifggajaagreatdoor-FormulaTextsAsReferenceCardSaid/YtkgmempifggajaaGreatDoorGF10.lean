/- What the statement's proof builds on: AnyA, AnyB, Any. -/
import Derived.Test.YtkgmempifggajaaGreatDoorGF8
import Derived.Laws.Runes
import Derived.Scope
/- strings.IndexRune of a quote and a line feed, at a rune that is no byte. -/
namespace Go.Proofs.YtkgmempifggajaaGreatDoor.P
open Go.RowKit Go.Proofs.YtkgmempifggajaaGreatDoorW.PrintWords Go.Proofs.YtkgmempifggajaaGreatDoorW.PrintLast Go.Proofs.YtkgmempifggajaaGreatDoorW.PrintMore
set_option linter.unusedVariables false
set_option linter.unusedSimpArgs false
theorem byte_empty (c : Int) (w : World) : Calls Tryz.prog 98 #[.string ByteArray.empty, .int .u8 c] w fun e w' => e = .returned (.int .i64 (-1)) ∧ ∃ n, w' = w.drewN n := by
 refine (Tryz.strings_IndexByte ByteArray.empty c w).mono ?_
 rintro e w' ⟨rfl, rfl⟩
 exact ⟨rfl, 0, rfl⟩
theorem quotes_next0 (w : World) (ty : TypeId) : (Instr.next (.pointer (some ⟨w.heap.size, 0, none⟩)) true ty).run Tryz.prog (w.iter ⟨#[34, 10]⟩ 0) = .ok (.tuple #[.bool true, .int .i64 0, .int .i32 34]) (w.iter ⟨#[34, 10]⟩ 1) := run_next_ascii w ⟨#[34, 10]⟩ 0 ty (by decide) (by decide)
theorem quotes_next1 (w : World) (ty : TypeId) : (Instr.next (.pointer (some ⟨w.heap.size, 0, none⟩)) true ty).run Tryz.prog (w.iter ⟨#[34, 10]⟩ 1) = .ok (.tuple #[.bool true, .int .i64 1, .int .i32 10]) (w.iter ⟨#[34, 10]⟩ 2) := run_next_ascii w ⟨#[34, 10]⟩ 1 ty (by decide) (by decide)
theorem quotes_next2 (w : World) (ty : TypeId) : (Instr.next (.pointer (some ⟨w.heap.size, 0, none⟩)) true ty).run Tryz.prog (w.iter ⟨#[34, 10]⟩ 2) = .ok (.tuple #[.bool false]) (w.iter ⟨#[34, 10]⟩ 2) := run_next_end w ⟨#[34, 10]⟩ 2 ty (by decide)
set_option maxHeartbeats 2000000 in
set_option maxRecDepth 100000 in
theorem rune_high (r : Int) (w : World) (h0 : 128 ≤ r) (h1 : r ≤ 2147483647) :
  Calls Tryz.prog 115 #[.string ⟨#[34, 10]⟩, .int .i32 r] w fun e w' => e = .returned (.int .i64 (-1)) ∧ Below w.heap.size w w' := by
 have g1 : (0 : Int) ≤ r := by omega
 have g2 : ¬ (r < 128) := by omega
 by_cases he : r = 65533
 ·have e1 : (r == 65533) = true := by simpa using he
  clear he
  go_enter Tryz.func115, Tryz.ntmps115
  have n0 := quotes_next0 w
  have n1 := quotes_next1 w
  have n2 := quotes_next2 w
  go_wp2
  refine wp_loop_rounds 3 ?_
  rw [rounds_succ]
  go_wp2
  rw [rounds_succ]
  go_wp2
  rw [rounds_succ]
  go_wp2
  go_ret
  exact ⟨rfl, below_alloc (Below.refl _ _) _⟩
 ·have e1 : (r == 65533) = false := by simpa using he
  clear he
  cases hv : Lib.validRune r
  ·go_enter Tryz.func115, Tryz.ntmps115
   go_wp2_with fail
   refine (Tryz.utf8_ValidRune r w).mono ?_
   rintro e w' ⟨rfl, rfl⟩
   rw [hv]
   go_wp2
   go_ret
   exact ⟨rfl, Below.refl _ _⟩
  ·have hE := encode_facts r (by rw [show Utf8.valid r = Lib.validRune r from validRune_eq r]; exact hv) h0
   obtain ⟨q, hq⟩ : ∃ q, Utf8.encode r = q := ⟨_, rfl⟩
   rw [hq] at hE
   obtain ⟨q2, q4, ql⟩ := hE
   go_enter Tryz.func115, Tryz.ntmps115
   go_wp2_with fail
   refine (Tryz.utf8_ValidRune r w).mono ?_
   rintro e w' ⟨rfl, rfl⟩
   rw [hv]
   have hcv : ∀ W : World, (convert 21 9 (.int .i32 r)).run Tryz.prog W = .ok (.string q) W := fun W => by
    rw [← hq]; exact run_convert_int_string W _ _ _ _ (by kernel_rfl) Tryz.underlying9
   clear hq
   go_wp2
   apply wp_scope_straight
   have q1 : (1 : Int) ≤ (q.size : Int) := by omega
   by_cases h3 : q.size = 2
   ·have hl2 : (1 : Nat) < q.size := by omega
    have hb : (128 : Nat) ≤ (q[1]'hl2).toNat := by
     have := ql (by omega)
     simpa only [h3] using this
    have hb2 : ((q[1]'hl2).toNat : Int) < 256 := by have := (q[1]'hl2).toNat_lt; omega
    have hne : ((10 : Int) != ((q[1]'hl2).toNat : Int)) = true := by simp; omega
    have hne2 : (((({ data := #[34, 10] } : ByteArray)[1]'(by decide)).toNat : Int) != ((q[1]'hl2).toNat : Int)) = true := hne
    have hqs : (q.size : Int) = 2 := by omega
    have hw2 : IntKind.i64.wrap 2 = 2 := by decide
    have hx2 : ({ data := #[34, 10] } : ByteArray).extract 2 2 = { data := #[] } := rfl
    clear ql q2 q4 q1
    go_wp2
    refine wp_loop_rounds 1 ?_
    rw [rounds_succ]
    go_wp2
    apply wp_scope_straight
    go_wp2
    go_quiet (fail)
    have HB5 := Aside0.mk (pw_below_drewN (Below.refl w'.heap.size w') nq)
    generalize w'.drewN nq = w5 at HB5 ⊢
    go_wp2
    go_quiet (refine Calls.quiet_of (byte_empty _ _))
    go_wp2
    simp only [Exit.then, Exit.noGoto, Exit.inBlock]
    go_ret
    exact ⟨rfl, pw_below_drewN HB5.out _⟩
   ·have h4 : ¬ ((q.size : Int) - 1 < 2) := by omega
    clear ql h3
    go_wp2
    refine wp_loop_rounds 1 ?_
    rw [rounds_succ]
    go_wp2
    simp only [Exit.then, Exit.noGoto, Exit.inBlock]
    go_ret
    exact ⟨rfl, Below.refl _ _⟩
end Go.Proofs.YtkgmempifggajaaGreatDoor.P
/- strings.IndexAny of a quote and a line feed, at short texts. -/
namespace Go.Proofs.YtkgmempifggajaaGreatDoor.P
open Go.RowKit Go.Proofs.YtkgmempifggajaaGreatDoorW.PrintWords Go.Proofs.YtkgmempifggajaaGreatDoorW.PrintLast Go.Proofs.YtkgmempifggajaaGreatDoorW.PrintMore
set_option linter.unusedVariables false
set_option linter.unusedSimpArgs false
def putObj (w : World) (b : Nat) (o : Obj) : World := { w with heap := w.heap.setIfInBounds b o }
theorem putObj_same {w : World} {b : Nat} (o : Obj) (h : b < w.heap.size) : (putObj w b o).heap[b]? = some o := by simp [putObj, h]
theorem putObj_other {w : World} {b k : Nat} (o : Obj) (h : k ≠ b) : (putObj w b o).heap[k]? = w.heap[k]? := by
 simp [putObj, Array.getElem?_setIfInBounds, Ne.symm h]
theorem putObj_size (w : World) (b : Nat) (o : Obj) : (putObj w b o).heap.size = w.heap.size := by simp [putObj]
theorem putObj_below {w0 w : World} {b : Nat} (o : Obj) (h : Below w0.heap.size w0 w) (hb : w0.heap.size ≤ b) : Below w0.heap.size w0 (putObj w b o) :=
 ⟨h.os, h.tape, h.output, by rw [putObj_size]; exact h.size, fun k hk => (putObj_other o (by omega)).trans (h.block k hk)⟩
theorem next_some (w : World) (b : Nat) (s : ByteArray) (pos r wd : Nat) (ty : TypeId) (hb : w.heap[b]? = some (.stringIter s pos)) (h : pos < s.size) (hd : Utf8.decode s pos = (r, wd)) (h64 : (IntKind.i64.wrap (pos : Int)) = pos) :
  (Instr.next (.pointer (some ⟨b, 0, none⟩)) true ty).run Tryz.prog w = .ok (.tuple #[.bool true, .int .i64 pos, .int .i32 r]) (putObj w b (.stringIter s (pos + wd))) := by
 simp [Instr.next, getObj, setObj, Sem.run, hb, h, hd, Result.andThen, goInt, putObj]
theorem next_none (w : World) (b : Nat) (s : ByteArray) (pos : Nat) (ty : TypeId) (hb : w.heap[b]? = some (.stringIter s pos)) (h : ¬ pos < s.size) :
  (Instr.next (.pointer (some ⟨b, 0, none⟩)) true ty).run Tryz.prog w = .ok (.tuple #[.bool false]) w := by
 simp [Instr.next, getObj, Sem.run, hb, h]
theorem get_bang (s : ByteArray) (i : Nat) (h : i < s.size) : s.get! i = s[i] := by
 simp [ByteArray.get!, getElem!_pos, h]
 rfl
theorem decode_low (s : ByteArray) (i : Nat) (h : i < s.size) (hb : s[i].toNat < 128) : Utf8.decode s i = (s[i].toNat, 1) := decode_ascii s i h hb
theorem decode_high (s : ByteArray) (i : Nat) (h : i < s.size) (hb : 128 ≤ s[i].toNat) :
  ∃ r wd, Utf8.decode s i = (r, wd) ∧ 128 ≤ r ∧ r ≤ 1114111 ∧ 1 ≤ wd ∧ i + wd ≤ s.size ∧ ∀ j (hj : j < s.size), i ≤ j → j < i + wd → 128 ≤ s[j].toNat := by
 have hc : ∀ k, (decide (i + k < s.size) && (s.get! (i + k)).toNat / 64 == 2) = true → ∃ hk : i + k < s.size, 128 ≤ s[i + k].toNat := by
  intro k hk
  simp only [Bool.and_eq_true, decide_eq_true_eq, beq_iff_eq] at hk
  refine ⟨hk.1, ?_⟩
  have := hk.2
  rw [get_bang s _ hk.1] at this
  omega
 have h0 : (s.get! (i + 0)).toNat = s[i].toNat := by rw [get_bang s (i + 0) h]; rfl
 unfold Utf8.decode
 simp only [h0]
 rw [if_neg (by omega)]
 have one : ∀ (wd : Nat), wd = 1 → ∀ j (hj : j < s.size), i ≤ j → j < i + wd → 128 ≤ s[j].toNat := by
  intro wd hw j hj h1 h2
  obtain rfl : j = i := by omega
  exact hb
 have err : ∃ r wd, (Utf8.runeError, 1) = (r, wd) ∧ 128 ≤ r ∧ r ≤ 1114111 ∧ 1 ≤ wd ∧ i + wd ≤ s.size ∧ ∀ j (hj : j < s.size), i ≤ j → j < i + wd → 128 ≤ s[j].toNat :=
  ⟨_, _, rfl, by decide, by decide, Nat.le_refl _, by omega, one 1 rfl⟩
 split
 ·rename_i h1
  simp only [Bool.and_eq_true] at h1
  obtain ⟨hk1, hb1⟩ := hc 1 (by simpa using h1.2)
  split
  ·rename_i h2
   refine ⟨_, _, rfl, h2, ?_, by omega, by omega, ?_⟩
   ·omega
   ·intro j hj h3 h4
    rcases (show j = i ∨ j = i + 1 by omega) with rfl | rfl
    ·exact hb
    ·exact hb1
  ·exact err
 ·split
  ·rename_i _ h1
   simp only [Bool.and_eq_true] at h1
   obtain ⟨hk1, hb1⟩ := hc 1 (by simpa using h1.1.2)
   obtain ⟨hk2, hb2⟩ := hc 2 (by simpa using h1.2)
   split
   ·rename_i h2
    simp only [Bool.and_eq_true, decide_eq_true_eq] at h2
    refine ⟨_, _, rfl, by omega, by omega, by omega, by omega, ?_⟩
    intro j hj h3 h4
    rcases (show j = i ∨ j = i + 1 ∨ j = i + 2 by omega) with rfl | rfl | rfl
    ·exact hb
    ·exact hb1
    ·exact hb2
   ·exact err
  ·split
   ·rename_i _ _ h1
    simp only [Bool.and_eq_true] at h1
    obtain ⟨hk1, hb1⟩ := hc 1 (by simpa using h1.1.1.2)
    obtain ⟨hk2, hb2⟩ := hc 2 (by simpa using h1.1.2)
    obtain ⟨hk3, hb3⟩ := hc 3 (by simpa using h1.2)
    split
    ·rename_i h2
     simp only [Bool.and_eq_true, decide_eq_true_eq, Utf8.valid, Bool.or_eq_true] at h2
     refine ⟨_, _, rfl, by omega, by omega, by omega, by omega, ?_⟩
     intro j hj h3 h4
     rcases (show j = i ∨ j = i + 1 ∨ j = i + 2 ∨ j = i + 3 by omega) with rfl | rfl | rfl | rfl
     ·exact hb
     ·exact hb1
     ·exact hb2
     ·exact hb3
    ·exact err
   ·exact err
theorem any_at (s : ByteArray) (k : Nat) (hk : k ≤ s.size) (h : ∀ j (hj : j < s.size), j < k → s[j] ≠ 34 ∧ s[j] ≠ 10) : Lib.indexAny s.data.toList [34, 10] = if Lib.indexAny (s.data.toList.drop k) [34, 10] = -1 then -1 else Lib.indexAny (s.data.toList.drop k) [34, 10] + k := by
 induction k with
 | zero => simp
 | succ k ih =>
  have hks : k < s.size := by omega
  have hkl : k < s.data.toList.length := by simpa using hks
  rw [ih (by omega) (fun j hj hjk => h j hj (by omega))]
  have hd : s.data.toList.drop k = s[k] :: s.data.toList.drop (k + 1) := by
   rw [List.drop_eq_getElem_cons hkl]; simp [ByteArray.getElem_eq_getElem_data]
  have hne := h k hks (by omega)
  have hstep : Lib.indexAny (s.data.toList.drop k) [34, 10] = if Lib.indexAny (s.data.toList.drop (k + 1)) [34, 10] = -1 then -1 else Lib.indexAny (s.data.toList.drop (k + 1)) [34, 10] + 1 := by
   rw [hd, Lib.indexAny]
   have hcn : ([34, 10] : List UInt8).contains s[k] = false := by simp [hne.1, hne.2]
   rw [hcn]
   simp
  rw [hstep]
  have hge := Lib.indexAny_ge [34, 10] (s.data.toList.drop (k + 1))
  split
  ·simp
  ·rename_i hq
   rw [if_neg (by omega)]
   push_cast
   omega
theorem any_none (s : ByteArray) (h : ∀ j (hj : j < s.size), s[j] ≠ 34 ∧ s[j] ≠ 10) : Lib.indexAny s.data.toList [34, 10] = -1 := by
 rw [any_at s s.size (Nat.le_refl _) (fun j hj _ => h j hj)]
 have : s.data.toList.drop s.size = [] := List.drop_eq_nil_of_le (by simp)
 rw [this]; rfl
theorem any_hit (s : ByteArray) (k : Nat) (hk : k < s.size) (h : ∀ j (hj : j < s.size), j < k → s[j] ≠ 34 ∧ s[j] ≠ 10) (hk2 : s[k] = 34 ∨ s[k] = 10) : Lib.indexAny s.data.toList [34, 10] = k := by
 rw [any_at s k (by omega) h]
 have hkl : k < s.data.toList.length := by simpa using hk
 have hd : s.data.toList.drop k = s[k] :: s.data.toList.drop (k + 1) := by
  rw [List.drop_eq_getElem_cons hkl]; simp [ByteArray.getElem_eq_getElem_data]
 have h0 : Lib.indexAny (s.data.toList.drop k) [34, 10] = 0 := by
  rw [hd, Lib.indexAny]
  have hcn : ([34, 10] : List UInt8).contains s[k] = true := by rcases hk2 with h | h <;> simp [h]
  rw [hcn]; rfl
 rw [h0]; simp
theorem ascii_calls (n : Int) (w : World) (h : n ≤ 8) : Calls Tryz.prog 116 #[.int .i64 n] w fun e w' => e = .returned (.bool false) ∧ w = w' := by
 have h2 : ¬ (8 < n) := by omega
 go_enter Tryz.func116, Tryz.ntmps116
 go_wp2
 go_ret
 exact ⟨by simp [h2], rfl⟩
end Go.Proofs.YtkgmempifggajaaGreatDoor.P
/- strings.IndexAny of a quote and a line feed. -/
namespace Go.Proofs.YtkgmempifggajaaGreatDoor.P
open Go.RowKit Go.Proofs.YtkgmempifggajaaGreatDoorW.PrintWords Go.Proofs.YtkgmempifggajaaGreatDoorW.PrintLast Go.Proofs.YtkgmempifggajaaGreatDoorW.PrintMore
set_option linter.unusedVariables false
set_option linter.unusedSimpArgs false
theorem any_long (s : ByteArray) (w : World) (h8 : 8 < s.size) (hs : s.size ≤ 20000) :
  Calls Tryz.prog 100 #[.string s, .string ⟨#[34, 10]⟩] w fun e w' => e = .returned (.int .i64 (Lib.indexAny s.data.toList [34, 10])) ∧ Below w.heap.size w w' := by
 refine (Tryz.strings_IndexAny_long (fun w => by kernel_rfl) s ⟨#[34, 10]⟩ w (by decide) h8 (by omega) (by decide) (fun j b hb => ?_)).mono ?_
 ·have : b ∈ ([34, 10] : List UInt8) := List.mem_of_getElem? hb
  simp at this
  rcases this with rfl | rfl <;> decide
 ·rintro e w' ⟨rfl, rfl⟩
  exact ⟨rfl, below_alloc (below_alloc (Below.refl _ _) _) _⟩
set_option maxHeartbeats 2000000 in
set_option maxRecDepth 100000 in
theorem any_short (s : ByteArray) (w : World) (h8 : s.size ≤ 8) :
  Calls Tryz.prog 100 #[.string s, .string ⟨#[34, 10]⟩] w fun e w' => e = .returned (.int .i64 (Lib.indexAny s.data.toList [34, 10])) ∧ Below w.heap.size w w' := by
 obtain ⟨out, hout⟩ : ∃ out, Lib.indexAny s.data.toList [34, 10] = out := ⟨_, rfl⟩
 have HOUT := Aside0.mk hout
 have h88 : (s.size : Int) ≤ 8 := by omega
 rw [hout]
 clear hout
 go_enter Tryz.func100, Tryz.ntmps100
 go_wp2_with fail
 refine (ascii_calls _ w h88).mono ?_
 rintro e w' ⟨rfl, rfl⟩
 go_wp2
 go_loopw [4] (fun v4 wr => ∃ pos : Nat, pos ≤ s.size ∧ v4 = .int .i64 0 ∧ Aside0 (wr.heap[w.heap.size]? = some (.stringIter s pos)) ∧ Aside0 (Below w.heap.size w wr) ∧ Aside0 (∀ j (hj : j < s.size), j < pos → s[j] ≠ 34 ∧ s[j] ≠ 10)) (fun _ wr => match wr.heap[w.heap.size]? with | some (.stringIter _ p) => s.size - p | _ => 0)
 case atStart => exact ⟨0, Nat.zero_le _, rfl, ⟨World.iter_heap w s 0⟩, ⟨below_alloc (Below.refl _ _) _⟩, ⟨fun j _ h => absurd h (by omega)⟩⟩
 case round =>
  obtain ⟨pos, hp, rfl, HI, HB, HN⟩ := hrel
  by_cases hlt : pos < s.size
  ·have hwr := wrap_small (pos : Int) (by omega) (by omega)
   have hwl : w.heap.size < wr.heap.size := lt_of_block HI.out
   by_cases hb : s[pos].toNat < 128
   ·have hnx := fun ty => next_some wr w.heap.size s pos _ 1 ty HI.out hlt (decode_low s pos hlt hb) hwr
    have hb1 : (s[pos].toNat : Int) < 128 := by omega
    have hto : ((s[pos].toNat : Int)).toNat.toUInt8 = s[pos] := by simp
    have HI2 := Aside0.mk (putObj_same (w := wr) (.stringIter s (pos + 1)) hwl)
    have HB2 := Aside0.mk (putObj_below (.stringIter s (pos + 1)) HB.out (Nat.le_refl _))
    by_cases hin : s[pos] = 34 ∨ s[pos] = 10
    ·have HF := Aside0.mk (show out = pos by rw [← HOUT.out]; exact any_hit s pos hlt HN.out hin)
     have hix : Lib.indexByte [34, 10] s[pos] = 0 ∨ Lib.indexByte [34, 10] s[pos] = 1 := by rcases hin with h | h <;> rw [h] <;> decide
     have hge : ¬ (Lib.indexByte [34, 10] s[pos] < 0) := by omega
     have hge2 : 0 ≤ Lib.indexByte [34, 10] s[pos] := by omega
     clear hin hix
     go_wp2_with fail
     refine (Tryz.strings_IndexRune_ascii ⟨#[34, 10]⟩ s[pos].toNat _ (by omega) hb1).mono ?_
     rintro e w3 ⟨rfl, rfl⟩
     rw [hto]
     go_wp2
     go_ret
     exact ⟨by rw [HF.out]; rfl, HB2.out⟩
    ·have hne : s[pos] ≠ 34 ∧ s[pos] ≠ 10 := ⟨fun h => hin (.inl h), fun h => hin (.inr h)⟩
     have hix : Lib.indexByte [34, 10] s[pos] = -1 := by
      simp [Lib.indexByte, Ne.symm hne.1, Ne.symm hne.2, hne.1, hne.2]
     have HNE := Aside0.mk hne
     clear hin hne
     go_wp2_with fail
     refine (Tryz.strings_IndexRune_ascii ⟨#[34, 10]⟩ s[pos].toNat _ (by omega) hb1).mono ?_
     rintro e w3 ⟨rfl, rfl⟩
     rw [hto, show Lib.indexByte (ByteArray.mk #[34, 10]).data.toList s[pos] = -1 from hix]
     go_wp2
     go_roundw
     case rel =>
      refine ⟨pos + 1, by omega, rfl, HI2, HB2, ⟨fun j hj hjp => ?_⟩⟩
      by_cases e : j = pos
      ·subst e; exact HNE.out
      ·exact HN.out j hj (by omega)
     case measure => rw [HI2.out, HI.out]; simp only; omega
   ·obtain ⟨r, wd, hd, hr0, hr1, hw1, hw2, hall⟩ := decode_high s pos hlt (by omega)
    have hnx := fun ty => next_some wr w.heap.size s pos r wd ty HI.out hlt hd hwr
    have HI2 := Aside0.mk (putObj_same (w := wr) (.stringIter s (pos + wd)) hwl)
    have HB2 := Aside0.mk (putObj_below (.stringIter s (pos + wd)) HB.out (Nat.le_refl _))
    have HALL := Aside0.mk hall
    clear hall hd
    go_wp2_with fail
    refine (rune_high r _ (by omega) (by omega)).mono ?_
    rintro e w3 ⟨rfl, hb3⟩
    have HB3 := Aside0.mk (HB2.out.trans (hb3.mono HB2.out.size))
    have HI3 := Aside0.mk ((hb3.block w.heap.size (by rw [putObj_size]; exact hwl)).trans HI2.out)
    clear hb3
    go_wp2
    go_roundw
    case rel =>
     refine ⟨pos + wd, hw2, rfl, HI3, HB3, ⟨fun j hj hjp => ?_⟩⟩
     by_cases e : j < pos
     ·exact HN.out j hj e
     ·have := HALL.out j hj (by omega) hjp
      constructor <;> (intro hc; rw [hc] at this; exact absurd this (by decide))
    case measure => rw [HI3.out, HI.out]; simp only; omega
  ·have hnx := fun ty => next_none wr w.heap.size s pos ty HI.out hlt
   have HF := Aside0.mk (show out = -1 by rw [← HOUT.out]; exact any_none s (fun j hj => HN.out j hj (by omega)))
   go_wp2
   go_ret
   exact ⟨by rw [HF.out]; rfl, HB.out⟩
theorem any_calls (s : ByteArray) (w : World) (hs : s.size ≤ 20000) :
  Calls Tryz.prog 100 #[.string s, .string ⟨#[34, 10]⟩] w fun e w' => e = .returned (.int .i64 (Lib.indexAny s.data.toList [34, 10])) ∧ Below w.heap.size w w' := by
 by_cases h8 : 8 < s.size
 ·exact any_long s w h8 hs
 ·exact any_short s w (by omega)
end Go.Proofs.YtkgmempifggajaaGreatDoor.P
