/- What the statement's proof builds on: LexH, LexI, LexJ, Formed, FormB, Fact, Check, LexLaw. -/
import Derived.Test.YtkgmempifggajaaGreatDoorGF9
import Derived.Test.YtkgmempifggajaaGreatDoorGF10
import Derived.Test.YtkgmempifggajaaGreatDoorGF5
/- lexer's (*scanner).next: strings; and next as a whole. (Printed by wip/tools/gen_lexf.py.) -/
namespace Go.Proofs.YtkgmempifggajaaGreatDoor.P
open Go.RowKit Go.Proofs.YtkgmempifggajaaGreatDoorW.PrintWords Go.Proofs.YtkgmempifggajaaGreatDoorW.PrintLast Go.Proofs.YtkgmempifggajaaGreatDoorW.PrintMore
set_option linter.unusedVariables false
set_option linter.unusedSimpArgs false
def noEnd (a : UInt8) : Bool := !(a == 34 || a == 10)
theorem any_end (a : UInt8) : ([34, 10] : List UInt8).contains a = !noEnd a := by
 have := u8_all (fun a => ([34, 10] : List UInt8).contains a == !noEnd a) (by decide +kernel) a
 simpa using this
theorem any_spec (l : List UInt8) : Lib.indexAny l [34, 10] = if l.dropWhile noEnd = [] then (-1 : Int) else ((l.takeWhile noEnd).length : Int) := by
 induction l with
 | nil => rfl
 | cons a l ih =>
  simp only [Lib.indexAny, any_end]
  by_cases h : noEnd a
  ·simp only [h, Bool.not_true, Bool.false_eq_true, if_false, ih, List.dropWhile_cons, if_true, List.takeWhile_cons]
   by_cases h2 : l.dropWhile noEnd = []
   ·simp [h2]
   ·simp only [h2, if_false, List.length_cons]
    have h3 : ((l.takeWhile noEnd).length : Int) ≠ -1 := by omega
    simp [h3]
  ·have h' : noEnd a = false := by simpa using h
   simp [h', List.dropWhile_cons, List.takeWhile_cons]
theorem tok_str (s : ByteArray) (i : Nat) (hi : i < s.size) (hc : cls s[i] = 6) :
  token (s.data.toList.drop i) =
   match (s.data.toList.drop (i + 1)).dropWhile noEnd with
   | [] => .error 6
   | a :: _ => if a == 10 then .error 6 else if 400 < ((s.data.toList.drop (i + 1)).takeWhile noEnd).length then .error 2 else .ok ⟨3, (s.data.toList.drop (i + 1)).takeWhile noEnd, 0, ((s.data.toList.drop (i + 1)).takeWhile noEnd).length + 2⟩ := by
 have h := cls6 hc
 rw [drop_at s i hi, h]
 simp only [token, show isLetter 34 = false from rfl, show isDigit 34 = false from rfl, Bool.false_eq_true, if_false, beq_self_eq_true, if_true, gt_iff_lt]
 rfl
theorem dropWhile_head {l : List UInt8} {a : UInt8} {r : List UInt8} (h : l.dropWhile noEnd = a :: r) : l[(l.takeWhile noEnd).length]? = some a := by
 have h1 := List.takeWhile_append_dropWhile (p := noEnd) (l := l)
 have h2 : (l.takeWhile noEnd ++ l.dropWhile noEnd)[(l.takeWhile noEnd).length]? = some a := by
  rw [List.getElem?_append_right (Nat.le_refl _), Nat.sub_self, h]; rfl
 rwa [h1] at h2
set_option maxRecDepth 100000 in
theorem next_string (s : ByteArray) (b : Nat) (i : Nat) (w : World) (h : IsScan w b s) (hi : i < s.size) (hc : cls s[i] = 6) :
  Calls Tryz.prog 79 #[.pointer (some ⟨b, 0, none⟩), .int .i64 i] w (NextPost s i w) := by
 have hs := h.size
 have HN0 := Aside0.mk (NS.start h)
 clear h
 have HT := Aside0.mk (tok_str s i hi hc)
 have HCC := Aside0.mk hc
 clear hc
 go_enter Tryz.func79, Tryz.ntmps79
 go_wp2_with fail
 refine (at_in s b i _ HN0.out.scan hi).mono ?_
 rintro e w1 ⟨rfl, hd⟩
 rw [HCC.out]
 have HN1 := Aside0.mk (HN0.out.step hd.below)
 clear hd HN0
 have hA := any_calls (s.extract (i + 1) s.size)
 obtain ⟨rest, hrest⟩ : ∃ r, s.extract (i + 1) s.size = r := ⟨_, rfl⟩
 have hr : rest.data.toList = s.data.toList.drop (i + 1) := by rw [← hrest, extract_drop]
 have hsz : rest.size ≤ 20000 := by
  have e : rest.data.toList.length = rest.size := by simp
  rw [← e, hr, List.length_drop]
  have e2 : s.data.toList.length = s.size := by simp
  omega
 rw [hrest] at hA
 have HA := Aside0.mk hA
 have HREST := Aside0.mk hrest
 have HRR := Aside0.mk hr
 clear hA hrest hr
 have ht1 := HN1.out.scan.text
 go_wp2_with fail
 rw [HREST.out]
 refine (HA.out w1 (by omega)).mono ?_
 rintro e w2 ⟨rfl, hb⟩
 have HN2 := Aside0.mk (HN1.out.step hb)
 clear hb HN1 ht1
 rw [any_spec, HRR.out]
 have hc0 := blk_cell HN2.out.res 0
 have hf0 := blk_frozen HN2.out.res 0
 have hc1 := blk_cell HN2.out.res 1
 have hf1 := blk_frozen HN2.out.res 1
 have hc2 := blk_cell HN2.out.res 2
 have hf2 := blk_frozen HN2.out.res 2
 have hc3 := blk_cell HN2.out.res 3
 have hf3 := blk_frozen HN2.out.res 3
 have ht2 := HN2.out.scan.text
 have hlt2 := HN2.out.lt
 cases hd : (s.data.toList.drop (i + 1)).dropWhile noEnd with
 | nil =>
  have HE := Aside0.mk (show nextVal (s.data.toList.drop i) i = _ by unfold nextVal; rw [HT.out, hd])
  clear hd HT
  rw [if_pos rfl]
  go_wp2
  refine bodyPost_ret (results_ctt rfl _ _ w.heap.size 75 #[.int .i64 0, .int .i64 0, .int .i64 0, .string ⟨#[]⟩] (0, 0) _ rfl (put4 HN2.out.res _ _ _ _) Tryz.underlying75 rfl (by kernel_rfl)) rfl ?_
  refine ⟨?_, put4_below HN2.out.old (Nat.le_refl _) _ _ _ _⟩
  rw [HE.out]; rfl
 | cons a r =>
  rw [if_neg (by simp)]
  have hget := dropWhile_head hd
  have HT2 := HT.out
  rw [hd] at HT2
  simp only at HT2
  have htake := takeWhile_take noEnd (s.data.toList.drop (i + 1))
  obtain ⟨m, hm⟩ : ∃ m, ((s.data.toList.drop (i + 1)).takeWhile noEnd).length = m := ⟨_, rfl⟩
  rw [hm] at HT2 hget htake ⊢
  rw [← HRR.out] at hget htake HT2
  have hml : m < rest.size := by
   have := (List.getElem?_eq_some_iff.1 hget).1
   simpa using this
  have hra : rest[m] = a := by
   have h2 := (List.getElem?_eq_some_iff.1 hget).2
   rw [← h2]; simp [ByteArray.getElem_eq_getElem_data]
  have HTA := Aside0.mk HT2
  have HX := Aside0.mk (show rest.extract 0 m = ⟨(rest.data.toList.takeWhile noEnd).toArray⟩ by rw [extract_take, List.drop_zero, Nat.sub_zero, htake])
  have hmi : (m : Int) < (rest.size : Int) := by omega
  clear hget hd HT HT2 hm htake
  by_cases h10 : a = 10
  ·have HE := Aside0.mk (show nextVal (s.data.toList.drop i) i = _ by unfold nextVal; rw [HTA.out, if_pos (by rw [h10]; rfl)])
   subst h10
   have hb10 : ((rest[m].toNat : Int) == 10) = true := by rw [hra]; rfl
   clear hra HTA
   go_wp2
   refine bodyPost_ret (results_ctt rfl _ _ w.heap.size 75 #[.int .i64 0, .int .i64 0, .int .i64 0, .string ⟨#[]⟩] (0, 0) _ rfl (put4 HN2.out.res _ _ _ _) Tryz.underlying75 rfl (by kernel_rfl)) rfl ?_
   refine ⟨?_, put4_below HN2.out.old (Nat.le_refl _) _ _ _ _⟩
   rw [HE.out]; rfl
  ·have hb10 : ((rest[m].toNat : Int) == 10) = false := by
    rw [hra]
    simp only [beq_eq_false_iff_ne, ne_eq]
    intro h
    exact h10 (UInt8.toNat_inj.1 (show a.toNat = (10 : UInt8).toNat by rw [show (10 : UInt8).toNat = 10 from rfl]; omega))
   have hb10' : (a == 10) = false := by simpa using h10
   have HE0 := Aside0.mk (show token (s.data.toList.drop i) = _ by rw [HTA.out, if_neg (by rw [hb10']; decide)])
   clear hra HTA h10 hb10'
   by_cases h4 : (400 : Int) < m
   ·have HE := Aside0.mk (show nextVal (s.data.toList.drop i) i = _ by unfold nextVal; rw [HE0.out, if_pos (by omega)])
    go_wp2
    refine bodyPost_ret (results_ctt rfl _ _ w.heap.size 75 #[.int .i64 0, .int .i64 0, .int .i64 0, .string ⟨#[]⟩] (0, 0) _ rfl (put4 HN2.out.res _ _ _ _) Tryz.underlying75 rfl (by kernel_rfl)) rfl ?_
    refine ⟨?_, put4_below HN2.out.old (Nat.le_refl _) _ _ _ _⟩
    rw [HE.out]; rfl
   ·have HE := Aside0.mk (show nextVal (s.data.toList.drop i) i = _ by unfold nextVal; rw [HE0.out, if_neg (by omega)])
    go_wp2
    refine bodyPost_ret (results_ctt rfl _ _ w.heap.size 75 #[.int .i64 3, .int .i64 i, .int .i64 0, .string (rest.extract 0 m)] (0, 0) _ rfl (put4 HN2.out.res _ _ _ _) Tryz.underlying75 rfl (by kernel_rfl)) rfl ?_
    refine ⟨?_, put4_below HN2.out.old (Nat.le_refl _) _ _ _ _⟩
    rw [HE.out, HX.out, show i + (m + 2) = i + m + 2 by omega]; simp
theorem next_calls (s : ByteArray) (b : Nat) (i : Nat) (w : World) (h : IsScan w b s) (hi : i < s.size) :
  Calls Tryz.prog 79 #[.pointer (some ⟨b, 0, none⟩), .int .i64 i] w (NextPost s i w) := by
 by_cases h3 : cls s[i] = 3
 ·exact next_name s b i w h hi h3
 by_cases h4 : cls s[i] = 4
 ·exact next_number s b i w h hi h4
 by_cases h6 : cls s[i] = 6
 ·exact next_string s b i w h hi h6
 by_cases h7 : cls s[i] = 7
 ·exact next_mark s b i w h hi h7
 by_cases h8 : cls s[i] = 8
 ·exact next_angle s b i w h hi h8
 by_cases h9 : cls s[i] = 9
 ·exact next_symbol s b i w h hi h9
 exact next_other s b i w h hi ⟨h3, h4, h6, h7, h8, h9⟩
end Go.Proofs.YtkgmempifggajaaGreatDoor.P
/- lexer.Lex: the tokens of a text. -/
namespace Go.Proofs.YtkgmempifggajaaGreatDoor.P
open Go.RowKit Go.Proofs.YtkgmempifggajaaGreatDoorW.PrintWords Go.Proofs.YtkgmempifggajaaGreatDoorW.PrintLast Go.Proofs.YtkgmempifggajaaGreatDoorW.PrintMore
set_option linter.unusedVariables false
set_option linter.unusedSimpArgs false
theorem skip_drop (b : Bool) (l : List UInt8) : skip b l = l.drop (l.length - (skip b l).length) := by
 induction l generalizing b with
 | nil => simp [skip]
 | cons a l ih =>
  have h1 := skip_suffix true l
  have h2 := skip_suffix false l
  have e1 := ih true
  have e2 := ih false
  have key : ∀ b, skip b l = (a :: l).drop ((a :: l).length - (skip b l).length) := by
   intro b
   have hs := skip_suffix b l
   rw [List.length_cons, show l.length + 1 - (skip b l).length = (l.length - (skip b l).length) + 1 by omega, List.drop_succ_cons]
   exact ih b
  cases b
  ·simp only [skip]
   split
   ·exact key false
   ·split
    ·exact key true
    ·simp
  ·simp only [skip]
   split
   ·exact key false
   ·exact key true
theorem skip_skip (b : Bool) (l : List UInt8) : skip false (skip b l) = skip b l := by
 induction l generalizing b with
 | nil => simp [skip]
 | cons a l ih =>
  cases b
  ·simp only [skip]
   split
   ·exact ih false
   ·split
    ·exact ih true
    ·rename_i h1 h2; simp [skip, h1, h2]
  ·simp only [skip]
   split
   ·exact ih false
   ·exact ih true
theorem gapOf_le (s : ByteArray) (i : Nat) : gapOf s i ≤ s.size := by unfold gapOf; omega
theorem gapOf_ge (s : ByteArray) (i : Nat) (h : i ≤ s.size) : i ≤ gapOf s i := by
 unfold gapOf
 have := skip_suffix false (s.data.toList.drop i)
 rw [List.length_drop] at this
 have e : s.data.toList.length = s.size := by simp
 omega
theorem drop_gapOf (s : ByteArray) (i : Nat) (h : i ≤ s.size) : s.data.toList.drop (gapOf s i) = skip false (s.data.toList.drop i) := by
 have hs := skip_suffix false (s.data.toList.drop i)
 have e : s.data.toList.length = s.size := by simp
 rw [skip_drop, List.drop_drop]
 unfold gapOf
 rw [List.length_drop] at hs ⊢
 congr 1
 omega
theorem gapOf_gapOf (s : ByteArray) (i : Nat) (h : i ≤ s.size) : gapOf s (gapOf s i) = gapOf s i := by
 show s.size - (skip false (s.data.toList.drop (gapOf s i))).length = _
 rw [drop_gapOf s i h, skip_skip]
 rfl
theorem skip_at (s : ByteArray) (k : Nat) (hk : k ≤ s.size) (hg : gapOf s k = k) : skip false (s.data.toList.drop k) = s.data.toList.drop k := by
 rw [← drop_gapOf s k hk, hg]
theorem takeWhile_le {α : Type} (p : α → Bool) (l : List α) : (l.takeWhile p).length ≤ l.length := (List.takeWhile_prefix p).length_le
theorem token_width {l : List UInt8} {t : Tk} (h : token l = .ok t) : 1 ≤ t.width ∧ t.width ≤ l.length := by
 cases l with
 | nil => simp [token] at h
 | cons c l =>
  have h1 := takeWhile_le isWord l
  have h2 := takeWhile_le isDigit l
  have h3 := takeWhile_le (fun a : UInt8 => !(a == 34 || a == 10)) l
  simp only [token] at h
  split at h
  ·split at h
   ·cases h
   ·injection h with h; subst h; simp; omega
  split at h
  ·split at h
   ·cases h
   ·split at h
    ·injection h with h; subst h; simp; omega
    ·split at h
     ·cases h
     ·injection h with h; subst h; simp; omega
  split at h
  ·split at h
   ·cases h
   ·rename_i a r hd
    split at h
    ·cases h
    ·split at h
     ·cases h
     ·injection h with h; subst h
      have h4 := congrArg List.length (List.takeWhile_append_dropWhile (p := fun a : UInt8 => !(a == 34 || a == 10)) (l := l))
      rw [hd] at h4
      simp at h4
      simp; omega
  split at h
  ·rename_i hh
   injection h with h; subst h
   cases l with
   | nil => simp at hh
   | cons a l => simp
  split at h
  ·injection h with h; subst h; simp
  ·cases h
theorem token_err {l : List UInt8} {e : Nat} (h : token l = .error e) : 2 ≤ e ∧ e ≤ 6 := by
 cases l with
 | nil => simp [token] at h; omega
 | cons c l =>
  simp only [token] at h
  repeat' split at h
  all_goals first | (injection h with h; subst h; omega) | cases h
def tokOf (t : Tk) (p : Nat) : Tok := ⟨(t.kind : Int), (p : Int), (t.n : Int), ⟨t.text.toArray⟩⟩
theorem lexs_gap (s : ByteArray) (f j cnt : Nat) (hj : j ≤ s.size) : lexs f (s.data.toList.drop j) j cnt = lexs f (s.data.toList.drop (gapOf s j)) (gapOf s j) cnt := by
 cases f with
 | zero => rfl
 | succ f =>
  have e : s.data.toList.length = s.size := by simp
  have hg := gapOf_ge s j hj
  have hl := gapOf_le s j
  simp only [lexs]
  rw [drop_gapOf s j hj, skip_skip]
  have hp : j + ((s.data.toList.drop j).length - (skip false (s.data.toList.drop j)).length) = gapOf s j + ((skip false (s.data.toList.drop j)).length - (skip false (s.data.toList.drop j)).length) := by
   have h2 : (skip false (s.data.toList.drop j)).length = s.size - gapOf s j := by rw [← drop_gapOf s j hj, List.length_drop, e]
   rw [h2, List.length_drop, e]
   omega
  rw [hp]
theorem lexs_end (s : ByteArray) (f k cnt : Nat) (h : s.size ≤ k) : lexs f (s.data.toList.drop k) k cnt = .ok [] := by
 have hd : s.data.toList.drop k = [] := List.drop_eq_nil_of_le (by simpa using h)
 rw [hd]
 cases f <;> simp [lexs, skip]
theorem lexs_at (s : ByteArray) (f k cnt : Nat) (hk : k < s.size) (hg : gapOf s k = k) :
  lexs (f + 1) (s.data.toList.drop k) k cnt = match token (s.data.toList.drop k) with
   | .error e => .error (e, k)
   | .ok t => if cnt = 5000 then .error (2, k) else match lexs f (s.data.toList.drop (k + t.width)) (k + t.width) (cnt + 1) with
    | .error e => .error e
    | .ok r => .ok (tokOf t k :: r) := by
 simp only [lexs]
 rw [skip_at s k (by omega) hg]
 have he : (s.data.toList.drop k).isEmpty = false := by rw [drop_at s k hk]; rfl
 rw [he, Nat.sub_self, Nat.add_zero]
 simp only [Bool.false_eq_true, if_false, beq_iff_eq, List.drop_drop]
 rfl
def LexPost (s : ByteArray) (w : World) (e : Ending) (w' : World) : Prop :=
 ∃ v, e = .returned (.tuple #[v, .int .i64 (lex s.data.toList).2.1, .int .i64 (lex s.data.toList).2.2]) ∧ kTok.R 75 w' w.heap.size (fun _ => True) v (lex s.data.toList).1 ∧ Below w.heap.size w w'
set_option maxRecDepth 100000 in
theorem lex_long (s : ByteArray) (w : World) (h : (20000 : Int) < s.size) :
  Calls Tryz.prog 55 #[.string s] w (LexPost s w) := by
 have e : s.data.toList.length = s.size := by simp
 have HL := Aside0.mk (show lex s.data.toList = ([], 2, -1) by unfold lex; rw [if_pos (by omega)])
 clear e
 go_enter Tryz.func55, Tryz.ntmps55
 go_wp2
 go_ret3
 refine ⟨.slice none 0 0, by rw [HL.out]; rfl, by rw [HL.out]; exact Kd.R_nil _ _ _ _ _, Below.refl _ _⟩
end Go.Proofs.YtkgmempifggajaaGreatDoor.P
/- lexer.Lex: the walk. -/
namespace Go.Proofs.YtkgmempifggajaaGreatDoor.P
open Go.RowKit Go.Proofs.YtkgmempifggajaaGreatDoorW.PrintWords Go.Proofs.YtkgmempifggajaaGreatDoorW.PrintLast Go.Proofs.YtkgmempifggajaaGreatDoorW.PrintMore
set_option linter.unusedVariables false
set_option linter.unusedSimpArgs false
theorem wpList_build {P : Program} {ops : Array Oper} {rest : List Oper} {o : Oper} {a : Act} {w : World} {Q : Exit → Act → World → Prop} (hgd : o.guard = none) (ty : TypeId) (parts : Array (Nat × Operand)) (ho : o.op = .build ty parts)
  (vals : Array (Nat × Value)) (hv : parts.map (fun p => (p.1, a.eval p.2)) = vals) (v : Value) (hr : (Instr.build ty vals).run P w = .ok v w)
  (h : wpList P ops Q rest (a.put o.dst v) w) : wpList P ops Q (o :: rest) a w :=
 wpList_plain hgd fun K hK => by
  unfold Oper.wp execOp
  simp only [ho, Sem.run_bind, Sem.run_pure, Result.andThen_ok]
  rw [show Array.map (fun x : Nat × Operand => (x.fst, a.eval x.snd)) parts = vals from hv, hr]
  exact hK _ _ h
theorem info_tok : (Tryz.prog.info? 75).map (fun i => (i.zero, i.size, i.bytes)) = some (some (.agg #[.int .i64 0, .int .i64 0, .int .i64 0, .string ⟨#[]⟩]), 4, 40) := by kernel_rfl
theorem IsScan.blk {w w1 : World} {b : Nat} {s : ByteArray} (h : IsScan w b s) (e : w1.heap[b]? = w.heap[b]?) : IsScan w1 b s :=
 ⟨(World.cell?_of_block (w := w) e).trans h.text, fun c => (World.cell?_of_block (w := w) e).trans (h.cl c), h.size⟩
set_option maxHeartbeats 1000000 in
set_option maxRecDepth 100000 in
theorem lex_short (s : ByteArray) (w : World) (h : (s.size : Int) ≤ 20000) :
  Calls Tryz.prog 55 #[.string s] w (LexPost s w) := by
 go_enter Tryz.func55, Tryz.ntmps55
 go_wp2_with fail
 refine (classes_calls _).mono ?_
 rintro e w1 ⟨rfl, hb⟩
 have HB := Aside0.mk hb
 clear hb
 dsimp only
 go_step
 refine wpList_build rfl 95 _ rfl #[(0, .string s), (1, .agg clsCells)] ?_ (.agg (scanCells s)) (build_scan s _) ?_
 ·simp [Act.eval]
 go_wp2_with (refine wpList_store_rowTo rfl 95 _ _ rfl rfl w1.heap.size (scanCells s) ?_ ?_ 95 Tryz.zeroCells95 (blk_new _ _ rfl) (scan_info.trans (by rw [scan_sz])) (scan_zero.trans (scan_sz s).symm) (scan_one s) ?_; rfl; rfl)
 refine (gap_calls s w1.heap.size 0 _ (scan_is s _ w1.heap.size (setRow_heap _ _ _ _ _ _ (blk_new w1 _ rfl)) (by omega)) (by omega)).mono ?_
 rintro e w2 ⟨rfl, hb⟩
 have HB2 := Aside0.mk (((((Same.of_below (S := fun _ => False) HB.out).alloc (.cells Tryz.zeroCells95 95 (0, 0))).setRow HB.out.size (scanCells s)).thenB hb).below0)
 have HI2 := Aside0.mk ((scan_is s _ w1.heap.size (setRow_heap _ _ _ _ _ _ (blk_new w1 _ rfl)) (by omega)).below hb)
 have hbb := HB.out.size
 obtain ⟨b, hbe⟩ : ∃ b, w1.heap.size = b := ⟨_, rfl⟩
 rw [hbe] at HI2 hbb ⊢
 clear hb HB hbe
 have hk := gapOf_le s 0
 have HG := Aside0.mk (gapOf_gapOf s 0 (by omega))
 have HL := Aside0.mk (lexs_gap s (s.data.toList.length + 1) 0 0 (by omega))
 obtain ⟨k0, hk0⟩ : ∃ k, gapOf s 0 = k := ⟨_, rfl⟩
 rw [hk0] at HG HL hk ⊢
 clear hk0
 go_wp2
 go_loopw [6, 7] (fun v6 v7 wr => ∃ (k : Nat) (acc : List Tok) (f : Nat), k ≤ s.size ∧ v7 = .int .i64 k ∧ acc.length ≤ 5000 ∧ s.size < f + k ∧ Aside0 (gapOf s k = k) ∧
   Aside0 (lexs (s.data.toList.length + 1) s.data.toList 0 0 = match lexs f (s.data.toList.drop k) k acc.length with | .error e => .error e | .ok r => .ok (acc ++ r)) ∧
   Aside0 (kTok.R 75 wr w.heap.size (fun q => q ≠ b) v6 acc) ∧ Aside0 (IsScan wr b s) ∧ Aside0 (Below w.heap.size w wr)) (fun _ v7 _ => s.size - (intOf v7).toNat)
 case atStart =>
  refine ⟨k0, [], s.data.toList.length + 1, hk, rfl, by simp, by simp; omega, HG, ⟨?_⟩, ⟨Kd.R_nil _ _ _ _ _⟩, HI2, HB2⟩
  have := HL.out
  rw [List.drop_zero] at this
  rw [this, List.length_nil]
  cases lexs (s.data.toList.length + 1) (s.data.toList.drop k0) k0 0 <;> simp
 case round =>
  clear HG HL hk HB2 HI2
  obtain ⟨k, acc, f, hk, rfl, hacc, hf, HG, HL, HR, HI, HB⟩ := hrel
  by_cases hlt : k < s.size
  ·obtain ⟨f, rfl⟩ : ∃ g, f = g + 1 := ⟨f - 1, by omega⟩
   have e : s.data.toList.length = s.size := by simp
   have HST := Aside0.mk (lexs_at s f k acc.length hlt HG.out)
   obtain ⟨A, c, rfl⟩ := Kd.R_slice HR.out
   cases ht : token (s.data.toList.drop k) with
   | error e1 =>
    have he := token_err ht
    have HX := Aside0.mk (show lex s.data.toList = ([], (e1 : Int), (k : Int)) by
     unfold lex
     rw [if_neg (by omega), HL.out, HST.out, ht])
    have HV := Aside0.mk (show nextVal (s.data.toList.drop k) k = _ by unfold nextVal; rw [ht])
    clear ht e HST HL
    have hne : ((e1 : Int) == 0) = false := by simp; omega
    have hne2 : ((e1 : Int) != 0) = true := by simp; omega
    go_wp2_with fail
    refine (next_calls s b k wr HI.out hlt).mono ?_
    rintro e' w3 ⟨rfl, hb⟩
    rw [HV.out]
    have HB3 := Aside0.mk (HB.out.trans (hb.mono HB.out.size))
    clear hb
    go_wp2
    go_ret3
    exact ⟨.slice none 0 0, by rw [HX.out]; rfl, by rw [HX.out]; exact Kd.R_nil _ _ _ _ _, below_alloc HB3.out _⟩
   | ok t =>
    have hw := token_width ht
    rw [List.length_drop, e] at hw
    have HV := Aside0.mk (show nextVal (s.data.toList.drop k) k = _ by unfold nextVal; rw [ht])
    by_cases h5 : acc.length = 5000
    ·have HX := Aside0.mk (show lex s.data.toList = ([], 2, (k : Int)) by
      unfold lex
      rw [if_neg (by omega), HL.out, HST.out, ht]
      simp only [h5, if_true]
      rfl)
     clear ht e HST HL
     have hb5 : ((acc.length : Int) == 5000) = true := by simp; omega
     go_wp2_with fail
     refine (next_calls s b k wr HI.out hlt).mono ?_
     rintro e' w3 ⟨rfl, hb⟩
     rw [HV.out]
     have HB3 := Aside0.mk (HB.out.trans (hb.mono HB.out.size))
     clear hb
     go_wp2
     go_ret3
     exact ⟨.slice none 0 0, by rw [HX.out]; rfl, by rw [HX.out]; exact Kd.R_nil _ _ _ _ _, below_alloc HB3.out _⟩
    ·have HL2 := Aside0.mk (show lexs (s.data.toList.length + 1) s.data.toList 0 0 = match lexs f (s.data.toList.drop (k + t.width)) (k + t.width) (acc.length + 1) with | .error e => .error e | .ok r => .ok (acc ++ tokOf t k :: r) by
      rw [HL.out, HST.out, ht]
      simp only [h5, if_false]
      cases lexs f (s.data.toList.drop (k + t.width)) (k + t.width) (acc.length + 1) <;> rfl)
     clear ht e HST HL
     have hb5 : ((acc.length : Int) == 5000) = false := by simp; omega
     have hne := Aside0.mk (show (Value.slice A acc.length c).ownBlock ≠ some b from fun e => HR.out.1 b e rfl)
     go_wp2_with fail
     refine (next_calls s b k wr HI.out hlt).mono ?_
     rintro e' w3 ⟨rfl, hb⟩
     rw [HV.out]
     have HB3 := Aside0.mk (HB.out.trans (hb.mono HB.out.size))
     have HI3 := Aside0.mk (HI.out.below hb)
     have HR3 := Aside0.mk (Kd.R_below HR.out hb)
     have hlt3 := (HI.out.below hb).lt
     clear hb HB HI HR HV
     have hbase : w.heap.size ≤ w3.heap.size := HB3.out.size
     go_wp2_with (at_builtin; go_loud (refine Kd.R_append kTok w.heap.size rfl _ _ 66 75 _ 40 rfl Tryz.underlying66 info_tok rfl (by decide) (by decide) (.slice A acc.length c) acc (tokOf t k) [.int .i64 t.kind, .int .i64 k, .int .i64 t.n, .string ⟨t.text.toArray⟩] (fun q => q ≠ b) (fun _ => False) rfl (by simp [Act.eval]) (k75_mkM _ _ _ (tokOf t k)) (fun _ h => h.elim) (fun q hq => by simp at hq; omega) (Kd.R_alloc HR3.out _) (below_alloc HB3.out _) (by simp; omega) (by omega) ?_); intro v1 w4 hR hBB hG hat)
     have hlt4 : w3.heap.size < w4.heap.size := by have := hG.size; simp at this; omega
     have HI4 := Aside0.mk ((HI3.out.below (below_alloc (Below.refl _ _) _)).blk (hG.block b (by simp; omega) hne.out.symm))
     have HB4 := Aside0.mk hBB
     have HR4 := Aside0.mk hR
     clear hBB hR hG hat HB3 HI3 HR3
     go_wp2_with fail
     refine (gap_calls s b (k + t.width) _ HI4.out (by omega)).mono ?_
     rintro e' w5 ⟨rfl, hb⟩
     have HB5 := Aside0.mk (HB4.out.trans (hb.mono HB4.out.size))
     have HI5 := Aside0.mk (HI4.out.below hb)
     have HR5 := Aside0.mk (Kd.R_below HR4.out hb)
     have hge := gapOf_ge s (k + t.width) (by omega)
     have hgl := gapOf_le s (k + t.width)
     have HG5 := Aside0.mk (gapOf_gapOf s (k + t.width) (by omega))
     have HL5 := Aside0.mk (lexs_gap s f (k + t.width) (acc.length + 1) (by omega))
     clear hb HB4 HI4 HR4
     obtain ⟨k5, hk5⟩ : ∃ q, gapOf s (k + t.width) = q := ⟨_, rfl⟩
     rw [hk5] at HG5 HL5 hge hgl ⊢
     clear hk5
     go_wp2
     go_roundw
     case rel =>
      refine ⟨k5, acc ++ [tokOf t k], f, hgl, rfl, by simp; omega, by omega, HG5, ⟨?_⟩, HR5, HI5, HB5⟩
      rw [HL2.out, HL5.out, List.length_append, List.length_singleton]
      cases lexs f (s.data.toList.drop k5) k5 (acc.length + 1) <;> simp
     case measure => simp [intOf]; omega
  ·obtain rfl : k = s.size := by omega
   obtain ⟨A, c, rfl⟩ := Kd.R_slice HR.out
   have HX := Aside0.mk (show lex s.data.toList = (acc, 0, 0) by
    have e : s.data.toList.length = s.size := by simp
    unfold lex
    rw [if_neg (by omega), HL.out, lexs_end s f s.size acc.length (Nat.le_refl _)]
    simp)
   go_wp2
   go_ret3
   exact ⟨_, by rw [HX.out]; rfl, by rw [HX.out]; exact Kd.R_mono HR.out (fun _ _ => trivial), HB.out⟩
theorem lex_calls (s : ByteArray) (w : World) : Calls Tryz.prog 55 #[.string s] w (LexPost s w) := by
 by_cases h : (20000 : Int) < s.size
 ·exact lex_long s w h
 ·exact lex_short s w (by omega)
end Go.Proofs.YtkgmempifggajaaGreatDoor.P
/- formula's identifier, key, formed, large. -/
namespace Go.Proofs.YtkgmempifggajaaGreatDoor.P
open Go.RowKit Go.Proofs.YtkgmempifggajaaGreatDoorW.PrintWords Go.Proofs.YtkgmempifggajaaGreatDoorW.PrintLast Go.Proofs.YtkgmempifggajaaGreatDoorW.PrintMore
set_option linter.unusedVariables false
set_option linter.unusedSimpArgs false
theorem addr_zero (a : Addr) : a.add 0 = a := by unfold Addr.add; split <;> simp_all
theorem tok_at {W : World} {A : Option Addr} {n : Nat} {xs : List Tok} (h : Kd.C kTok W A n xs) (k : Nat) (hk : k < xs.length) :
  ∃ ad, A = some ad ∧ W.cell? (ad.add (k * 4)) = some (.int .i64 xs[k].f0) ∧ W.cell? ⟨(ad.add (k * 4)).block, (ad.add (k * 4)).off + 1, none⟩ = some (.int .i64 xs[k].f1) ∧
   W.cell? ⟨(ad.add (k * 4)).block, (ad.add (k * 4)).off + 2, none⟩ = some (.int .i64 xs[k].f2) ∧ W.cell? ⟨(ad.add (k * 4)).block, (ad.add (k * 4)).off + 3, none⟩ = some (.string xs[k].f3) := by
 have hl : xs.length = n := h.1
 have hx : rd_T75 xs (k : Int) = xs[k] := by simp [rd_T75, List.getD_eq_getElem?_getD, List.getElem?_eq_getElem hk]
 obtain ⟨ad, e, h0, h1, h2, h3⟩ := at_T75 h (k : Int) (by omega) (by omega)
 rw [hx] at h0 h1 h2 h3
 exact ⟨ad, e, h0, h1, h2, h3⟩
def isName : List UInt8 → Bool
 | [] => false
 | c :: r => isLetter c && r.all isWord && decide (r.length ≤ 23)
def oneName (s : ByteArray) (x : List Tok × Int × Int) : Bool :=
 x.2.1 == 0 && (match x.1 with | [t] => t.f0 == 1 && t.f3.toList == s.toList | _ => false)
theorem takeWhile_all {α : Type} {p : α → Bool} {l : List α} (h : l.all p = true) : l.takeWhile p = l := by
 induction l with
 | nil => rfl
 | cons a l ih => simp at h; simp [List.takeWhile_cons, h.1, ih (by simpa using h.2)]
theorem skip_letter {c : UInt8} (h : isLetter c = true) (r : List UInt8) : skip false (c :: r) = c :: r := by
 have h2 : isBlank c = false ∧ (c == 35) = false := by
  have := u8_all (fun c => !isLetter c || (!isBlank c && !(c == 35))) (by decide +kernel) c
  simpa [h] using this
 simp [skip, h2.1, h2.2]
theorem lex_name {l : List UInt8} (h : isName l = true) : lex l = ([⟨1, 0, 0, ⟨l.toArray⟩⟩], 0, 0) := by
 cases l with
 | nil => simp [isName] at h
 | cons c r =>
  simp only [isName, Bool.and_eq_true, decide_eq_true_eq] at h
  obtain ⟨⟨h1, h2⟩, h3⟩ := h
  have hr := takeWhile_all h2
  unfold lex
  rw [if_neg (by simp; omega)]
  have e1 : lexs ((c :: r).length + 1) (c :: r) 0 0 = .ok [⟨1, 0, 0, ⟨(c :: r).toArray⟩⟩] := by
   simp only [lexs, skip_letter h1, List.isEmpty_cons, Bool.false_eq_true, if_false, token, h1, if_true, hr]
   rw [if_neg (by simp; omega)]
   have : lexs (r.length + 1) ((c :: r).drop (c :: r).length) (0 + (r.length + 1 - (r.length + 1)) + (r.length + 1)) (0 + 1) = .ok [] := by simp [lexs, skip]
   simp only [List.length_cons] at this ⊢
   rw [this]
   simp
  rw [e1]
theorem lexs_err (f : Nat) : ∀ (l : List UInt8) (a c : Nat) {x : Nat × Nat}, lexs f l a c = .error x → 2 ≤ x.1 := by
 induction f with
 | zero => intro l a c x h; simp [lexs] at h
 | succ f ih =>
  intro l a c x h
  simp only [lexs] at h
  split at h
  ·cases h
  ·split at h
   ·rename_i e he
    have := token_err he
    injection h with h
    subst h
    exact this.1
   ·split at h
    ·injection h with h; subst h; exact Nat.le_refl _
    ·split at h
     ·rename_i e he
      injection h with h
      subst h
      exact ih _ _ _ he
     ·cases h
theorem token_name {c : UInt8} {r : List UInt8} {t : Tk} (h : token (c :: r) = .ok t) (hk : t.kind = 1) : isLetter c = true ∧ t.text = c :: r.takeWhile isWord ∧ t.text.length ≤ 24 := by
 simp only [token] at h
 split at h
 ·rename_i hc
  split at h
  ·cases h
  ·rename_i hl
   injection h with h; subst h
   exact ⟨hc, rfl, by simpa using hl⟩
 ·exfalso
  repeat' split at h
  all_goals first | (injection h with h; subst h; simp at hk; done) | cases h
theorem all_takeWhile {α : Type} {p : α → Bool} {l : List α} (h : (l.takeWhile p).length = l.length) : l.all p = true := by
 induction l with
 | nil => rfl
 | cons a l ih =>
  by_cases ha : p a
  ·simp only [List.takeWhile_cons, ha, if_true, List.length_cons] at h
   simp [ha]
   simpa using ih (by omega)
  ·simp [List.takeWhile_cons, ha] at h
theorem name_lex {s : ByteArray} (h : oneName s (lex s.data.toList) = true) : isName s.data.toList = true := by
 unfold lex at h
 by_cases hl : s.data.toList.length > 20000
 ·rw [if_pos hl] at h; simp [oneName] at h
 rw [if_neg hl] at h
 simp only [lexs] at h
 generalize hm : skip false s.data.toList = m at h
 have hml := skip_suffix false s.data.toList
 rw [hm] at hml
 cases m with
 | nil => simp [oneName] at h
 | cons c r =>
  simp only [List.isEmpty_cons, Bool.false_eq_true, if_false] at h
  cases ht : token (c :: r) with
  | error e => 
   have := token_err ht
   rw [ht] at h
   simp [oneName] at h
  | ok t =>
   rw [ht] at h
   simp only [beq_iff_eq, show (0 : Nat) ≠ 5000 by decide, if_false] at h
   generalize hq : lexs s.data.toList.length (List.drop t.width (c :: r)) (0 + (s.data.toList.length - (c :: r).length) + t.width) (0 + 1) = q at h
   cases q with
   | error e => 
    exfalso
    have h2 := lexs_err _ _ _ _ hq
    have h3 : ((e.1 : Int) == 0) = false := by simp; omega
    simp [oneName, h3] at h
   | ok q =>
    cases q with
    | cons a b => simp [oneName] at h
    | nil =>
     simp only [oneName, beq_self_eq_true, Bool.true_and, Bool.and_eq_true, beq_iff_eq] at h
     obtain ⟨hk, htx⟩ := h
     have hk1 : t.kind = 1 := by omega
     have htx' : t.text = s.data.toList := by
      have := congrArg id htx
      simpa [ByteArray.toList_eq] using this
     obtain ⟨g1, g2, g3⟩ := token_name ht hk1
     have g4 := takeWhile_le isWord r
     have g5 := congrArg List.length g2
     rw [htx'] at g5 g3
     simp only [List.length_cons] at g5 hml
     have g6 : (r.takeWhile isWord).length = r.length := by omega
     have g7 := all_takeWhile g6
     rw [← htx', g2, takeWhile_all g7]
     simp only [isName, g1, g7, Bool.and_true, Bool.true_and, decide_eq_true_eq]
     omega
theorem one_name (s : ByteArray) : oneName s (lex s.data.toList) = isName s.data.toList := by
 cases h : isName s.data.toList
 ·cases h2 : oneName s (lex s.data.toList)
  ·rfl
  ·rw [name_lex h2] at h; cases h
 ·rw [lex_name h]
  simp [oneName, ByteArray.toList_eq]
set_option maxRecDepth 100000 in
theorem identifier_calls (s : ByteArray) (w : World) :
  Calls Tryz.prog 63 #[.string s] w fun e w' => e = .returned (.bool (isName s.data.toList)) ∧ Below w.heap.size w w' := by
 rw [← one_name]
 generalize hx : lex s.data.toList = x
 have HX := Aside0.mk hx
 clear hx
 obtain ⟨l, e0, a0⟩ := x
 go_enter Tryz.func63, Tryz.ntmps63
 go_wp2_with fail
 refine (lex_calls s w).mono ?_
 rintro e w1 ⟨v, rfl, hR, hb⟩
 rw [HX.out] at hR ⊢
 simp only at hR ⊢
 obtain ⟨A, c, rfl⟩ := Kd.R_slice hR
 have hC := (Kd.R_reads' hR).2.2
 have HB := Aside0.mk hb
 have HC := Aside0.mk hC
 clear hb hR hC HX
 by_cases h0 : e0 = 0
 ·subst h0
  cases l with
  | nil =>
   have HF := Aside0.mk (show oneName s ([], 0, a0) = false by rfl)
   go_wp2
   go_ret
   exact ⟨by rw [HF.out]; rfl, HB.out⟩
  | cons t l =>
   cases l with
   | nil =>
    have HF := Aside0.mk (show oneName s ([t], 0, a0) = (t.f0 == 1 && t.f3.toList == s.toList) by rfl)
    obtain ⟨ad, rfl, k0, k1, k2, k3⟩ := tok_at HC.out 0 (by simp)
    simp only [List.getElem_cons_zero, Nat.zero_mul, addr_zero] at k0 k1 k2 k3
    have hl1 : [t].length = 1 := rfl
    rw [hl1] at *
    by_cases h1 : t.f0 = 1
    ·have h1' : (t.f0 == 1) = true := by simpa using h1
     clear h1
     cases h3 : t.f3.toList == s.toList
     all_goals
      have HF2 := Aside0.mk (HF.out.trans (by rw [h1', h3]))
      clear HF
      go_wp2
      go_ret
      exact ⟨by rw [HF2.out]; rfl, HB.out⟩
    ·have h1' : (t.f0 == 1) = false := by simpa using h1
     have HF2 := Aside0.mk (HF.out.trans (by rw [h1']))
     clear h1 HF
     go_wp2
     go_ret
     exact ⟨by rw [HF2.out]; rfl, HB.out⟩
   | cons t2 l =>
    have HF := Aside0.mk (show oneName s (t :: t2 :: l, 0, a0) = false by rfl)
    have hn : (((t :: t2 :: l).length : Int) == 1) = false := by simp; omega
    obtain ⟨n, hnn⟩ : ∃ n, (t :: t2 :: l).length = n := ⟨_, rfl⟩
    rw [hnn] at hn ⊢
    clear hnn
    go_wp2
    go_ret
    exact ⟨by rw [HF.out]; rfl, HB.out⟩
 ·have h0' : (e0 == 0) = false := by simpa using h0
  have HF := Aside0.mk (show oneName s (l, e0, a0) = false by simp [oneName, h0])
  clear h0
  go_wp2
  go_ret
  exact ⟨by rw [HF.out]; rfl, HB.out⟩
end Go.Proofs.YtkgmempifggajaaGreatDoor.P
/- formula's key, formed, large. -/
namespace Go.Proofs.YtkgmempifggajaaGreatDoor.P
open Go.RowKit Go.Proofs.YtkgmempifggajaaGreatDoorW.PrintWords Go.Proofs.YtkgmempifggajaaGreatDoorW.PrintLast Go.Proofs.YtkgmempifggajaaGreatDoorW.PrintMore
set_option linter.unusedVariables false
set_option linter.unusedSimpArgs false
def keyWords : List ByteArray := [⟨#[111, 114]⟩, ⟨#[97, 110, 100]⟩, ⟨#[110, 111, 116]⟩, ⟨#[116, 114, 117, 101]⟩, ⟨#[102, 97, 108, 115, 101]⟩]
def isKey (s : ByteArray) : Bool := keyWords.any (fun a => s.toList == a.toList)
theorem key_calls (s : ByteArray) (w : World) :
  Calls Tryz.prog 51 #[.string s] w fun e w' => e = .returned (.bool (isKey s)) ∧ Below w.heap.size w w' := by
 go_enter Tryz.func51, Tryz.ntmps51
 go_wp2_with fail
 refine (contains_str keyWords _ _ s _ (lit_C w 9 keyWords (by decide))).mono ?_
 rintro e w1 ⟨rfl, rfl⟩
 go_wp2
 go_ret
 exact ⟨rfl, below_alloc (Below.refl _ _) _⟩
def formedB (x : Fm) : Bool :=
 if x.f0 = 3 then x.f4.length == 0 && decide (1 ≤ x.f2) && decide (x.f2 ≤ 6) && isName x.f1.data.toList && !isKey x.f1
 else x.f1.size == 0 && x.f2 == 0 && x.f3 == 0 &&
  (if x.f0 = 1 ∨ x.f0 = 2 then x.f4.length == 0 else if x.f0 = 4 then x.f4.length == 1 else (x.f0 == 5 || x.f0 == 6) && decide (2 ≤ x.f4.length))
def FormedPost (x : Fm) (w : World) (e : Ending) (w' : World) : Prop := e = .returned (.bool (formedB x)) ∧ Below w.heap.size w w'
set_option maxRecDepth 100000 in
theorem formed_test (x : Fm) (A : Option Addr) (c : Nat) (w : World) (hc : x.f4.length ≤ c) (h3 : x.f0 = 3) :
  Calls Tryz.prog 40 #[.agg #[.int .i64 x.f0, .string x.f1, .int .i64 x.f2, .int .i64 x.f3, .slice A x.f4.length c]] w (FormedPost x w) := by
 have HF := Aside0.mk (show formedB x = _ by unfold formedB; rw [if_pos h3])
 obtain ⟨op, name, cmp, n, kids⟩ := x
 simp only at h3 HF hc ⊢
 subst h3
 obtain ⟨len, hlen⟩ : ∃ len, kids.length = len := ⟨_, rfl⟩
 rw [hlen] at HF ⊢
 clear hlen hc
 by_cases h0 : len = 0
 ·subst h0
  by_cases h1 : 1 ≤ cmp
  ·by_cases h6 : cmp ≤ 6
   ·go_enter Tryz.func40, Tryz.ntmps40
    go_wp2_with fail
    refine (identifier_calls name _).mono ?_
    rintro e w1 ⟨rfl, hb⟩
    have hz : w.heap.size < w1.heap.size := by have := hb.size; simp at this; omega
    have HB := Aside0.mk (below_then (below_alloc (Below.refl w.heap.size w) _) (by simp) hb)
    have HBK := Aside0.mk (show w1.heap[w.heap.size]? = some (.cells #[.int .i64 3, .string name, .int .i64 cmp, .int .i64 n, .slice A 0 c] 24 (0, 0)) by rw [hb.block _ (by simp)]; (repeat (first | (refine blk_new _ _ ?_; first | rfl | (simp; done)) | refine blk_alloc_old ?_ _ | refine blk_drew_old ?_ | refine blk_drewN_old ?_ _ | assumption)))
    have hc1 := blk_cell HBK.out 1
    clear hb
    cases hn : isName name.data.toList
    ·have HF2 := Aside0.mk (HF.out.trans (show _ = false by simp [hn]))
     go_wp2
     go_ret
     exact ⟨by rw [HF2.out]; rfl, HB.out⟩
    ·go_wp2_with fail
     refine (key_calls name _).mono ?_
     rintro e w2 ⟨rfl, hb⟩
     have HB2 := Aside0.mk (HB.out.trans (hb.mono HB.out.size))
     clear hb
     have HF2 := Aside0.mk (HF.out.trans (show _ = !isKey name by simp [hn, h1, h6]))
     go_wp2
     go_ret
     exact ⟨by rw [HF2.out]; rfl, HB2.out⟩
   ·have HF2 := Aside0.mk (HF.out.trans (show _ = false by simp [h6]))
    go_enter Tryz.func40, Tryz.ntmps40
    go_wp2
    go_ret
    exact ⟨by rw [HF2.out]; rfl, below_alloc (Below.refl _ _) _⟩
  ·have HF2 := Aside0.mk (HF.out.trans (show _ = false by simp [h1]))
   go_enter Tryz.func40, Tryz.ntmps40
   go_wp2
   go_ret
   exact ⟨by rw [HF2.out]; rfl, below_alloc (Below.refl _ _) _⟩
 ·have h0' : ((len : Int) == 0) = false := by simp; omega
  have HF2 := Aside0.mk (HF.out.trans (show _ = false by simp [h0]))
  clear h0
  go_enter Tryz.func40, Tryz.ntmps40
  go_wp2
  go_ret
  exact ⟨by rw [HF2.out]; rfl, below_alloc (Below.refl _ _) _⟩
theorem empty_iff (s : ByteArray) : s.toList.isEmpty = (s.size == 0) := by
 rw [ByteArray.toList_eq]
 cases h : s.size == 0
 ·have : s.size ≠ 0 := by simpa using h
  have e : s.data.toList.length = s.size := by simp
  cases hl : s.data.toList with
  | nil => rw [hl] at e; simp at e; omega
  | cons => rfl
 ·have : s.size = 0 := by simpa using h
  have e : s.data.toList.length = s.size := by simp
  have : s.data.toList = [] := List.eq_nil_of_length_eq_zero (by omega)
  rw [this]; rfl
set_option maxRecDepth 100000 in
theorem formed_other (x : Fm) (A : Option Addr) (c : Nat) (w : World) (hc : x.f4.length ≤ c) (hm : x.f4.length ≤ 9223372036854775807) (h3 : x.f0 ≠ 3) :
  Calls Tryz.prog 40 #[.agg #[.int .i64 x.f0, .string x.f1, .int .i64 x.f2, .int .i64 x.f3, .slice A x.f4.length c]] w (FormedPost x w) := by
 have HF := Aside0.mk (show formedB x = _ by unfold formedB; rw [if_neg h3])
 obtain ⟨op, name, cmp, n, kids⟩ := x
 simp only at h3 HF hc hm ⊢
 obtain ⟨len, hlen⟩ : ∃ len, kids.length = len := ⟨_, rfl⟩
 rw [hlen] at HF hm ⊢
 clear hlen hc
 have b3 : (op == 3) = false := by simpa using h3
 have hem := empty_iff name
 cases hn : name.size == 0
 ·rw [hn] at hem
  have hem2 : (!name.toList.isEmpty) = true := by rw [hem]; rfl
  have HF2 := Aside0.mk (HF.out.trans (show _ = false by simp [hn]))
  clear hn h3
  go_enter Tryz.func40, Tryz.ntmps40
  go_wp2
  go_ret
  exact ⟨by rw [HF2.out]; rfl, below_alloc (Below.refl _ _) _⟩
 rw [hn] at hem
 have hem2 : (!name.toList.isEmpty) = false := by rw [hem]; rfl
 by_cases hcm : cmp ≠ 0
 ·have bc : (cmp == 0) = false := by simpa using hcm
  have bc2 : (cmp != 0) = true := by simpa using hcm
  have HF2 := Aside0.mk (HF.out.trans (show _ = false by simp [bc]))
  clear hn h3 hcm
  go_enter Tryz.func40, Tryz.ntmps40
  go_wp2
  go_ret
  exact ⟨by rw [HF2.out]; rfl, below_alloc (Below.refl _ _) _⟩
 obtain rfl : cmp = 0 := by simpa using hcm
 by_cases hnn : n ≠ 0
 ·have bc : (n == 0) = false := by simpa using hnn
  have bc2 : (n != 0) = true := by simpa using hnn
  have HF2 := Aside0.mk (HF.out.trans (show _ = false by simp [bc]))
  clear hn h3 hnn
  go_enter Tryz.func40, Tryz.ntmps40
  go_wp2
  go_ret
  exact ⟨by rw [HF2.out]; rfl, below_alloc (Below.refl _ _) _⟩
 obtain rfl : n = 0 := by simpa using hnn
 by_cases h1 : op = 1
 ·subst h1
  have HF2 := Aside0.mk (HF.out.trans (show _ = (len == 0) by simp [hn]))
  clear hn h3
  have hb : ((len : Int) == 0) = (len == 0) := by rw [Bool.eq_iff_iff]; simp
  go_enter Tryz.func40, Tryz.ntmps40
  go_wp2
  go_ret
  exact ⟨by rw [HF2.out]; rfl, below_alloc (Below.refl _ _) _⟩
 by_cases h2 : op = 2
 ·subst h2
  have HF2 := Aside0.mk (HF.out.trans (show _ = (len == 0) by simp [hn]))
  clear hn h3 h1
  have hb : ((len : Int) == 0) = (len == 0) := by rw [Bool.eq_iff_iff]; simp
  go_enter Tryz.func40, Tryz.ntmps40
  go_wp2
  go_ret
  exact ⟨by rw [HF2.out]; rfl, below_alloc (Below.refl _ _) _⟩
 have b1 : (op == 1) = false := by simpa using h1
 have b2 : (op == 2) = false := by simpa using h2
 by_cases h4 : op = 4
 ·subst h4
  have HF2 := Aside0.mk (HF.out.trans (show _ = (len == 1) by simp [hn]))
  clear hn h3 h1 h2
  have hb : ((len : Int) == 1) = (len == 1) := by rw [Bool.eq_iff_iff]; simp; omega
  go_enter Tryz.func40, Tryz.ntmps40
  go_wp2
  go_ret
  exact ⟨by rw [HF2.out]; rfl, below_alloc (Below.refl _ _) _⟩
 have b4 : (op == 4) = false := by simpa using h4
 by_cases h5 : op = 5
 ·subst h5
  have HF2 := Aside0.mk (HF.out.trans (show _ = decide (2 ≤ len) by simp [hn]))
  clear hn h3 h1 h2 h4
  have hb : decide ((2 : Int) ≤ len) = decide (2 ≤ len) := by rw [Bool.eq_iff_iff]; simp; omega
  go_enter Tryz.func40, Tryz.ntmps40
  go_wp2
  go_ret
  exact ⟨by rw [HF2.out]; rfl, below_alloc (Below.refl _ _) _⟩
 have b5 : (op == 5) = false := by simpa using h5
 by_cases h6 : op = 6
 ·subst h6
  have HF2 := Aside0.mk (HF.out.trans (show _ = decide (2 ≤ len) by simp [hn]))
  clear hn h3 h1 h2 h4 h5
  have hb : decide ((2 : Int) ≤ len) = decide (2 ≤ len) := by rw [Bool.eq_iff_iff]; simp; omega
  go_enter Tryz.func40, Tryz.ntmps40
  go_wp2
  go_ret
  exact ⟨by rw [HF2.out]; rfl, below_alloc (Below.refl _ _) _⟩
 have b6 : (op == 6) = false := by simpa using h6
 have HF2 := Aside0.mk (HF.out.trans (show _ = false by simp [h1, h2, h4, b5, b6]))
 clear hn h3 h1 h2 h4 h5 h6
 go_enter Tryz.func40, Tryz.ntmps40
 go_wp2
 go_ret
 exact ⟨by rw [HF2.out]; rfl, below_alloc (Below.refl _ _) _⟩
theorem formed_calls (x : Fm) (A : Option Addr) (c : Nat) (w : World) (hc : x.f4.length ≤ c) (hm : x.f4.length ≤ 9223372036854775807) :
  Calls Tryz.prog 40 #[.agg #[.int .i64 x.f0, .string x.f1, .int .i64 x.f2, .int .i64 x.f3, .slice A x.f4.length c]] w (FormedPost x w) := by
 by_cases h3 : x.f0 = 3
 ·exact formed_test x A c w hc h3
 ·exact formed_other x A c w hc hm h3
def isLarge (x : Fm) : Bool := decide (200 < size x) || decide (20 < depth x)
theorem large_calls (x : Fm) (A : Option Addr) (c : Nat) (w : World) (hC : Kd.C kFm w A x.f4.length x.f4) (hc : x.f4.length ≤ c) (hs : size x ≤ 100000000) :
  Calls Tryz.prog 37 #[.agg #[.int .i64 x.f0, .string x.f1, .int .i64 x.f2, .int .i64 x.f3, .slice A x.f4.length c]] w fun e w' => e = .returned (.bool (isLarge x)) ∧ Below w.heap.size w w' := by
 have HC := Aside0.mk hC
 have HS := Aside0.mk hs
 have hd := depth_le_size x
 clear hC hs
 by_cases h1 : (200 : Int) < (size x : Int)
 ·have HF := Aside0.mk (show isLarge x = true by simp [isLarge]; omega)
  go_enter Tryz.func37, Tryz.ntmps37
  go_wp2_with fail
  refine (Size_calls x A c _ (Kd.C_below HC.out (below_alloc (Below.refl _ _) _)) hc HS.out).mono ?_
  rintro e w1 ⟨rfl, hb⟩
  have HB := Aside0.mk (below_then (below_alloc (Below.refl w.heap.size w) _) (by simp) hb)
  clear hb
  go_wp2
  go_ret
  exact ⟨by rw [HF.out]; rfl, HB.out⟩
 ·have HF := Aside0.mk (show isLarge x = (decide ((200 : Int) < size x) || decide ((20 : Int) < depth x)) by
   simp only [isLarge]
   rw [Bool.eq_iff_iff]; simp; omega)
  go_enter Tryz.func37, Tryz.ntmps37
  go_wp2_with fail
  refine (Size_calls x A c _ (Kd.C_below HC.out (below_alloc (Below.refl _ _) _)) hc HS.out).mono ?_
  rintro e w1 ⟨rfl, hb⟩
  have HB := Aside0.mk (below_then (below_alloc (Below.refl w.heap.size w) _) (by simp) hb)
  clear hb
  go_wp2
  go_ret
  exact ⟨by rw [HF.out]; rfl, HB.out⟩
end Go.Proofs.YtkgmempifggajaaGreatDoor.P
/- fact.Index: the index of a fact with a name. -/
namespace Go.Proofs.YtkgmempifggajaaGreatDoor.P
open Go.RowKit Go.Proofs.YtkgmempifggajaaGreatDoorW.PrintWords Go.Proofs.YtkgmempifggajaaGreatDoorW.PrintLast Go.Proofs.YtkgmempifggajaaGreatDoorW.PrintMore
set_option linter.unusedVariables false
set_option linter.unusedSimpArgs false
theorem fact_at {W : World} {A : Option Addr} {n : Nat} {xs : List Fact} (h : Kd.C kFact W A n xs) (k : Nat) (hk : k < xs.length) :
  ∃ ad, A = some ad ∧ W.cell? (ad.add (k * 4)) = some (.string xs[k].f0) ∧ W.cell? ⟨(ad.add (k * 4)).block, (ad.add (k * 4)).off + 1, none⟩ = some (.int .i64 xs[k].f1) ∧
   W.cell? ⟨(ad.add (k * 4)).block, (ad.add (k * 4)).off + 2, none⟩ = some (.int .i64 xs[k].f2) ∧ W.cell? ⟨(ad.add (k * 4)).block, (ad.add (k * 4)).off + 3, none⟩ = some (.int .i64 xs[k].f3) := by
 have hl : xs.length = n := h.1
 have hx : rd_T49 xs (k : Int) = xs[k] := by simp [rd_T49, List.getD_eq_getElem?_getD, List.getElem?_eq_getElem hk]
 obtain ⟨ad, e, h0, h1, h2, h3⟩ := at_T49 h (k : Int) (by omega) (by omega)
 rw [hx] at h0 h1 h2 h3
 exact ⟨ad, e, h0, h1, h2, h3⟩
def named (name : ByteArray) (f : Fact) : Bool := f.f0.toList == name.toList
def indexOf (l : List Fact) (name : ByteArray) : Int := idxBy (named name) l
theorem is_named (f : Fact) (bs : Nat) (name : ByteArray) (w : World) (hb : w.heap[bs]? = some (.cells #[.string name] 9 (0, 0))) :
  Calls Tryz.prog 65 #[.agg #[.string f.f0, .int .i64 f.f1, .int .i64 f.f2, .int .i64 f.f3], .pointer (some ⟨bs, 0, none⟩)] w fun e w' => e = .returned (.bool (named name f)) ∧ Below w.heap.size w w' := by
 have hc := cell_of_one hb
 have hlt := lt_of_block hb
 clear hb
 go_enter Tryz.func65, Tryz.ntmps65
 go_wp2
 go_ret
 exact ⟨rfl, below_alloc (Below.refl _ _) _⟩
theorem index_func (l : List Fact) (A : Option Addr) (c : Nat) (bs : Nat) (name : ByteArray) (w : World) (hC : Kd.C kFact w A l.length l) (hb : w.heap[bs]? = some (.cells #[.string name] 9 (0, 0))) :
  Calls Tryz.prog 64 #[.slice A l.length c, .func (.func 65) #[] #[.pointer (some ⟨bs, 0, none⟩)]] w fun e w' => e = .returned (.int .i64 (indexOf l name)) ∧ Below w.heap.size w w' := by
 have hm : l.length ≤ 9223372036854775807 := hC.2.1
 have HC := Aside0.mk hC
 have HB := Aside0.mk hb
 clear hC hb
 go_enter Tryz.func64, Tryz.ntmps64
 go_wp2
 go_loopw [8] (fun i wr => ∃ k : Nat, k ≤ l.length ∧ i = .int .i64 k ∧ Aside0 (∀ j (hj : j < k) (hl : j < l.length), named name l[j] = false) ∧ Aside0 (Below w.heap.size w wr)) (fun i _ => l.length - (intOf i).toNat)
 case atStart => exact ⟨0, Nat.zero_le _, rfl, ⟨fun j hj => absurd hj (by omega)⟩, ⟨Below.refl _ _⟩⟩
 case round =>
  obtain ⟨k, hk, rfl, HN, HW⟩ := hrel
  by_cases hlt : k < l.length
  ·obtain ⟨ad, rfl, k0, k1, k2, k3⟩ := fact_at (Kd.C_below HC.out HW.out) k hlt
   have HB2 := Aside0.mk ((HW.out.block bs (lt_of_block HB.out)).trans HB.out)
   cases hv : named name l[k]
   all_goals
    go_wp2_with fail
    refine (is_named l[k] bs name _ HB2.out).mono ?_
    rintro e w1 ⟨rfl, hb⟩
    have HW2 := Aside0.mk (HW.out.trans (hb.mono HW.out.size))
    clear hb
    go_wp2
   ·go_roundw
    case rel => exact ⟨k + 1, by omega, by go_num, ⟨fun j hj hl => by
     by_cases e : j = k
     ·subst e; exact hv
     ·exact HN.out j (by omega) hl⟩, HW2⟩
    case measure => simp [intOf]; omega
   ·go_ret
    exact ⟨by rw [indexOf, idxBy_hit hlt (fun j hj => HN.out j hj (by omega)) hv]; rfl, HW2.out⟩
  ·obtain rfl : k = l.length := by omega
   go_wp2
   go_ret
   exact ⟨by rw [indexOf, idxBy_none (fun j hj => HN.out j hj hj)]; rfl, HW.out⟩
theorem index_calls (l : List Fact) (A : Option Addr) (c : Nat) (name : ByteArray) (w : World) (hC : Kd.C kFact w A l.length l) :
  Calls Tryz.prog 41 #[.agg #[.slice A l.length c], .string name] w fun e w' => e = .returned (.int .i64 (indexOf l name)) ∧ Below w.heap.size w w' := by
 have HC := Aside0.mk hC
 clear hC
 go_enter Tryz.func41, Tryz.ntmps41
 go_wp2_with fail
 refine (index_func l A c (w.heap.size + 1) name _ (Kd.C_below HC.out (below_alloc (below_alloc (Below.refl _ _) _) _)) (by (repeat (first | (refine blk_new _ _ ?_; first | rfl | (simp; done)) | refine blk_alloc_old ?_ _ | refine blk_drew_old ?_ | refine blk_drewN_old ?_ _ | assumption)))).mono ?_
 rintro e w1 ⟨rfl, hb⟩
 have HB := Aside0.mk (below_then (below_alloc (below_alloc (Below.refl w.heap.size w) _) _) (by simp; omega) hb)
 clear hb
 go_wp2
 go_ret
 exact ⟨rfl, HB.out⟩
end Go.Proofs.YtkgmempifggajaaGreatDoor.P
/- formula's first with its two functions; Check. (Printed by wip/tools/gen_check.py.) -/
namespace Go.Proofs.YtkgmempifggajaaGreatDoor.P
open Go.RowKit Go.Proofs.YtkgmempifggajaaGreatDoorW.PrintWords Go.Proofs.YtkgmempifggajaaGreatDoorW.PrintLast Go.Proofs.YtkgmempifggajaaGreatDoorW.PrintMore
set_option linter.unusedVariables false
set_option linter.unusedSimpArgs false
theorem fm_atC {W : World} {A : Option Addr} {n : Nat} {xs : List Fm} (h : Kd.C kFm W A n xs) (k : Nat) (hk : k < xs.length) :
  ∃ ad A4 c4, A = some ad ∧ W.cell? (ad.add (k * 5)) = some (.int .i64 xs[k].f0) ∧ W.cell? ⟨(ad.add (k * 5)).block, (ad.add (k * 5)).off + 1, none⟩ = some (.string xs[k].f1) ∧
   W.cell? ⟨(ad.add (k * 5)).block, (ad.add (k * 5)).off + 2, none⟩ = some (.int .i64 xs[k].f2) ∧ W.cell? ⟨(ad.add (k * 5)).block, (ad.add (k * 5)).off + 3, none⟩ = some (.int .i64 xs[k].f3) ∧
   W.cell? ⟨(ad.add (k * 5)).block, (ad.add (k * 5)).off + 4, none⟩ = some (.slice A4 xs[k].f4.length c4) ∧ xs[k].f4.length ≤ c4 ∧ Kd.C kFm W A4 xs[k].f4.length xs[k].f4 := by
 have hl : xs.length = n := h.1
 have hx : rd_T24 xs (k : Int) = xs[k] := by simp [rd_T24, List.getD_eq_getElem?_getD, List.getElem?_eq_getElem hk]
 obtain ⟨ad, A4, c4, e, h0, h1, h2, h3, h4, l4, g4⟩ := at_T24 h (k : Int) (by omega) (by omega)
 rw [hx] at h0 h1 h2 h3 h4 l4 g4
 exact ⟨ad, A4, c4, e, h0, h1, h2, h3, h4, l4, g4⟩
mutual
def firstE (g : Fm → Int) : Fm → Int
 | ⟨a, b, c, d, kids⟩ => if g ⟨a, b, c, d, kids⟩ = 0 then firstEs g kids else g ⟨a, b, c, d, kids⟩
def firstEs (g : Fm → Int) : List Fm → Int
 | [] => 0
 | k :: ks => if firstE g k = 0 then firstEs g ks else firstE g k
end
theorem firstE_eq (g : Fm → Int) (x : Fm) : firstE g x = if g x = 0 then firstEs g x.f4 else g x := by cases x; simp [firstE]
theorem firstEs_append (g : Fm → Int) (l m : List Fm) : firstEs g (l ++ m) = if firstEs g l = 0 then firstEs g m else firstEs g l := by
 induction l with
 | nil => simp [firstEs]
 | cons a l ih =>
  simp only [List.cons_append, firstEs]
  by_cases h : firstE g a = 0
  ·simp [h, ih]
  ·simp [h]
theorem firstEs_snoc (g : Fm → Int) (l : List Fm) (k : Nat) (h : k < l.length) (h0 : firstEs g (l.take k) = 0) : firstEs g (l.take (k + 1)) = firstE g l[k] := by
 rw [take_snoc_ l k h, firstEs_append, if_pos h0]
 simp only [firstEs]
 split <;> simp_all
theorem firstEs_stop (g : Fm → Int) (l : List Fm) (k : Nat) (h : firstEs g (l.take k) ≠ 0) : firstEs g l = firstEs g (l.take k) := by
 conv => lhs; rw [← List.take_append_drop k l]
 rw [firstEs_append, if_neg h]
def checkNode (l : List Fact) (x : Fm) : Int :=
 if formedB x = false then 1 else if x.f0 ≠ 3 then 0 else if x.f3 < 0 ∨ 1000000 < x.f3 then 10 else if indexOf l x.f1 < 0 then 7 else 0
def badNode (x : Fm) : Int :=
 if formedB x = false then 1 else if x.f0 = 3 ∧ (x.f3 < 0 ∨ 1000000 < x.f3 ∨ isKey x.f1 = true) then 1 else 0
structure Dom (w : World) (bd : Nat) (l : List Fact) : Prop where
 blk : ∃ A c, w.heap[bd]? = some (.cells #[.slice A l.length c] 27 (0, 0)) ∧ Kd.C kFact w A l.length l
theorem Dom.below {w w1 : World} {bd : Nat} {l : List Fact} (h : Dom w bd l) (hb : Below w.heap.size w w1) : Dom w1 bd l := by
 obtain ⟨A, c, h1, h2⟩ := h.blk
 exact ⟨A, c, (hb.block _ (lt_of_block h1)).trans h1, Kd.C_below h2 hb⟩
structure NoDom (w : World) : Prop where
 triv : True
theorem NoDom.below {w w1 : World} (h : NoDom w) (hb : Below w.heap.size w w1) : NoDom w1 := ⟨trivial⟩
set_option maxRecDepth 100000 in
theorem check_node (x : Fm) (A : Option Addr) (c : Nat) (w : World) (bd : Nat) (l : List Fact) (hD : Dom w bd l) (hc : x.f4.length ≤ c) (hm : x.f4.length ≤ 9223372036854775807) :
  Calls Tryz.prog 39 #[.agg #[.int .i64 x.f0, .string x.f1, .int .i64 x.f2, .int .i64 x.f3, .slice A x.f4.length c], .pointer (some ⟨bd, 0, none⟩)] w fun e w' => e = .returned (.int .i64 (checkNode l x)) ∧ Below w.heap.size w w' := by
 have HD := Aside0.mk hD
 clear hD
 go_enter Tryz.func39, Tryz.ntmps39
 go_wp2_with fail
 refine (formed_calls x A c _ hc hm).mono ?_
 rintro e w1 ⟨rfl, hb⟩
 have hz : w.heap.size < w1.heap.size := by have := hb.size; simp at this; omega
 have HB := Aside0.mk (below_then (below_alloc (Below.refl w.heap.size w) _) (by simp) hb)
 have HBK := Aside0.mk (show w1.heap[w.heap.size]? = some (.cells #[.int .i64 x.f0, .string x.f1, .int .i64 x.f2, .int .i64 x.f3, .slice A x.f4.length c] 24 (0, 0)) by rw [hb.block _ (by simp)]; (repeat (first | (refine blk_new _ _ ?_; first | rfl | (simp; done)) | refine blk_alloc_old ?_ _ | refine blk_drew_old ?_ | refine blk_drewN_old ?_ _ | assumption)))
 have HD1 := Aside0.mk (HD.out.below HB.out)
 clear hb HD
 have hc0 := blk_cell HBK.out 0
 have hc1 := blk_cell HBK.out 1
 have hc3 := blk_cell HBK.out 3
 cases hf : formedB x
 ·have HF2 := Aside0.mk (show checkNode l x = 1 by unfold checkNode; rw [if_pos hf])
  go_wp2
  go_ret
  exact ⟨by rw [HF2.out]; rfl, HB.out⟩
 have HF2 := Aside0.mk (show checkNode l x = _ by unfold checkNode; rw [if_neg (by rw [hf]; decide)])
 by_cases h3 : ¬ x.f0 = 3
 ·have b3 : (x.f0 != 3) = true := by simpa using h3
  have HF3 := Aside0.mk (HF2.out.trans (if_pos h3))
  clear HF2 h3
  go_wp2
  go_ret
  exact ⟨by rw [HF3.out]; rfl, HB.out⟩
 replace h3 : x.f0 = 3 := by simpa using h3
 have b3 : (x.f0 != 3) = false := by simpa using h3
 have HF3 := Aside0.mk (HF2.out.trans (if_neg (by simpa using h3)))
 clear HF2 h3
 by_cases hn : x.f3 < 0
 ·have HF4 := Aside0.mk (HF3.out.trans (if_pos (.inl hn)))
  clear HF3
  go_wp2
  go_ret
  exact ⟨by rw [HF4.out]; rfl, HB.out⟩
 by_cases hx : 1000000 < x.f3
 ·have HF4 := Aside0.mk (HF3.out.trans (if_pos (.inr hx)))
  clear HF3
  go_wp2
  go_ret
  exact ⟨by rw [HF4.out]; rfl, HB.out⟩
 have HF4 := Aside0.mk (HF3.out.trans (if_neg (by omega)))
 clear HF3
 obtain ⟨A2, c2, hbd, hC2⟩ := HD1.out.blk
 have hcd := cell_of_one hbd
 have HC2 := Aside0.mk hC2
 clear hbd hC2
 go_wp2_with fail
 refine (index_calls l A2 c2 x.f1 _ HC2.out).mono ?_
 rintro e w2 ⟨rfl, hb⟩
 have HB2 := Aside0.mk (HB.out.trans (hb.mono HB.out.size))
 clear hb
 by_cases hi : indexOf l x.f1 < 0
 ·have HF5 := Aside0.mk (HF4.out.trans (if_pos hi))
  clear HF4
  go_wp2
  go_ret
  exact ⟨by rw [HF5.out]; rfl, HB2.out⟩
 ·have HF5 := Aside0.mk (HF4.out.trans (if_neg hi))
  clear HF4
  go_wp2
  go_ret
  exact ⟨by rw [HF5.out]; rfl, HB2.out⟩
set_option maxRecDepth 100000 in
theorem bad_node (x : Fm) (A : Option Addr) (c : Nat) (w : World) (hD : NoDom w) (hc : x.f4.length ≤ c) (hm : x.f4.length ≤ 9223372036854775807) :
  Calls Tryz.prog 50 #[.agg #[.int .i64 x.f0, .string x.f1, .int .i64 x.f2, .int .i64 x.f3, .slice A x.f4.length c]] w fun e w' => e = .returned (.int .i64 (badNode x)) ∧ Below w.heap.size w w' := by
 clear hD
 go_enter Tryz.func50, Tryz.ntmps50
 go_wp2_with fail
 refine (formed_calls x A c _ hc hm).mono ?_
 rintro e w1 ⟨rfl, hb⟩
 have hz : w.heap.size < w1.heap.size := by have := hb.size; simp at this; omega
 have HB := Aside0.mk (below_then (below_alloc (Below.refl w.heap.size w) _) (by simp) hb)
 have HBK := Aside0.mk (show w1.heap[w.heap.size]? = some (.cells #[.int .i64 x.f0, .string x.f1, .int .i64 x.f2, .int .i64 x.f3, .slice A x.f4.length c] 24 (0, 0)) by rw [hb.block _ (by simp)]; (repeat (first | (refine blk_new _ _ ?_; first | rfl | (simp; done)) | refine blk_alloc_old ?_ _ | refine blk_drew_old ?_ | refine blk_drewN_old ?_ _ | assumption)))
 clear hb
 have hc0 := blk_cell HBK.out 0
 have hc1 := blk_cell HBK.out 1
 have hc3 := blk_cell HBK.out 3
 cases hf : formedB x
 ·have HF2 := Aside0.mk (show badNode x = 1 by unfold badNode; rw [if_pos hf])
  go_wp2
  go_ret
  exact ⟨by rw [HF2.out]; rfl, HB.out⟩
 have HF2 := Aside0.mk (show badNode x = _ by unfold badNode; rw [if_neg (by rw [hf]; decide)])
 by_cases h3 : ¬ x.f0 = 3
 ·have b3 : (x.f0 == 3) = false := by simpa using h3
  have HF3 := Aside0.mk (HF2.out.trans (if_neg (fun h => h3 h.1)))
  clear HF2 h3
  go_wp2
  go_ret
  exact ⟨by rw [HF3.out]; rfl, HB.out⟩
 replace h3 : x.f0 = 3 := by simpa using h3
 have b3 : (x.f0 == 3) = true := by simpa using h3
 by_cases hn : x.f3 < 0
 ·have HF4 := Aside0.mk (HF2.out.trans (if_pos ⟨h3, .inl hn⟩))
  clear HF2 h3
  go_wp2
  go_ret
  exact ⟨by rw [HF4.out]; rfl, HB.out⟩
 by_cases hx : 1000000 < x.f3
 ·have HF4 := Aside0.mk (HF2.out.trans (if_pos ⟨h3, .inr (.inl hx)⟩))
  clear HF2 h3
  go_wp2
  go_ret
  exact ⟨by rw [HF4.out]; rfl, HB.out⟩
 cases hk : isKey x.f1
 ·have HF4 := Aside0.mk (HF2.out.trans (if_neg (fun h => by rcases h.2 with h | h | h <;> first | omega | (rw [hk] at h; cases h))))
  clear HF2 h3
  go_wp2_with fail
  refine (key_calls x.f1 _).mono ?_
  rintro e w2 ⟨rfl, hb⟩
  have HB2 := Aside0.mk (HB.out.trans (hb.mono HB.out.size))
  clear hb
  go_wp2
  go_ret
  exact ⟨by rw [HF4.out]; rfl, HB2.out⟩
 ·have HF4 := Aside0.mk (HF2.out.trans (if_pos ⟨h3, .inr (.inr hk)⟩))
  clear HF2 h3
  go_wp2_with fail
  refine (key_calls x.f1 _).mono ?_
  rintro e w2 ⟨rfl, hb⟩
  have HB2 := Aside0.mk (HB.out.trans (hb.mono HB.out.size))
  clear hb
  go_wp2
  go_ret
  exact ⟨by rw [HF4.out]; rfl, HB2.out⟩
set_option maxRecDepth 100000 in
theorem first_check (N : Nat) : ∀ (x : Fm) (A : Option Addr) (c : Nat) (w : World) (bd : Nat) (l : List Fact), size x ≤ N → Dom w bd l → Kd.C kFm w A x.f4.length x.f4 → x.f4.length ≤ c →
  Calls Tryz.prog 38 #[.agg #[.int .i64 x.f0, .string x.f1, .int .i64 x.f2, .int .i64 x.f3, .slice A x.f4.length c], .func (.func 39) #[] #[.pointer (some ⟨bd, 0, none⟩)]] w fun e w' => e = .returned (.int .i64 (firstE (checkNode l) x)) ∧ Below w.heap.size w w' := by
 induction N with
 | zero => intro x; intros; have := size_pos x; omega
 | succ N ih =>
 intro x A c w bd l hN hD hC hc
 have hm : x.f4.length ≤ 9223372036854775807 := hC.2.1
 have hs := size_eq x
 have HC := Aside0.mk hC
 have HD := Aside0.mk hD
 have HS := Aside0.mk hs
 have IH := Aside0.mk ih
 clear hC hD hs ih
 go_enter Tryz.func38, Tryz.ntmps38
 go_wp2_with fail
 refine (check_node x A c _ bd l (HD.out.below (below_alloc (Below.refl _ _) _)) hc hm).mono ?_
 rintro e w1 ⟨rfl, hb⟩
 have hz : w.heap.size < w1.heap.size := by have := hb.size; simp at this; omega
 have HB := Aside0.mk (below_then (below_alloc (Below.refl w.heap.size w) _) (by simp) hb)
 have HBK := Aside0.mk (show w1.heap[w.heap.size]? = some (.cells #[.int .i64 x.f0, .string x.f1, .int .i64 x.f2, .int .i64 x.f3, .slice A x.f4.length c] 24 (0, 0)) by rw [hb.block _ (by simp)]; (repeat (first | (refine blk_new _ _ ?_; first | rfl | (simp; done)) | refine blk_alloc_old ?_ _ | refine blk_drew_old ?_ | refine blk_drewN_old ?_ _ | assumption)))
 clear hb
 have hc4 := blk_cell HBK.out 4
 go_wp2
 go_loopw [5, 14] (fun v5 v14 wr => ∃ k : Nat, k ≤ x.f4.length ∧ v14 = .int .i64 k ∧ v5 = .int .i64 (if (checkNode l) x = 0 then firstEs (checkNode l) (x.f4.take k) else (checkNode l) x) ∧ Aside0 ((checkNode l) x ≠ 0 → k = 0) ∧ Aside0 (Below w.heap.size w wr)) (fun _ v14 _ => x.f4.length - (intOf v14).toNat)
 case atStart =>
  refine ⟨0, Nat.zero_le _, rfl, ?_, ⟨fun _ => rfl⟩, HB⟩
  by_cases h0 : (checkNode l) x = 0
  ·rw [if_pos h0, h0]; simp [firstEs]
  ·rw [if_neg h0]
 case round =>
  obtain ⟨k, hk, rfl, rfl, HK, HW⟩ := hrel
  obtain ⟨q, hq⟩ : ∃ q, (if (checkNode l) x = 0 then firstEs (checkNode l) (x.f4.take k) else (checkNode l) x) = q := ⟨_, rfl⟩
  have HQ := Aside0.mk hq
  rw [hq]
  clear hq hc4
  by_cases hlt : k < x.f4.length
  ·by_cases h0 : q = 0
   ·subst h0
    have hg0 : (checkNode l) x = 0 := by
     have := HQ.out
     by_cases hg : (checkNode l) x = 0
     ·exact hg
     ·rw [if_neg hg] at this; exact this
    have HG := Aside0.mk hg0
    have HT := Aside0.mk (show firstEs (checkNode l) (x.f4.take k) = 0 by have := HQ.out; rwa [if_pos hg0] at this)
    clear hg0
    obtain ⟨ad, A4, c4, rfl, k0, k1, k2, k3, k4, l4, C4⟩ := fm_atC (Kd.C_below HC.out HW.out) k hlt
    have HC4 := Aside0.mk C4
    have HSZ := Aside0.mk (size_mem x.f4 k hlt)
    clear C4
    go_wp2_with fail
    refine (IH.out x.f4[k] A4 c4 _ bd l (by have := HS.out; have := HSZ.out; omega) ((HD.out.below HW.out).below (below_alloc (Below.refl _ _) _)) (Kd.C_below HC4.out (below_alloc (Below.refl _ _) _)) l4).mono ?_
    rintro e w2 ⟨rfl, hb⟩
    have HW2 := Aside0.mk (HW.out.trans ((below_then (below_alloc (Below.refl wr.heap.size wr) _) (by simp) hb).mono HW.out.size))
    clear hb
    go_wp2
    go_roundw
    case rel => exact ⟨k + 1, by omega, by go_num, by rw [if_pos HG.out, firstEs_snoc _ _ _ hlt HT.out], ⟨fun h => absurd HG.out h⟩, HW2⟩
    case measure => simp [intOf]; omega
   ·have b0 : (q != 0) = true := by simpa using h0
    have HX := Aside0.mk (show firstE (checkNode l) x = q by
     rw [firstE_eq]
     by_cases hg : (checkNode l) x = 0
     ·have := HQ.out
      rw [if_pos hg] at this ⊢
      rw [firstEs_stop _ _ k (by rw [this]; exact h0), this]
     ·have := HQ.out
      rw [if_neg hg] at this ⊢
      exact this)
    clear h0
    obtain ⟨ad, A4, c4, rfl, k0, k1, k2, k3, k4, l4, C4⟩ := fm_atC (Kd.C_below HC.out HW.out) k hlt
    have HC4 := Aside0.mk C4
    clear C4
    go_wp2
    go_ret
    exact ⟨by rw [HX.out]; rfl, below_alloc HW.out _⟩
  ·have HX := Aside0.mk (show firstE (checkNode l) x = q by
    rw [firstE_eq, ← HQ.out, List.take_of_length_le (by omega)])
   go_wp2
   go_ret
   exact ⟨by rw [HX.out]; rfl, HW.out⟩
set_option maxRecDepth 100000 in
theorem first_bad (N : Nat) : ∀ (x : Fm) (A : Option Addr) (c : Nat) (w : World), size x ≤ N → NoDom w → Kd.C kFm w A x.f4.length x.f4 → x.f4.length ≤ c →
  Calls Tryz.prog 38 #[.agg #[.int .i64 x.f0, .string x.f1, .int .i64 x.f2, .int .i64 x.f3, .slice A x.f4.length c], .func (.func 50) #[] #[]] w fun e w' => e = .returned (.int .i64 (firstE (badNode) x)) ∧ Below w.heap.size w w' := by
 induction N with
 | zero => intro x; intros; have := size_pos x; omega
 | succ N ih =>
 intro x A c w hN hD hC hc
 have hm : x.f4.length ≤ 9223372036854775807 := hC.2.1
 have hs := size_eq x
 have HC := Aside0.mk hC
 have HD := Aside0.mk hD
 have HS := Aside0.mk hs
 have IH := Aside0.mk ih
 clear hC hD hs ih
 go_enter Tryz.func38, Tryz.ntmps38
 go_wp2_with fail
 refine (bad_node x A c _ (HD.out.below (below_alloc (Below.refl _ _) _)) hc hm).mono ?_
 rintro e w1 ⟨rfl, hb⟩
 have hz : w.heap.size < w1.heap.size := by have := hb.size; simp at this; omega
 have HB := Aside0.mk (below_then (below_alloc (Below.refl w.heap.size w) _) (by simp) hb)
 have HBK := Aside0.mk (show w1.heap[w.heap.size]? = some (.cells #[.int .i64 x.f0, .string x.f1, .int .i64 x.f2, .int .i64 x.f3, .slice A x.f4.length c] 24 (0, 0)) by rw [hb.block _ (by simp)]; (repeat (first | (refine blk_new _ _ ?_; first | rfl | (simp; done)) | refine blk_alloc_old ?_ _ | refine blk_drew_old ?_ | refine blk_drewN_old ?_ _ | assumption)))
 clear hb
 have hc4 := blk_cell HBK.out 4
 go_wp2
 go_loopw [5, 14] (fun v5 v14 wr => ∃ k : Nat, k ≤ x.f4.length ∧ v14 = .int .i64 k ∧ v5 = .int .i64 (if (badNode) x = 0 then firstEs (badNode) (x.f4.take k) else (badNode) x) ∧ Aside0 ((badNode) x ≠ 0 → k = 0) ∧ Aside0 (Below w.heap.size w wr)) (fun _ v14 _ => x.f4.length - (intOf v14).toNat)
 case atStart =>
  refine ⟨0, Nat.zero_le _, rfl, ?_, ⟨fun _ => rfl⟩, HB⟩
  by_cases h0 : (badNode) x = 0
  ·rw [if_pos h0, h0]; simp [firstEs]
  ·rw [if_neg h0]
 case round =>
  obtain ⟨k, hk, rfl, rfl, HK, HW⟩ := hrel
  obtain ⟨q, hq⟩ : ∃ q, (if (badNode) x = 0 then firstEs (badNode) (x.f4.take k) else (badNode) x) = q := ⟨_, rfl⟩
  have HQ := Aside0.mk hq
  rw [hq]
  clear hq hc4
  by_cases hlt : k < x.f4.length
  ·by_cases h0 : q = 0
   ·subst h0
    have hg0 : (badNode) x = 0 := by
     have := HQ.out
     by_cases hg : (badNode) x = 0
     ·exact hg
     ·rw [if_neg hg] at this; exact this
    have HG := Aside0.mk hg0
    have HT := Aside0.mk (show firstEs (badNode) (x.f4.take k) = 0 by have := HQ.out; rwa [if_pos hg0] at this)
    clear hg0
    obtain ⟨ad, A4, c4, rfl, k0, k1, k2, k3, k4, l4, C4⟩ := fm_atC (Kd.C_below HC.out HW.out) k hlt
    have HC4 := Aside0.mk C4
    have HSZ := Aside0.mk (size_mem x.f4 k hlt)
    clear C4
    go_wp2_with fail
    refine (IH.out x.f4[k] A4 c4 _ (by have := HS.out; have := HSZ.out; omega) ((HD.out.below HW.out).below (below_alloc (Below.refl _ _) _)) (Kd.C_below HC4.out (below_alloc (Below.refl _ _) _)) l4).mono ?_
    rintro e w2 ⟨rfl, hb⟩
    have HW2 := Aside0.mk (HW.out.trans ((below_then (below_alloc (Below.refl wr.heap.size wr) _) (by simp) hb).mono HW.out.size))
    clear hb
    go_wp2
    go_roundw
    case rel => exact ⟨k + 1, by omega, by go_num, by rw [if_pos HG.out, firstEs_snoc _ _ _ hlt HT.out], ⟨fun h => absurd HG.out h⟩, HW2⟩
    case measure => simp [intOf]; omega
   ·have b0 : (q != 0) = true := by simpa using h0
    have HX := Aside0.mk (show firstE (badNode) x = q by
     rw [firstE_eq]
     by_cases hg : (badNode) x = 0
     ·have := HQ.out
      rw [if_pos hg] at this ⊢
      rw [firstEs_stop _ _ k (by rw [this]; exact h0), this]
     ·have := HQ.out
      rw [if_neg hg] at this ⊢
      exact this)
    clear h0
    obtain ⟨ad, A4, c4, rfl, k0, k1, k2, k3, k4, l4, C4⟩ := fm_atC (Kd.C_below HC.out HW.out) k hlt
    have HC4 := Aside0.mk C4
    clear C4
    go_wp2
    go_ret
    exact ⟨by rw [HX.out]; rfl, below_alloc HW.out _⟩
  ·have HX := Aside0.mk (show firstE (badNode) x = q by
    rw [firstE_eq, ← HQ.out, List.take_of_length_le (by omega)])
   go_wp2
   go_ret
   exact ⟨by rw [HX.out]; rfl, HW.out⟩
def checkF (x : Fm) (l : List Fact) : Int := if isLarge x = true then 2 else firstE (checkNode l) x
theorem check_calls (x : Fm) (A : Option Addr) (c : Nat) (l : List Fact) (A2 : Option Addr) (c2 : Nat) (w : World) (hC : Kd.C kFm w A x.f4.length x.f4) (hc : x.f4.length ≤ c) (hC2 : Kd.C kFact w A2 l.length l) (hs : size x ≤ 100000000) :
  Calls Tryz.prog 18 #[.agg #[.int .i64 x.f0, .string x.f1, .int .i64 x.f2, .int .i64 x.f3, .slice A x.f4.length c], .agg #[.slice A2 l.length c2]] w fun e w' => e = .returned (.int .i64 (checkF x l)) ∧ Below w.heap.size w w' := by
 have HC := Aside0.mk hC
 have HC2 := Aside0.mk hC2
 have HS := Aside0.mk hs
 clear hC hC2 hs
 go_enter Tryz.func18, Tryz.ntmps18
 go_wp2_with fail
 refine (large_calls x A c _ (Kd.C_below HC.out (below_alloc (below_alloc (Below.refl _ _) _) _)) hc HS.out).mono ?_
 rintro e w1 ⟨rfl, hb⟩
 have hz : w.heap.size + 1 < w1.heap.size := by have := hb.size; simp at this; omega
 have HB := Aside0.mk (below_then (below_alloc (below_alloc (Below.refl w.heap.size w) _) _) (by simp; omega) hb)
 have HBK := Aside0.mk (show w1.heap[w.heap.size]? = some (.cells #[.int .i64 x.f0, .string x.f1, .int .i64 x.f2, .int .i64 x.f3, .slice A x.f4.length c] 24 (0, 0)) by rw [hb.block _ (by simp; omega)]; (repeat (first | (refine blk_new _ _ ?_; first | rfl | (simp; done)) | refine blk_alloc_old ?_ _ | refine blk_drew_old ?_ | refine blk_drewN_old ?_ _ | assumption)))
 have HBD := Aside0.mk (show w1.heap[w.heap.size + 1]? = some (.cells #[.slice A2 l.length c2] 27 (0, 0)) by rw [hb.block _ (by simp)]; (repeat (first | (refine blk_new _ _ ?_; first | rfl | (simp; done)) | refine blk_alloc_old ?_ _ | refine blk_drew_old ?_ | refine blk_drewN_old ?_ _ | assumption)))
 clear hb
 have hc0 := blk_cell HBK.out 0
 have hc1 := blk_cell HBK.out 1
 have hc2 := blk_cell HBK.out 2
 have hc3 := blk_cell HBK.out 3
 have hc4 := blk_cell HBK.out 4
 cases hL : isLarge x
 ·have HF := Aside0.mk (show checkF x l = firstE (checkNode l) x by unfold checkF; rw [if_neg (by rw [hL]; decide)])
  go_wp2_with fail
  refine (first_check (size x) x A c w1 (w.heap.size + 1) l (Nat.le_refl _) ⟨A2, c2, HBD.out, Kd.C_below HC2.out HB.out⟩ (Kd.C_below HC.out HB.out) hc).mono ?_
  rintro e w2 ⟨rfl, hb⟩
  have HB2 := Aside0.mk (HB.out.trans (hb.mono HB.out.size))
  clear hb
  go_wp2
  go_ret
  exact ⟨by rw [HF.out]; rfl, HB2.out⟩
 ·have HF := Aside0.mk (show checkF x l = 2 by unfold checkF; rw [if_pos hL])
  go_wp2
  go_ret
  exact ⟨by rw [HF.out]; rfl, HB.out⟩
end Go.Proofs.YtkgmempifggajaaGreatDoor.P
/- Laws of the lexer: a line feed behind a text parts its tokens from what follows; tokens of a text further on. -/
namespace Go.Proofs.YtkgmempifggajaaGreatDoor.P
set_option linter.unusedVariables false
set_option linter.unusedSimpArgs false
theorem lexs_succ (f : Nat) (l : List UInt8) (a c : Nat) : lexs (f + 1) l a c = if (skip false l).isEmpty = true then .ok [] else match token (skip false l) with
  | .error e => .error (e, a + (l.length - (skip false l).length))
  | .ok t => if c == 5000 then .error (2, a + (l.length - (skip false l).length)) else match lexs f ((skip false l).drop t.width) (a + (l.length - (skip false l).length) + t.width) (c + 1) with
   | .error e => .error e
   | .ok r => .ok (⟨(t.kind : Int), ((a + (l.length - (skip false l).length) : Nat) : Int), (t.n : Int), ⟨t.text.toArray⟩⟩ :: r) := rfl
def shTok (P : Nat) (t : Tok) : Tok := ⟨t.f0, t.f1 + P, t.f2, t.f3⟩
end Go.Proofs.YtkgmempifggajaaGreatDoor.P
