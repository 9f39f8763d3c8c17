/- What the statement's proof builds on: Valid, Fits, HoldA, HoldB, HoldC, ParA, RdA, ParB, ValidLaw, NamedLaw. -/
import Derived.Test.YtkgmempifggajaaGreatDoorGF12
import Derived.Maps.OwnSet
import Derived.Carry
import Derived.StringKeys
import Derived.Deep.RegionHeld3
/- fact.Valid. -/
namespace Go.Proofs.YtkgmempifggajaaGreatDoor.P
open Go.RowKit Go.Proofs.YtkgmempifggajaaGreatDoorW.PrintWords Go.Proofs.YtkgmempifggajaaGreatDoorW.PrintLast Go.Proofs.YtkgmempifggajaaGreatDoorW.PrintMore
open Go.Maps (Keyed)
set_option linter.unusedVariables false
set_option linter.unusedSimpArgs false
def factOk (f : Fact) : Bool := ((f.f1 == 1 && f.f2 == 0 && f.f3 == 1) || (f.f1 == 2 && decide (0 ≤ f.f2) && decide (f.f2 ≤ f.f3) && decide (f.f3 ≤ 1000000))) && nameOk f.f0
def seenIn (l : List Fact) (n : ByteArray) : Bool := l.any (fun g => g.f0.data.toList == n.data.toList)
def factAt (l : List Fact) (k : Nat) : Bool := factOk (l.getD k z49) && !seenIn (l.take k) (l.getD k z49).f0
def validB (l : List Fact) : Bool := (List.range l.length).all (factAt l) && decide ((l.length : Int) ≤ 60)
def seenD (l : List Fact) : DataW Unit := l.foldl (fun D f => D.put (.string f.f0.data.toList) (.lit (.bool true))) (.map [])
theorem seenD_isMap (l : List Fact) : Go.Maps.IsMap (seenD l) := by
 unfold seenD
 have : ∀ (l : List Fact) (D : DataW Unit), Go.Maps.IsMap D → Go.Maps.IsMap (l.foldl (fun D f => D.put (.string f.f0.data.toList) (.lit (.bool true))) D) := by
  intro l
  induction l with
  | nil => intro D h; exact h
  | cons a l ih => intro D h; exact ih _ (h.put _ _)
 exact this l _ Go.Maps.isMap_empty
theorem seenD_snoc (l : List Fact) (k : Nat) (h : k < l.length) : seenD (l.take (k + 1)) = (seenD (l.take k)).put (.string l[k].f0.data.toList) (.lit (.bool true)) := by
 rw [take_snoc_ l k h, seenD, List.foldl_append]; rfl
theorem string_lit (l : List UInt8) : WideAt.IsKeyLit (.string l) := by simp [WideAt.IsKeyLit]
theorem seenD_at (l : List Fact) (n : ByteArray) : (seenD l).atKey (.string n.data.toList) (.lit (.bool false)) = .lit (.bool (seenIn l n)) := by
 have key : ∀ m, m ≤ l.length → (seenD (l.take m)).atKey (.string n.data.toList) (.lit (.bool false)) = .lit (.bool (seenIn (l.take m) n)) := by
  intro m
  induction m with
  | zero => intro _; rfl
  | succ m ih =>
   intro hm
   rw [seenD_snoc l m (by omega)]
   have hs : seenIn (l.take (m + 1)) n = (seenIn (l.take m) n || (l[m].f0.data.toList == n.data.toList)) := by
    unfold seenIn; rw [take_snoc_ l m (by omega), List.any_append, List.any_cons, List.any_nil, Bool.or_false]
   rw [hs]
   by_cases he : l[m].f0.data.toList = n.data.toList
   ·rw [he, Go.Maps.atKey_put_same (seenD_isMap _) (string_lit _), beq_self_eq_true, Bool.or_true]
   ·rw [Go.Maps.atKey_put_other (by intro hc; injection hc with hc; exact he hc.symm), ih (by omega)]
    rw [beq_eq_false_iff_ne.2 he, Bool.or_false]
 have := key l.length (Nat.le_refl _)
 rwa [List.take_of_length_le (Nat.le_refl _)] at this
theorem plainElem_bool_inv {e : TypeId} (he : Tryz.prog.underlying e = some .bool) {v : Value} {z : DataW Unit × List MemPlace} (h : plainElem Tryz.prog e v = some z) : ∃ a, v = .bool a ∧ z.1 = .lit (.bool a) := by
 unfold plainElem at h
 rw [he] at h
 cases v <;> simp at h
 subst h
 exact ⟨_, rfl, rfl⟩
theorem string_key : Keyed Tryz.prog 9 := Go.Maps.string_keyed Tryz.underlying9
theorem zero_bool (w : World) : (zeroValue 4).run Tryz.prog w = .ok (.bool false) w := by kernel_rfl
theorem string_keyOf (s : ByteArray) (h : s.size ≤ 1000) : keyOf Tryz.prog 9 (.string s) = some (.string s.data.toList) := Go.WideMaps.keyOf_string_mk Tryz.underlying9 (Nat.le_trans h (by unfold maxLen; decide))
abbrev SeenM (w : World) (b n : Nat) (l : List Fact) : Prop := w.ownsMap Tryz.prog 9 (plainElem (H := Unit) Tryz.prog 4) b n (seenD l)
theorem seen_look {w : World} {b n : Nat} {l : List Fact} (h : SeenM w b n l) (s : ByteArray) (hs : s.size ≤ 1000) : (Instr.lookup 104 (.map (some b)) (.string s) false).run Tryz.prog w = .ok (.bool (seenIn l s)) w := by
 obtain ⟨v, ps, hrun, hv⟩ := h.lookup string_key Tryz.underlying104 (zero_bool w) (plainElem_bool Tryz.underlying4 false) (string_keyOf s hs)
 obtain ⟨a, rfl, h2⟩ := plainElem_bool_inv Tryz.underlying4 hv
 rw [seenD_at] at h2
 have h3 : seenIn l s = a := Lit.bool.inj (DataW.lit.inj h2)
 rw [hrun, h3]
theorem factAt_false (l : List Fact) (k : Nat) (hk : k < l.length) (h : factOk l[k] = false ∨ seenIn (l.take k) l[k].f0 = true) : validB l = false := by
 have hg : l.getD k z49 = l[k] := by simp [List.getD_eq_getElem?_getD, List.getElem?_eq_getElem hk]
 have : (List.range l.length).all (factAt l) = false := by
  rw [List.all_eq_false]
  refine ⟨k, List.mem_range.2 hk, ?_⟩
  unfold factAt
  rw [hg]
  rcases h with h | h <;> simp [h]
 unfold validB
 rw [this, Bool.false_and]
theorem nameOk_size {s : ByteArray} (h : nameOk s = true) : s.size ≤ 24 := by
 unfold nameOk at h
 simp only [Bool.and_eq_true, decide_eq_true_eq] at h
 exact h.1.2
theorem validB_all (l : List Fact) (h : ∀ j, j < l.length → factAt l j = true) : validB l = decide ((l.length : Int) ≤ 60) := by
 have : (List.range l.length).all (factAt l) = true := by
  rw [List.all_eq_true]; intro j hj; exact h j (List.mem_range.1 hj)
 unfold validB
 rw [this, Bool.true_and]
theorem seen_made (w : World) (A : Option Addr) (n c : Nat) : SeenM ((w.alloc (.cells #[.slice A n c] 27)).alloc (.map #[] 0)) (w.heap.size + 1) 0 [] := by
 have e : (w.alloc (.cells #[.slice A n c] 27)).heap.size = w.heap.size + 1 := by simp
 have h := World.ownsMap_made (w.alloc (.cells #[.slice A n c] 27)) Tryz.prog 9 (plainElem (H := Unit) Tryz.prog 4)
 rw [e] at h
 exact h
set_option maxHeartbeats 4000000 in
set_option maxRecDepth 100000 in
theorem valid_calls (l : List Fact) (A : Option Addr) (c : Nat) (w : World) (hC : Kd.C kFact w A l.length l) (hc : l.length ≤ c) (hl : l.length ≤ 1000000000) (hsz : ∀ k (h : k < l.length), l[k].f0.size ≤ 9223372036854775807) :
  Calls Tryz.prog 61 #[.agg #[.slice A l.length c]] w fun e w' => e = .returned (.bool (validB l)) ∧ Below w.heap.size w w' := by
 have hm : l.length ≤ 9223372036854775807 := hC.2.1
 have HC := Aside0.mk hC
 have HL := Aside0.mk hl
 have HSZ := Aside0.mk hsz
 have hmm := @run_makeMap Tryz.prog
 clear hC hl hsz
 go_enter Tryz.func61, Tryz.ntmps61
 go_wp2
 clear hmm
 go_loopw [12] (fun i wr => ∃ k : Nat, k ≤ l.length ∧ i = .int .i64 k ∧ Aside0 (∀ j (hj : j < k) (hl : j < l.length), factAt l j = true) ∧ Aside0 (Below w.heap.size w wr) ∧ Aside0 (SeenM wr (w.heap.size + 1) k (l.take k)) ∧ Aside0 (wr.heap[w.heap.size]? = some (.cells #[.slice A l.length c] 27 (0, 0)))) (fun i _ => l.length - (intOf i).toNat)
 case atStart => exact ⟨0, Nat.zero_le _, rfl, ⟨fun j hj => absurd hj (by omega)⟩, ⟨below_alloc (below_alloc (Below.refl _ _) _) _⟩, ⟨seen_made w A l.length c⟩, ⟨by (repeat (first | (refine blk_new _ _ ?_; first | rfl | (simp; done)) | refine blk_alloc_old ?_ _ | refine blk_drew_old ?_ | refine blk_drewN_old ?_ _ | assumption))⟩⟩
 case round =>
  obtain ⟨k, hk, rfl, HN, HW, HM, HB⟩ := hrel
  by_cases hlt : k < l.length
  ·obtain ⟨ad, rfl, k0, k1, k2, k3⟩ := fact_at (Kd.C_below HC.out HW.out) k hlt
   have hlt1 := HM.out.lt
   have hFA : factAt l k = (factOk l[k] && !seenIn (l.take k) l[k].f0) := by
    have hg : l.getD k z49 = l[k] := by simp [List.getD_eq_getElem?_getD, List.getElem?_eq_getElem hlt]
    unfold factAt; rw [hg]
   have hFO : factOk l[k] = (((l[k].f1 == 1 && l[k].f2 == 0 && l[k].f3 == 1) || (l[k].f1 == 2 && decide (0 ≤ l[k].f2) && decide (l[k].f2 ≤ l[k].f3) && decide (l[k].f3 ≤ 1000000))) && nameOk l[k].f0) := rfl
   have HFF := Aside0.mk (factAt_false l k hlt)
   have HSN := Aside0.mk (seenD_snoc l k hlt)
   have HZ := Aside0.mk (HSZ.out k hlt)
   obtain ⟨f, hf⟩ : ∃ f, l[k] = f := ⟨_, rfl⟩
   rw [hf] at k0 k1 k2 k3 hFA hFO HFF HSN HZ
   clear hf
   have HFA := Aside0.mk hFA
   clear hFA
   obtain ⟨nm, a, lo, hi⟩ := f
   simp only at k0 k1 k2 k3 hFO
   have hcases : (a = 1 ∧ lo = 0 ∧ hi = 1) ∨ (a = 2 ∧ 0 ≤ lo ∧ lo ≤ hi ∧ hi ≤ 1000000) ∨ ((a = 1 ∧ lo = 0 ∧ hi ≠ 1) ∨ (a = 1 ∧ lo ≠ 0) ∨ (a = 2 ∧ lo < 0) ∨ (a = 2 ∧ 0 ≤ lo ∧ hi < lo) ∨ (a = 2 ∧ 0 ≤ lo ∧ lo ≤ hi ∧ 1000000 < hi) ∨ (a ≠ 1 ∧ a ≠ 2)) := by omega
   rcases hcases with hg | hg | hg
   ·obtain ⟨rfl, rfl, rfl⟩ := hg
    have hname : factOk ⟨nm, 1, 0, 1⟩ = nameOk nm := by rw [hFO]; simp
    clear hFO
    cases hn : nameOk nm
    ·have HF := Aside0.mk (HFF.out (.inl (hname.trans hn)))
     clear hname
     go_wp2_with fail
     refine (isName_calls nm _ HZ.out).mono ?_
     rintro e w2 ⟨rfl, rfl⟩
     rw [hn]
     go_wp2
     go_ret
     exact ⟨by rw [HF.out]; rfl, below_alloc HW.out _⟩
    ·have hns := nameOk_size hn
     have hrun := seen_look (HM.out.alloc (.cells #[.string nm, .int .i64 1, .int .i64 0, .int .i64 1] 49)) nm (by omega)
     cases hs : seenIn (l.take k) nm
     ·rw [hs] at hrun
      have HT := Aside0.mk (show factAt l k = true by rw [HFA.out, hname, hn, hs]; rfl)
      have HNS := Aside0.mk hns
      clear hname hns hs
      go_wp2_with fail
      refine (isName_calls nm _ HZ.out).mono ?_
      rintro e w2 ⟨rfl, rfl⟩
      rw [hn]
      go_wp2_with (at_mapUpdate; refine wpList_mapUpdate_own _ rfl _ _ _ 104 rfl 9 4 string_key Tryz.underlying104 (plainElem (H := Unit) Tryz.prog 4) (w.heap.size + 1) k (seenD (l.take k)) rfl (HM.out.alloc _) (by have := HL.out; unfold maxLen; omega) _ _ (.string nm.data.toList) rfl rfl (string_keyOf nm (by have := HNS.out; omega)) (.lit (.bool true)) [] (plainElem_bool Tryz.underlying4 true) ?_; intro w1 hown1 hgrow1)
      have HM1 := Aside0.mk hown1
      have hsz1 := hgrow1.size
      have HG1 := Aside0.mk hgrow1
      simp at hsz1
      clear hown1 hgrow1 hrun
      go_roundw
      case rel =>
       refine ⟨k + 1, by omega, by go_num, ⟨fun j hj hl => ?_⟩, ⟨?_⟩, ⟨?_⟩, ⟨?_⟩⟩
       ·by_cases e : j = k
        ·subst e; exact HT.out
        ·exact HN.out j (by omega) hl
       ·exact (below_alloc HW.out _).grown HG1.out (by have := HW.out.size; simp; omega) (fun j hj => by cases hj; omega)
       ·unfold SeenM; rw [HSN.out]; exact HM1.out
       ·exact (HG1.out.block _ (by simp; omega) (by simp)).trans (blk_alloc_old HB.out _)
      case measure => simp [intOf]; omega
     ·rw [hs] at hrun
      have HF := Aside0.mk (HFF.out (.inr hs))
      clear hname hns hs
      go_wp2_with fail
      refine (isName_calls nm _ HZ.out).mono ?_
      rintro e w2 ⟨rfl, rfl⟩
      rw [hn]
      go_wp2
      go_ret
      exact ⟨by rw [HF.out]; rfl, below_alloc HW.out _⟩
   ·obtain ⟨rfl, c1, c2, c3⟩ := hg
    have hname : factOk ⟨nm, 2, lo, hi⟩ = nameOk nm := by rw [hFO]; simp [c1, c2, c3]
    clear hFO
    cases hn : nameOk nm
    ·have HF := Aside0.mk (HFF.out (.inl (hname.trans hn)))
     clear hname
     go_wp2_with fail
     refine (isName_calls nm _ HZ.out).mono ?_
     rintro e w2 ⟨rfl, rfl⟩
     rw [hn]
     go_wp2
     go_ret
     exact ⟨by rw [HF.out]; rfl, below_alloc HW.out _⟩
    ·have hns := nameOk_size hn
     have hrun := seen_look (HM.out.alloc (.cells #[.string nm, .int .i64 2, .int .i64 lo, .int .i64 hi] 49)) nm (by omega)
     cases hs : seenIn (l.take k) nm
     ·rw [hs] at hrun
      have HT := Aside0.mk (show factAt l k = true by rw [HFA.out, hname, hn, hs]; rfl)
      have HNS := Aside0.mk hns
      clear hname hns hs
      go_wp2_with fail
      refine (isName_calls nm _ HZ.out).mono ?_
      rintro e w2 ⟨rfl, rfl⟩
      rw [hn]
      go_wp2_with (at_mapUpdate; refine wpList_mapUpdate_own _ rfl _ _ _ 104 rfl 9 4 string_key Tryz.underlying104 (plainElem (H := Unit) Tryz.prog 4) (w.heap.size + 1) k (seenD (l.take k)) rfl (HM.out.alloc _) (by have := HL.out; unfold maxLen; omega) _ _ (.string nm.data.toList) rfl rfl (string_keyOf nm (by have := HNS.out; omega)) (.lit (.bool true)) [] (plainElem_bool Tryz.underlying4 true) ?_; intro w1 hown1 hgrow1)
      have HM1 := Aside0.mk hown1
      have hsz1 := hgrow1.size
      have HG1 := Aside0.mk hgrow1
      simp at hsz1
      clear hown1 hgrow1 hrun
      go_roundw
      case rel =>
       refine ⟨k + 1, by omega, by go_num, ⟨fun j hj hl => ?_⟩, ⟨?_⟩, ⟨?_⟩, ⟨?_⟩⟩
       ·by_cases e : j = k
        ·subst e; exact HT.out
        ·exact HN.out j (by omega) hl
       ·exact (below_alloc HW.out _).grown HG1.out (by have := HW.out.size; simp; omega) (fun j hj => by cases hj; omega)
       ·unfold SeenM; rw [HSN.out]; exact HM1.out
       ·exact (HG1.out.block _ (by simp; omega) (by simp)).trans (blk_alloc_old HB.out _)
      case measure => simp [intOf]; omega
     ·rw [hs] at hrun
      have HF := Aside0.mk (HFF.out (.inr hs))
      clear hname hns hs
      go_wp2_with fail
      refine (isName_calls nm _ HZ.out).mono ?_
      rintro e w2 ⟨rfl, rfl⟩
      rw [hn]
      go_wp2
      go_ret
      exact ⟨by rw [HF.out]; rfl, below_alloc HW.out _⟩
   ·have hbad : factOk ⟨nm, a, lo, hi⟩ = false := by
     rw [hFO]
     rcases hg with hg | hg | hg | hg | hg | hg <;> simp <;> omega
    have HF := Aside0.mk (HFF.out (.inl hbad))
    clear hbad hFO
    rcases hg with ⟨g1, g2, g3⟩ | ⟨g1, g2⟩ | ⟨g1, g2⟩ | ⟨g1, g2, g3⟩ | ⟨g1, g2, g3, g4⟩ | ⟨g1, g2⟩
    all_goals
     (first | (have b1 : (a == 1) = true := by simp; omega) | (have b1 : (a == 1) = false := by simp; omega))
     (first | (have b2 : (a == 2) = true := by simp; omega) | (have b2 : (a == 2) = false := by simp; omega))
     (first | (have b3 : (lo == 0) = true := by simp; omega) | (have b3 : (lo == 0) = false := by simp; omega) | skip)
     (first | (have b4 : (hi == 1) = true := by simp; omega) | (have b4 : (hi == 1) = false := by simp; omega) | skip)
     (first | (have c1 : 0 ≤ lo := by omega) | (have c1 : ¬ 0 ≤ lo := by omega) | skip)
     (first | (have c2 : lo ≤ hi := by omega) | (have c2 : ¬ lo ≤ hi := by omega) | skip)
     (first | (have c3 : hi ≤ 1000000 := by omega) | (have c3 : ¬ hi ≤ 1000000 := by omega) | skip)
     clear g1 g2
     (try clear g3); (try clear g4)
     go_wp2
     go_ret
     exact ⟨by rw [HF.out]; rfl, below_alloc HW.out _⟩
  ·obtain rfl : k = l.length := by omega
   have HE := Aside0.mk (validB_all l (fun j hj => HN.out j hj hj))
   have hb0 := blk_cell HB.out 0
   by_cases h60 : (l.length : Int) ≤ 60
   ·have HF := Aside0.mk (show validB l = true by rw [HE.out]; simpa using h60)
    go_wp2
    go_ret
    exact ⟨by rw [HF.out]; rfl, HW.out⟩
   ·have HF := Aside0.mk (show validB l = false by rw [HE.out]; simpa using h60)
    go_wp2
    go_ret
    exact ⟨by rw [HF.out]; rfl, HW.out⟩
end Go.Proofs.YtkgmempifggajaaGreatDoor.P
/- fact.Fits. -/
namespace Go.Proofs.YtkgmempifggajaaGreatDoor.P
open Go.RowKit Go.Proofs.YtkgmempifggajaaGreatDoorW.PrintWords Go.Proofs.YtkgmempifggajaaGreatDoorW.PrintLast Go.Proofs.YtkgmempifggajaaGreatDoorW.PrintMore
set_option linter.unusedVariables false
set_option linter.unusedSimpArgs false
def inAt (l : List Fact) (cs : List Int) (k : Nat) : Bool := decide ((l.getD k z49).f2 ≤ cs.getD k 0) && decide (cs.getD k 0 ≤ (l.getD k z49).f3)
def fitsB (l : List Fact) (cs : List Int) : Bool := validB l && (cs.length == l.length) && (List.range l.length).all (inAt l cs)
theorem fitsB_false (l : List Fact) (cs : List Int) (k : Nat) (hk : k < l.length) (h : inAt l cs k = false) : fitsB l cs = false := by
 have : (List.range l.length).all (inAt l cs) = false := by
  rw [List.all_eq_false]
  exact ⟨k, List.mem_range.2 hk, by rw [h]; decide⟩
 unfold fitsB
 rw [this, Bool.and_false]
theorem fitsB_true (l : List Fact) (cs : List Int) (hv : validB l = true) (hl : cs.length = l.length) (h : ∀ j, j < l.length → inAt l cs j = true) : fitsB l cs = true := by
 have : (List.range l.length).all (inAt l cs) = true := by
  rw [List.all_eq_true]; intro j hj; exact h j (List.mem_range.1 hj)
 unfold fitsB
 rw [this, hv, hl]; simp
abbrev kInt : Kd Int := Kd.int .i64
set_option maxHeartbeats 4000000 in
set_option maxRecDepth 100000 in
theorem fits_calls (l : List Fact) (A : Option Addr) (c : Nat) (cs : List Int) (B : Option Addr) (d : Nat) (w : World) (hC : Kd.C kFact w A l.length l) (hc : l.length ≤ c) (hB : Kd.C kInt w B cs.length cs) (hd : cs.length ≤ d) (hl : l.length ≤ 1000000000) (hsz : ∀ k (h : k < l.length), l[k].f0.size ≤ 9223372036854775807) :
  Calls Tryz.prog 30 #[.agg #[.slice A l.length c], .slice B cs.length d] w fun e w' => e = .returned (.bool (fitsB l cs)) ∧ Below w.heap.size w w' := by
 have hm : l.length ≤ 9223372036854775807 := hC.2.1
 have hm2 : cs.length ≤ 9223372036854775807 := hB.2.1
 have HC := Aside0.mk hC
 have HB := Aside0.mk hB
 have HL := Aside0.mk hl
 have HSZ := Aside0.mk hsz
 clear hC hB hl hsz
 go_enter Tryz.func30, Tryz.ntmps30
 go_wp2_with fail
 refine (valid_calls l A c _ (Kd.C_below HC.out (below_alloc (Below.refl _ _) _)) hc HL.out HSZ.out).mono ?_
 rintro e w1 ⟨rfl, hb⟩
 have hz : w.heap.size < w1.heap.size := by have := hb.size; simp at this; omega
 have HW := Aside0.mk (below_then (below_alloc (Below.refl w.heap.size w) _) (by simp) hb)
 have HBK := Aside0.mk (show w1.heap[w.heap.size]? = some (.cells #[.slice A l.length c] 27 (0, 0)) by rw [hb.block _ (by simp)]; (repeat (first | (refine blk_new _ _ ?_; first | rfl | (simp; done)) | refine blk_alloc_old ?_ _ | refine blk_drew_old ?_ | refine blk_drewN_old ?_ _ | assumption)))
 clear hb
 have hb0 := blk_cell HBK.out 0
 cases hv : validB l
 ·have HF := Aside0.mk (show fitsB l cs = false by unfold fitsB; rw [hv]; rfl)
  go_wp2
  go_ret
  exact ⟨by rw [HF.out]; rfl, HW.out⟩
 by_cases hlen : cs.length = l.length
 ·have HLN := Aside0.mk hlen
  have bn : ((cs.length : Int) != (l.length : Int)) = false := by simp [hlen]
  have HV := Aside0.mk hv
  clear hlen
  go_wp2
  go_loopw [21] (fun i wr => ∃ k : Nat, k ≤ l.length ∧ i = .int .i64 k ∧ Aside0 (∀ j (hj : j < k) (hl : j < l.length), inAt l cs j = true) ∧ Aside0 (Below w.heap.size w wr)) (fun i _ => l.length - (intOf i).toNat)
  case atStart => exact ⟨0, Nat.zero_le _, rfl, ⟨fun j hj => absurd hj (by omega)⟩, HW⟩
  case round =>
   obtain ⟨k, hk, rfl, HN, HW2⟩ := hrel
   clear hb0
   by_cases hlt : k < l.length
   ·have hlt2 : k < cs.length := by have := HLN.out; omega
    obtain ⟨ad, rfl, k0, k1, k2, k3⟩ := fact_at (Kd.C_below HC.out HW2.out) k hlt
    obtain ⟨bd, rfl, j0⟩ := scal_at (Kd.C_below HB.out HW2.out) k hlt2
    have hbd : (bd.add k).block < wr.heap.size := lt_of_cell j0
    have HA := Aside0.mk (show inAt l cs k = (decide (l[k].f2 ≤ cs[k]) && decide (cs[k] ≤ l[k].f3)) by
     unfold inAt; simp [List.getD_eq_getElem?_getD, List.getElem?_eq_getElem hlt, List.getElem?_eq_getElem hlt2])
    by_cases h1 : cs[k] < l[k].f2
    ·have HF := Aside0.mk (fitsB_false l cs k hlt (by rw [HA.out]; simp; omega))
     go_wp2
     go_quiet (fail)
     go_wp2
     go_ret
     exact ⟨by rw [HF.out]; rfl, pw_below_drewN (below_alloc HW2.out _) _⟩
    ·by_cases h2 : l[k].f3 < cs[k]
     ·have HF := Aside0.mk (fitsB_false l cs k hlt (by rw [HA.out]; simp; omega))
      go_wp2
      go_quiet (fail)
      go_wp2
      go_ret
      exact ⟨by rw [HF.out]; rfl, pw_below_drewN (below_alloc HW2.out _) _⟩
     ·have HT := Aside0.mk (show inAt l cs k = true by rw [HA.out]; simp; omega)
      go_wp2
      go_quiet (fail)
      go_wp2
      go_roundw
      case rel => exact ⟨k + 1, by omega, by go_num, ⟨fun j hj hl => by
       by_cases e : j = k
       ·subst e; exact HT.out
       ·exact HN.out j (by omega) hl⟩, ⟨pw_below_drewN (below_alloc HW2.out _) _⟩⟩
      case measure => simp [intOf]; omega
   ·obtain rfl : k = l.length := by omega
    have HF := Aside0.mk (fitsB_true l cs HV.out HLN.out (fun j hj => HN.out j hj hj))
    go_wp2
    go_ret
    exact ⟨by rw [HF.out]; rfl, HW2.out⟩
 ·have bn : ((cs.length : Int) != (l.length : Int)) = true := by simp; omega
  have HF := Aside0.mk (show fitsB l cs = false by unfold fitsB; simp [hlen])
  clear hlen
  go_wp2
  go_ret
  exact ⟨by rw [HF.out]; rfl, HW.out⟩
end Go.Proofs.YtkgmempifggajaaGreatDoor.P
/- formula.Holds: what it computes; the search among the kids. (Printed by wip/tools/gen_holds.py.) -/
namespace Go.Proofs.YtkgmempifggajaaGreatDoor.P
open Go.RowKit Go.Proofs.YtkgmempifggajaaGreatDoorW.PrintWords Go.Proofs.YtkgmempifggajaaGreatDoorW.PrintLast Go.Proofs.YtkgmempifggajaaGreatDoorW.PrintMore
set_option linter.unusedVariables false
set_option linter.unusedSimpArgs false
def cmpB (cmp n m : Int) : Bool := if cmp = 1 then n == m else if cmp = 2 then n != m else if cmp = 3 then decide (n < m) else if cmp = 4 then decide (n ≤ m) else if cmp = 5 then decide (m < n) else if cmp = 6 then decide (m ≤ n) else false
mutual
def holdsE (g : ByteArray → Int) : Fm → Bool
 | ⟨op, name, cmp, n, kids⟩ => if op = 3 then cmpB cmp (g name) n else if op = 4 then !(holdsHd g kids) else if op = 5 then holdsAll g kids else if op = 6 then holdsAny g kids else op == 1
def holdsHd (g : ByteArray → Int) : List Fm → Bool
 | [] => false
 | k :: _ => holdsE g k
def holdsAll (g : ByteArray → Int) : List Fm → Bool
 | [] => true
 | k :: ks => holdsE g k && holdsAll g ks
def holdsAny (g : ByteArray → Int) : List Fm → Bool
 | [] => false
 | k :: ks => holdsE g k || holdsAny g ks
end
theorem holdsE_eq (g : ByteArray → Int) (x : Fm) : holdsE g x = if x.f0 = 3 then cmpB x.f2 (g x.f1) x.f3 else if x.f0 = 4 then !(holdsHd g x.f4) else if x.f0 = 5 then holdsAll g x.f4 else if x.f0 = 6 then holdsAny g x.f4 else x.f0 == 1 := by cases x; simp [holdsE]
theorem holdsAll_any (g : ByteArray → Int) (l : List Fm) : holdsAll g l = !(l.any (fun k => !(holdsE g k))) := by
 induction l with
 | nil => simp [holdsAll]
 | cons a l ih => simp [holdsAll, ih]
theorem holdsAny_any (g : ByteArray → Int) (l : List Fm) : holdsAny g l = l.any (fun k => holdsE g k) := by
 induction l with
 | nil => simp [holdsAny]
 | cons a l ih => simp [holdsAny, ih]
structure HEnv (w : World) (bc bd bh : Nat) (l : List Fact) (cs : List Int) : Prop where
 c : ∃ B d, w.heap[bc]? = some (.cells #[.slice B cs.length d] 29 (0, 0)) ∧ Kd.C kInt w B cs.length cs ∧ cs.length ≤ d
 d : ∃ A e, w.heap[bd]? = some (.cells #[.slice A l.length e] 27 (0, 0)) ∧ Kd.C kFact w A l.length l
 h : w.heap[bh]? = some (.cells #[.func (.func 44) #[] #[.pointer (some ⟨bc, 0, none⟩), .pointer (some ⟨bd, 0, none⟩), .pointer (some ⟨bh, 0, none⟩)]] 33 (0, 0))
theorem HEnv.below {w w1 : World} {bc bd bh : Nat} {l : List Fact} {cs : List Int} (h : HEnv w bc bd bh l cs) (hb : Below w.heap.size w w1) : HEnv w1 bc bd bh l cs := by
 obtain ⟨B, d, h1, h2, h3⟩ := h.c
 obtain ⟨A, e, h4, h5⟩ := h.d
 exact ⟨⟨B, d, (hb.block _ (lt_of_block h1)).trans h1, Kd.C_below h2 hb, h3⟩, ⟨A, e, (hb.block _ (lt_of_block h4)).trans h4, Kd.C_below h5 hb⟩, (hb.block _ (lt_of_block h.h)).trans h.h⟩
def HoldsAt (g : ByteArray → Int) (bc bd bh : Nat) (l : List Fact) (cs : List Int) (x : Fm) : Prop := ∀ (A : Option Addr) (c : Nat) (w : World), HEnv w bc bd bh l cs → Kd.C kFm w A x.f4.length x.f4 → x.f4.length ≤ c →
  Calls Tryz.prog 44 #[.agg #[.int .i64 x.f0, .string x.f1, .int .i64 x.f2, .int .i64 x.f3, .slice A x.f4.length c], .pointer (some ⟨bc, 0, none⟩), .pointer (some ⟨bd, 0, none⟩), .pointer (some ⟨bh, 0, none⟩)] w fun e w' => e = .returned (.bool (holdsE g x)) ∧ Below w.heap.size w w'
theorem neg_calls (g : ByteArray → Int) (bc bd bh : Nat) (l : List Fact) (cs : List Int) (x : Fm) (hh : HoldsAt g bc bd bh l cs x) (A : Option Addr) (c : Nat) (w : World) (hE : HEnv w bc bd bh l cs) (hC : Kd.C kFm w A x.f4.length x.f4) (hc : x.f4.length ≤ c) :
  Calls Tryz.prog 46 #[.agg #[.int .i64 x.f0, .string x.f1, .int .i64 x.f2, .int .i64 x.f3, .slice A x.f4.length c], .pointer (some ⟨bh, 0, none⟩)] w fun e w' => e = .returned (.bool (!(holdsE g x))) ∧ Below w.heap.size w w' := by
 have HE := Aside0.mk hE
 have HC := Aside0.mk hC
 have HH := Aside0.mk hh
 have hf := cell_of_one hE.h
 have hlt := lt_of_block hE.h
 have hm : x.f4.length ≤ 9223372036854775807 := hC.2.1
 clear hE hC hh
 go_enter Tryz.func46, Tryz.ntmps46
 go_wp2_with fail
 refine (HH.out A c _ (HE.out.below (below_alloc (Below.refl _ _) _)) (Kd.C_below HC.out (below_alloc (Below.refl _ _) _)) hc).mono ?_
 rintro e w1 ⟨rfl, hb⟩
 have HW := Aside0.mk (below_then (below_alloc (Below.refl w.heap.size w) _) (by simp) hb)
 clear hb
 go_wp2
 go_ret
 exact ⟨rfl, HW.out⟩
set_option maxRecDepth 100000 in
theorem find_neg (g : ByteArray → Int) (bc bd bh : Nat) (l : List Fact) (cs : List Int) (xs : List Fm) (A : Option Addr) (c : Nat) (w : World) (hE : HEnv w bc bd bh l cs) (hC : Kd.C kFm w A xs.length xs) (hh : ∀ k (h : k < xs.length), HoldsAt g bc bd bh l cs xs[k]) :
  Calls Tryz.prog 68 #[.slice A xs.length c, .func (.func 46) #[] #[.pointer (some ⟨bh, 0, none⟩)]] w fun e w' => e = .returned (.int .i64 (idxBy (fun k => !(holdsE g k)) xs)) ∧ Below w.heap.size w w' := by
 have hm : xs.length ≤ 9223372036854775807 := hC.2.1
 have HE := Aside0.mk hE
 have HC := Aside0.mk hC
 have HH := Aside0.mk hh
 clear hC hE hh
 go_enter Tryz.func68, Tryz.ntmps68
 go_wp2
 go_loopw [8] (fun i wr => ∃ k : Nat, k ≤ xs.length ∧ i = .int .i64 k ∧ Aside0 (∀ j (hj : j < k) (hl : j < xs.length), (fun k => !(holdsE g k)) xs[j] = false) ∧ Aside0 (Below w.heap.size w wr)) (fun i _ => xs.length - (intOf i).toNat)
 case atStart => exact ⟨0, Nat.zero_le _, rfl, ⟨fun j hj => absurd hj (by omega)⟩, ⟨Below.refl _ _⟩⟩
 case round =>
  obtain ⟨k, hk, rfl, HN, HW⟩ := hrel
  by_cases hlt : k < xs.length
  ·obtain ⟨ad, A4, c4, rfl, k0, k1, k2, k3, k4, l4, C4⟩ := fm_atC (Kd.C_below HC.out HW.out) k hlt
   have HC4 := Aside0.mk C4
   clear C4
   have hHk := HH.out k hlt
   have HI := Aside0.mk (fun h => idxBy_hit (p := fun k => !(holdsE g k)) hlt (fun j hj => HN.out j hj (by omega)) h)
   have HNN := Aside0.mk (fun (h : (!(holdsE g xs[k])) = false) j (hj : j < k + 1) (hl : j < xs.length) => show (fun k => !(holdsE g k)) xs[j] = false from by
     by_cases e : j = k
     ·subst e; exact h
     ·exact HN.out j (by omega) hl)
   have HHK := Aside0.mk hHk
   clear hHk
   cases hv : (!(holdsE g xs[k]))
   all_goals
    go_wp2_with fail
    refine (neg_calls g bc bd bh l cs xs[k] HHK.out A4 c4 _ (HE.out.below HW.out) HC4.out l4).mono ?_
    rintro e w1 ⟨rfl, hb⟩
    rw [hv]
    have HW2 := Aside0.mk (HW.out.trans (hb.mono HW.out.size))
    clear hb
    go_wp2
   ·go_roundw
    case rel => exact ⟨k + 1, by omega, by go_num, ⟨HNN.out hv⟩, HW2⟩
    case measure => simp [intOf]; omega
   ·go_ret
    exact ⟨by rw [HI.out hv]; rfl, HW2.out⟩
  ·obtain rfl : k = xs.length := by omega
   go_wp2
   go_ret
   exact ⟨by rw [idxBy_none (fun j hj => HN.out j hj hj)]; rfl, HW.out⟩
theorem some_neg (g : ByteArray → Int) (bc bd bh : Nat) (l : List Fact) (cs : List Int) (xs : List Fm) (A : Option Addr) (c : Nat) (w : World) (hE : HEnv w bc bd bh l cs) (hC : Kd.C kFm w A xs.length xs) (hh : ∀ k (h : k < xs.length), HoldsAt g bc bd bh l cs xs[k]) :
  Calls Tryz.prog 45 #[.slice A xs.length c, .func (.func 46) #[] #[.pointer (some ⟨bh, 0, none⟩)]] w fun e w' => e = .returned (.bool (xs.any (fun k => !(holdsE g k)))) ∧ Below w.heap.size w w' := by
 have HE := Aside0.mk hE
 have HC := Aside0.mk hC
 have HH := Aside0.mk hh
 clear hC hE hh
 go_enter Tryz.func45, Tryz.ntmps45
 go_wp2_with fail
 refine (find_neg g bc bd bh l cs xs A c _ HE.out HC.out HH.out).mono ?_
 rintro e w1 ⟨rfl, hb⟩
 have HW := Aside0.mk hb
 clear hb
 go_wp2
 go_ret
 exact ⟨by rw [← idxBy_any]; rfl, HW.out⟩
set_option maxRecDepth 100000 in
theorem find_pos (g : ByteArray → Int) (bc bd bh : Nat) (l : List Fact) (cs : List Int) (xs : List Fm) (A : Option Addr) (c : Nat) (w : World) (hE : HEnv w bc bd bh l cs) (hC : Kd.C kFm w A xs.length xs) (hh : ∀ k (h : k < xs.length), HoldsAt g bc bd bh l cs xs[k]) :
  Calls Tryz.prog 68 #[.slice A xs.length c, .func (.func 44) #[] #[.pointer (some ⟨bc, 0, none⟩), .pointer (some ⟨bd, 0, none⟩), .pointer (some ⟨bh, 0, none⟩)]] w fun e w' => e = .returned (.int .i64 (idxBy (fun k => holdsE g k) xs)) ∧ Below w.heap.size w w' := by
 have hm : xs.length ≤ 9223372036854775807 := hC.2.1
 have HE := Aside0.mk hE
 have HC := Aside0.mk hC
 have HH := Aside0.mk hh
 clear hC hE hh
 go_enter Tryz.func68, Tryz.ntmps68
 go_wp2
 go_loopw [8] (fun i wr => ∃ k : Nat, k ≤ xs.length ∧ i = .int .i64 k ∧ Aside0 (∀ j (hj : j < k) (hl : j < xs.length), (fun k => holdsE g k) xs[j] = false) ∧ Aside0 (Below w.heap.size w wr)) (fun i _ => xs.length - (intOf i).toNat)
 case atStart => exact ⟨0, Nat.zero_le _, rfl, ⟨fun j hj => absurd hj (by omega)⟩, ⟨Below.refl _ _⟩⟩
 case round =>
  obtain ⟨k, hk, rfl, HN, HW⟩ := hrel
  by_cases hlt : k < xs.length
  ·obtain ⟨ad, A4, c4, rfl, k0, k1, k2, k3, k4, l4, C4⟩ := fm_atC (Kd.C_below HC.out HW.out) k hlt
   have HC4 := Aside0.mk C4
   clear C4
   have hHk := HH.out k hlt
   have HI := Aside0.mk (fun h => idxBy_hit (p := fun k => holdsE g k) hlt (fun j hj => HN.out j hj (by omega)) h)
   have HNN := Aside0.mk (fun (h : holdsE g xs[k] = false) j (hj : j < k + 1) (hl : j < xs.length) => show (fun k => holdsE g k) xs[j] = false from by
     by_cases e : j = k
     ·subst e; exact h
     ·exact HN.out j (by omega) hl)
   have HHK := Aside0.mk hHk
   clear hHk
   cases hv : holdsE g xs[k]
   all_goals
    go_wp2_with fail
    refine (HHK.out A4 c4 _ (HE.out.below HW.out) HC4.out l4).mono ?_
    rintro e w1 ⟨rfl, hb⟩
    rw [hv]
    have HW2 := Aside0.mk (HW.out.trans (hb.mono HW.out.size))
    clear hb
    go_wp2
   ·go_roundw
    case rel => exact ⟨k + 1, by omega, by go_num, ⟨HNN.out hv⟩, HW2⟩
    case measure => simp [intOf]; omega
   ·go_ret
    exact ⟨by rw [HI.out hv]; rfl, HW2.out⟩
  ·obtain rfl : k = xs.length := by omega
   go_wp2
   go_ret
   exact ⟨by rw [idxBy_none (fun j hj => HN.out j hj hj)]; rfl, HW.out⟩
theorem some_pos (g : ByteArray → Int) (bc bd bh : Nat) (l : List Fact) (cs : List Int) (xs : List Fm) (A : Option Addr) (c : Nat) (w : World) (hE : HEnv w bc bd bh l cs) (hC : Kd.C kFm w A xs.length xs) (hh : ∀ k (h : k < xs.length), HoldsAt g bc bd bh l cs xs[k]) :
  Calls Tryz.prog 45 #[.slice A xs.length c, .func (.func 44) #[] #[.pointer (some ⟨bc, 0, none⟩), .pointer (some ⟨bd, 0, none⟩), .pointer (some ⟨bh, 0, none⟩)]] w fun e w' => e = .returned (.bool (xs.any (fun k => holdsE g k))) ∧ Below w.heap.size w w' := by
 have HE := Aside0.mk hE
 have HC := Aside0.mk hC
 have HH := Aside0.mk hh
 clear hC hE hh
 go_enter Tryz.func45, Tryz.ntmps45
 go_wp2_with fail
 refine (find_pos g bc bd bh l cs xs A c _ HE.out HC.out HH.out).mono ?_
 rintro e w1 ⟨rfl, hb⟩
 have HW := Aside0.mk hb
 clear hb
 go_wp2
 go_ret
 exact ⟨by rw [← idxBy_any]; rfl, HW.out⟩
end Go.Proofs.YtkgmempifggajaaGreatDoor.P
/- formula.Holds: its closure at a test. -/
namespace Go.Proofs.YtkgmempifggajaaGreatDoor.P
open Go.RowKit Go.Proofs.YtkgmempifggajaaGreatDoorW.PrintWords Go.Proofs.YtkgmempifggajaaGreatDoorW.PrintLast Go.Proofs.YtkgmempifggajaaGreatDoorW.PrintMore
set_option linter.unusedVariables false
set_option linter.unusedSimpArgs false
def valOf (l : List Fact) (cs : List Int) (name : ByteArray) : Int := cs.getD (indexOf l name).toNat 0
theorem seven_at1 (a b c d e f h : Value) (W : World) : (Instr.index 62 (.agg #[a, b, c, d, e, f, h]) (.int .i64 1)).run Tryz.prog W = .ok b W := by
 simp [Instr.index, run_underlying Tryz.underlying62, asIntOf, go_sem]
theorem seven_at2 (a b c d e f h : Value) (W : World) : (Instr.index 62 (.agg #[a, b, c, d, e, f, h]) (.int .i64 2)).run Tryz.prog W = .ok c W := by
 simp [Instr.index, run_underlying Tryz.underlying62, asIntOf, go_sem]
theorem seven_at3 (a b c d e f h : Value) (W : World) : (Instr.index 62 (.agg #[a, b, c, d, e, f, h]) (.int .i64 3)).run Tryz.prog W = .ok d W := by
 simp [Instr.index, run_underlying Tryz.underlying62, asIntOf, go_sem]
theorem seven_at4 (a b c d e f h : Value) (W : World) : (Instr.index 62 (.agg #[a, b, c, d, e, f, h]) (.int .i64 4)).run Tryz.prog W = .ok e W := by
 simp [Instr.index, run_underlying Tryz.underlying62, asIntOf, go_sem]
theorem seven_at5 (a b c d e f h : Value) (W : World) : (Instr.index 62 (.agg #[a, b, c, d, e, f, h]) (.int .i64 5)).run Tryz.prog W = .ok f W := by
 simp [Instr.index, run_underlying Tryz.underlying62, asIntOf, go_sem]
theorem seven_at6 (a b c d e f h : Value) (W : World) : (Instr.index 62 (.agg #[a, b, c, d, e, f, h]) (.int .i64 6)).run Tryz.prog W = .ok h W := by
 simp [Instr.index, run_underlying Tryz.underlying62, asIntOf, go_sem]
theorem keepC {w w1 w2 : World} {a1 a2 a3 a4 : Addr} {v1 v2 v3 v4 : Value} {l : List Fact} {A : Option Addr} (hb : Below w1.heap.size w1 w2) (h : w1.cell? a1 = some v1 ∧ w1.cell? a2 = some v2 ∧ w1.cell? a3 = some v3 ∧ w1.cell? a4 = some v4 ∧ Kd.C kFact w1 A l.length l ∧ Below w.heap.size w w1) :
  w2.cell? a1 = some v1 ∧ w2.cell? a2 = some v2 ∧ w2.cell? a3 = some v3 ∧ w2.cell? a4 = some v4 ∧ Kd.C kFact w2 A l.length l ∧ Below w.heap.size w w2 :=
 ⟨cell_step hb h.1, cell_step hb h.2.1, cell_step hb h.2.2.1, cell_step hb h.2.2.2.1, Kd.C_below h.2.2.2.2.1 hb, h.2.2.2.2.2.trans (hb.mono h.2.2.2.2.2.size)⟩
theorem facts_of_ {w : World} {p q r s t : Prop} {l : List Fact} {A : Option Addr} (h : p ∧ q ∧ r ∧ s ∧ Kd.C kFact w A l.length l ∧ t) : Kd.C kFact w A l.length l := h.2.2.2.2.1
set_option maxHeartbeats 4000000 in
set_option maxRecDepth 100000 in
theorem hold_test (l : List Fact) (cs : List Int) (bc bd bh : Nat) (x : Fm) (h3 : x.f0 = 3) (hc1 : 1 ≤ x.f2) (hc2 : x.f2 ≤ 6) (hi0 : 0 ≤ indexOf l x.f1) (hi1 : indexOf l x.f1 < cs.length) (A : Option Addr) (c : Nat) (w : World) (hE : HEnv w bc bd bh l cs) :
  Calls Tryz.prog 44 #[.agg #[.int .i64 x.f0, .string x.f1, .int .i64 x.f2, .int .i64 x.f3, .slice A x.f4.length c], .pointer (some ⟨bc, 0, none⟩), .pointer (some ⟨bd, 0, none⟩), .pointer (some ⟨bh, 0, none⟩)] w fun e w' => e = .returned (.bool (holdsE (valOf l cs) x)) ∧ Below w.heap.size w w' := by
 obtain ⟨i, hi⟩ : ∃ i : Nat, indexOf l x.f1 = i := ⟨(indexOf l x.f1).toNat, by omega⟩
 have hlt : i < cs.length := by omega
 have hX : holdsE (valOf l cs) x = cmpB x.f2 cs[i] x.f3 := by
  rw [holdsE_eq, if_pos h3]
  unfold valOf
  rw [hi]
  simp [List.getD_eq_getElem?_getD, List.getElem?_eq_getElem hlt]
 obtain ⟨B, d, hb1, hB, hd⟩ := hE.c
 obtain ⟨D, e, hb2, hD⟩ := hE.d
 have hlc := lt_of_block hb1
 have hld := lt_of_block hb2
 have hm : cs.length ≤ 9223372036854775807 := hB.2.1
 have q1 := cell_of_one hb1
 have q2 := cell_of_one hb2
 obtain ⟨ad, rfl, q4⟩ := scal_at hB i hlt
 have hla : (ad.add i).block < w.heap.size := lt_of_cell q4
 obtain ⟨op, name, cmp, n, kids⟩ := x
 simp only at h3 hc1 hc2 hi hX ⊢
 subst h3
 obtain ⟨len, hlen⟩ : ∃ len, kids.length = len := ⟨_, rfl⟩
 obtain ⟨r, hr⟩ : ∃ r, holdsE (valOf l cs) ⟨3, name, cmp, n, kids⟩ = r := ⟨_, rfl⟩
 rw [hr] at hX ⊢
 rw [hlen]
 clear hlen hr hi0 hi1 hE hb1 hb2
 obtain ⟨v, hv⟩ : ∃ v, cs[i] = v := ⟨_, rfl⟩
 rw [hv] at q4 hX
 clear hv
 have HX := Aside0.mk hX
 have HD := Aside0.mk hD
 have HI := Aside0.mk hi
 clear hX hD hB hi
 have hi1 : (0 : Int) ≤ (i : Int) := by omega
 have hi2 : (i : Int) < (cs.length : Int) := by omega
 go_enter Tryz.func44, Tryz.ntmps44
 go_wp2_with fail
 have hB1 : Below w.heap.size w (w.alloc (.cells #[.int .i64 3, .string name, .int .i64 cmp, .int .i64 n, .slice A len c] 24 (0, 0))).drew := ((Same.of_below (S := fun _ => False) (below_alloc (Below.refl w.heap.size w) (.cells #[.int .i64 3, .string name, .int .i64 cmp, .int .i64 n, .slice A len c] 24 (0, 0)))).drew).below0
 have hS : (w.alloc (.cells #[.int .i64 3, .string name, .int .i64 cmp, .int .i64 n, .slice A len c] 24 (0, 0))).drew.cell? ⟨w.heap.size, 1, none⟩ = some (.string name) := by simp
 have hP1 := (hB1.cell hlc).trans q1
 have hP2 := (hB1.cell hld).trans q2
 have hP4 := (hB1.cell hla).trans q4
 have hP5 := Kd.C_below HD.out (hB1.mono (Nat.le_refl _))
 go_region_held3 (fun w' => w'.cell? ⟨bc, 0, none⟩ = some (.slice (some ad) cs.length d) ∧ w'.cell? ⟨bd, 0, none⟩ = some (.slice D l.length e) ∧ w'.cell? ⟨w.heap.size, 1, none⟩ = some (.string name) ∧ w'.cell? (ad.add i) = some (.int .i64 v) ∧ Kd.C kFact w' D l.length l ∧ Below w.heap.size w w')
  (first | (exact keepC (by assumption) (by assumption)) | (exact ⟨hP1, hP2, hS, hP4, hP5, hB1⟩) | go_keep)
  (first
   | (go_at_call 41; refine (index_calls l D e name _ (facts_of_ (by assumption))).mono ?_; rintro e' w' ⟨rfl, hb⟩; rw [HI.out]))
 rename_i hH
 have HBf := Aside0.mk hH.2.2.2.2.2
 have hblk : w'.heap[w.heap.size]? = some (.cells #[.int .i64 3, .string name, .int .i64 cmp, .int .i64 n, .slice A len c] 24 (0, 0)) := by
  rw [hb.block _ (by simp)]
  exact blk_drew_old (blk_new _ _ rfl)
 have hk2 := blk_cell hblk 2
 have hk3 := blk_cell hblk 3
 clear hH hb hB1 hS hP1 hP2 hP4 hP5 hblk q1 q2 q4
 rcases (show cmp = 1 ∨ cmp = 2 ∨ cmp = 3 ∨ cmp = 4 ∨ cmp = 5 ∨ cmp = 6 by omega) with rfl | rfl | rfl | rfl | rfl | rfl
 ·have ai := seven_at1
  clear hc1 hc2
  have HF := Aside0.mk (show r = (v == n) from HX.out)
  clear HX
  go_wp2
  go_ret
  exact ⟨by rw [HF.out]; rfl, HBf.out⟩
 ·have ai := seven_at2
  clear hc1 hc2
  have HF := Aside0.mk (show r = (v != n) from HX.out)
  clear HX
  go_wp2
  go_ret
  exact ⟨by rw [HF.out]; rfl, HBf.out⟩
 ·have ai := seven_at3
  clear hc1 hc2
  have HF := Aside0.mk (show r = decide (v < n) from HX.out)
  clear HX
  go_wp2
  go_ret
  exact ⟨by rw [HF.out]; rfl, HBf.out⟩
 ·have ai := seven_at4
  clear hc1 hc2
  have HF := Aside0.mk (show r = decide (v ≤ n) from HX.out)
  clear HX
  go_wp2
  go_ret
  exact ⟨by rw [HF.out]; rfl, HBf.out⟩
 ·have ai := seven_at5
  clear hc1 hc2
  have HF := Aside0.mk (show r = decide (n < v) from HX.out)
  clear HX
  go_wp2
  go_ret
  exact ⟨by rw [HF.out]; rfl, HBf.out⟩
 ·have ai := seven_at6
  clear hc1 hc2
  have HF := Aside0.mk (show r = decide (n ≤ v) from HX.out)
  clear HX
  go_wp2
  go_ret
  exact ⟨by rw [HF.out]; rfl, HBf.out⟩
end Go.Proofs.YtkgmempifggajaaGreatDoor.P
/- formula.Holds. -/
namespace Go.Proofs.YtkgmempifggajaaGreatDoor.P
open Go.RowKit Go.Proofs.YtkgmempifggajaaGreatDoorW.PrintWords Go.Proofs.YtkgmempifggajaaGreatDoorW.PrintLast Go.Proofs.YtkgmempifggajaaGreatDoorW.PrintMore
set_option linter.unusedVariables false
set_option linter.unusedSimpArgs false
theorem idxBy_lt {α : Type} (p : α → Bool) (l : List α) (h : 0 ≤ idxBy p l) : idxBy p l < l.length := by
 induction l with
 | nil => simp [idxBy] at h
 | cons a l ih =>
  unfold idxBy at h ⊢
  split
  ·simp
  ·rename_i h1
   rw [if_neg h1] at h
   split
   ·rename_i h2; rw [if_pos h2] at h; omega
   ·rename_i h2
    rw [if_neg h2] at h
    have := idxBy_ge p l
    have := ih (by omega)
    simp; omega
theorem check_node_of (l : List Fact) (x : Fm) (h : checkNode l x = 0) : formedB x = true ∧ (x.f0 = 3 → 0 ≤ x.f3 ∧ x.f3 ≤ 1000000 ∧ 0 ≤ indexOf l x.f1) := by
 unfold checkNode at h
 cases hf : formedB x
 ·rw [if_pos hf] at h; exact absurd h (by decide)
 ·refine ⟨rfl, fun h3 => ?_⟩
  rw [if_neg (by rw [hf]; decide), if_neg (by simpa using h3)] at h
  by_cases hb : x.f3 < 0 ∨ 1000000 < x.f3
  ·rw [if_pos hb] at h; exact absurd h (by decide)
  ·rw [if_neg hb] at h
   by_cases hi : indexOf l x.f1 < 0
   ·rw [if_pos hi] at h; exact absurd h (by decide)
   ·omega
theorem checks_of (l : List Fact) (x : Fm) (h : firstE (checkNode l) x = 0) : checkNode l x = 0 ∧ firstEs (checkNode l) x.f4 = 0 := by
 rw [firstE_eq] at h
 by_cases hb : checkNode l x = 0
 ·rw [if_pos hb] at h; exact ⟨hb, h⟩
 ·rw [if_neg hb] at h; exact absurd h hb
theorem holdsHd_zero (g : ByteArray → Int) (l : List Fm) (h : 0 < l.length) : holdsHd g l = holdsE g l[0] := by
 cases l with
 | nil => simp at h
 | cons a l => simp [holdsHd]
theorem keepF {w w1 w2 : World} {a1 a2 b0 b1 b2 b3 b4 : Addr} {v1 v2 u0 u1 u2 u3 u4 : Value} {bc bd bh : Nat} {l : List Fact} {cs : List Int} (hb : Below w1.heap.size w1 w2)
  (h : w1.cell? a1 = some v1 ∧ w1.cell? a2 = some v2 ∧ w1.cell? b0 = some u0 ∧ w1.cell? b1 = some u1 ∧ w1.cell? b2 = some u2 ∧ w1.cell? b3 = some u3 ∧ w1.cell? b4 = some u4 ∧ HEnv w1 bc bd bh l cs ∧ Below w.heap.size w w1) :
  w2.cell? a1 = some v1 ∧ w2.cell? a2 = some v2 ∧ w2.cell? b0 = some u0 ∧ w2.cell? b1 = some u1 ∧ w2.cell? b2 = some u2 ∧ w2.cell? b3 = some u3 ∧ w2.cell? b4 = some u4 ∧ HEnv w2 bc bd bh l cs ∧ Below w.heap.size w w2 := by
 obtain ⟨h1, h2, h3, h4, h5, h6, h7, h8, h9⟩ := h
 exact ⟨cell_step hb h1, cell_step hb h2, cell_step hb h3, cell_step hb h4, cell_step hb h5, cell_step hb h6, cell_step hb h7, h8.below hb, h9.trans (hb.mono h9.size)⟩
set_option maxHeartbeats 4000000 in
set_option maxRecDepth 100000 in
theorem hold_all (l : List Fact) (cs : List Int) (hlc : cs.length = l.length) (bc bd bh : Nat) (N : Nat) : ∀ x : Fm, size x ≤ N → firstE (checkNode l) x = 0 → HoldsAt (valOf l cs) bc bd bh l cs x := by
 induction N with
 | zero => intro x h; have := size_pos x; omega
 | succ N ih =>
 intro x hN hck A c w hE hC hc
 obtain ⟨hck1, hck2⟩ := checks_of l x hck
 obtain ⟨hf, hn3⟩ := check_node_of l x hck1
 by_cases h3 : x.f0 = 3
 ·obtain ⟨_, h1, h2, _⟩ := formed_test_of x hf h3
  exact hold_test l cs bc bd bh x h3 h1 h2 (hn3 h3).2.2 (by rw [hlc]; exact idxBy_lt _ _ (hn3 h3).2.2) A c w hE
 have hm : x.f4.length ≤ 9223372036854775807 := hC.2.1
 have hop := formed_op x hf h3
 have hkids : ∀ k (h : k < x.f4.length), HoldsAt (valOf l cs) bc bd bh l cs x.f4[k] := fun k h => ih x.f4[k] (by have := size_mem x.f4 k h; have := size_eq x; omega) (firstEs_mem _ _ hck2 k h)
 have HE := Aside0.mk hE
 have HC := Aside0.mk hC
 have HK := Aside0.mk hkids
 have hlh := lt_of_block hE.h
 have hfh := cell_of_one hE.h
 have hX := holdsE_eq (valOf l cs) x
 rw [if_neg h3] at hX
 clear ih hN hck hck1 hck2 hf hn3 hE hC hkids
 have hB1 : Below w.heap.size w (w.alloc (.cells #[.int .i64 x.f0, .string x.f1, .int .i64 x.f2, .int .i64 x.f3, .slice A x.f4.length c] 24 (0, 0))) := below_alloc (Below.refl _ _) _
 rcases hop with h | h | ⟨h, hl1⟩ | ⟨h, _⟩ | ⟨h, _⟩
 ·have HX := Aside0.mk (show holdsE (valOf l cs) x = true by rw [hX, h]; rfl)
  rw [h] at hB1 ⊢
  clear hX h h3
  go_enter Tryz.func44, Tryz.ntmps44
  go_wp2
  go_ret
  exact ⟨by rw [HX.out]; rfl, hB1⟩
 ·have HX := Aside0.mk (show holdsE (valOf l cs) x = false by rw [hX, h]; rfl)
  rw [h] at hB1 ⊢
  clear hX h h3
  go_enter Tryz.func44, Tryz.ntmps44
  go_wp2
  go_ret
  exact ⟨by rw [HX.out]; rfl, hB1⟩
 ·have h0 : 0 < x.f4.length := by omega
  have HX := Aside0.mk (show holdsE (valOf l cs) x = !(holdsE (valOf l cs) x.f4[0]) by
   rw [hX, if_pos h, holdsHd_zero _ _ h0])
  rw [h] at hB1 ⊢
  have hBd : Below w.heap.size w (w.alloc (.cells #[.int .i64 4, .string x.f1, .int .i64 x.f2, .int .i64 x.f3, .slice A x.f4.length c] 24 (0, 0))).drew := ((Same.of_below (S := fun _ => False) hB1).drew).below0
  obtain ⟨ad, A4, c4, rfl, k0, k1, k2, k3, k4, l4, C4⟩ := fm_atC (Kd.C_below HC.out hBd) 0 h0
  have e0 : ad.add (0 * 5) = ad := by simp [Addr.add]
  rw [e0] at k0 k1 k2 k3 k4
  have C40 := (fm_atC HC.out 0 h0)
  have HHK := Aside0.mk (HK.out 0 h0)
  have q1 := (hBd.cell hlh).trans hfh
  have q2 : (w.alloc (.cells #[.int .i64 4, .string x.f1, .int .i64 x.f2, .int .i64 x.f3, .slice (some ad) x.f4.length c] 24 (0, 0))).drew.cell? ⟨w.heap.size, 4, none⟩ = some (.slice (some ad) x.f4.length c) := by simp
  have hE1 := HE.out.below hBd
  clear hX h h3 e0 C40 hl1
  obtain ⟨y, hy⟩ : ∃ y, x.f4[0] = y := ⟨_, rfl⟩
  rw [hy] at k0 k1 k2 k3 k4 l4 C4 HX HHK
  clear hy
  have HC4 := Aside0.mk C4
  have HL4 := Aside0.mk l4
  clear C4
  go_enter Tryz.func44, Tryz.ntmps44
  go_wp2_with fail
  go_region_held3 (fun w' => w'.cell? ⟨bh, 0, none⟩ = some (.func (.func 44) #[] #[.pointer (some ⟨bc, 0, none⟩), .pointer (some ⟨bd, 0, none⟩), .pointer (some ⟨bh, 0, none⟩)]) ∧ w'.cell? ⟨w.heap.size, 4, none⟩ = some (.slice (some ad) x.f4.length c) ∧
    w'.cell? ad = some (.int .i64 y.f0) ∧ w'.cell? ⟨ad.block, ad.off + 1, none⟩ = some (.string y.f1) ∧ w'.cell? ⟨ad.block, ad.off + 2, none⟩ = some (.int .i64 y.f2) ∧ w'.cell? ⟨ad.block, ad.off + 3, none⟩ = some (.int .i64 y.f3) ∧ w'.cell? ⟨ad.block, ad.off + 4, none⟩ = some (.slice A4 y.f4.length c4) ∧ HEnv w' bc bd bh l cs ∧ Below w.heap.size w w')
   (first | (exact keepF (by assumption) (by assumption)) | (exact ⟨q1, q2, k0, k1, k2, k3, k4, hE1, hBd⟩) | go_keep)
   (first
    | (go_at_call 44; refine (HHK.out A4 c4 _ (by assumption) HC4.out HL4.out).mono ?_; rintro e' w' ⟨rfl, hb⟩))
  all_goals
   rename_i hH
   have HBf := Aside0.mk hH.2.2.2.2.2.2.2.2
   clear hH
   try go_wp2
   go_ret
   exact ⟨by rw [HX.out]; rfl, HBf.out⟩
 ·have HX := Aside0.mk (show holdsE (valOf l cs) x = !(x.f4.any (fun k => !(holdsE (valOf l cs) k))) by rw [hX, h, ← holdsAll_any]; rfl)
  rw [h] at hB1 ⊢
  clear hX h h3
  go_enter Tryz.func44, Tryz.ntmps44
  go_wp2_with fail
  refine (some_neg (valOf l cs) bc bd bh l cs x.f4 A c _ (HE.out.below hB1) (Kd.C_below HC.out hB1) HK.out).mono ?_
  rintro e w1 ⟨rfl, hb⟩
  have HW := Aside0.mk (below_then (below_alloc (Below.refl w.heap.size w) _) (by simp) hb)
  clear hb
  go_wp2
  go_ret
  exact ⟨by rw [HX.out]; rfl, HW.out⟩
 ·have HX := Aside0.mk (show holdsE (valOf l cs) x = x.f4.any (fun k => holdsE (valOf l cs) k) by rw [hX, h, ← holdsAny_any]; rfl)
  rw [h] at hB1 ⊢
  clear hX h h3
  go_enter Tryz.func44, Tryz.ntmps44
  go_wp2_with fail
  refine (some_pos (valOf l cs) bc bd bh l cs x.f4 A c _ (HE.out.below hB1) (Kd.C_below HC.out hB1) HK.out).mono ?_
  rintro e w1 ⟨rfl, hb⟩
  have HW := Aside0.mk (below_then (below_alloc (Below.refl w.heap.size w) _) (by simp) hb)
  clear hb
  go_wp2
  go_ret
  exact ⟨by rw [HX.out]; rfl, HW.out⟩
def holdsF (x : Fm) (l : List Fact) (cs : List Int) : Bool := fitsB l cs && (checkF x l == 0) && holdsE (valOf l cs) x
set_option maxHeartbeats 4000000 in
set_option maxRecDepth 100000 in
theorem holds_calls (x : Fm) (X : Option Addr) (cx : Nat) (l : List Fact) (A : Option Addr) (c : Nat) (cs : List Int) (B : Option Addr) (d : Nat) (w : World) (hX : Kd.C kFm w X x.f4.length x.f4) (hcx : x.f4.length ≤ cx) (hC : Kd.C kFact w A l.length l) (hc : l.length ≤ c) (hB : Kd.C kInt w B cs.length cs) (hd : cs.length ≤ d)
  (hs : size x ≤ 100000000) (hl : l.length ≤ 1000000000) (hsz : ∀ k (h : k < l.length), l[k].f0.size ≤ 9223372036854775807) :
  Calls Tryz.prog 20 #[.agg #[.int .i64 x.f0, .string x.f1, .int .i64 x.f2, .int .i64 x.f3, .slice X x.f4.length cx], .agg #[.slice A l.length c], .slice B cs.length d] w fun e w' => e = .returned (.bool (holdsF x l cs)) ∧ Below w.heap.size w w' := by
 have hm : l.length ≤ 9223372036854775807 := hC.2.1
 have hm2 : cs.length ≤ 9223372036854775807 := hB.2.1
 have hm3 : x.f4.length ≤ 9223372036854775807 := hX.2.1
 have HX := Aside0.mk hX
 have HC := Aside0.mk hC
 have HB := Aside0.mk hB
 have HL := Aside0.mk hl
 have HS := Aside0.mk hs
 have HSZ := Aside0.mk hsz
 clear hX hC hB hl hs hsz
 go_enter Tryz.func20, Tryz.ntmps20
 go_wp2_with fail
 have hb3 : Below w.heap.size w (((w.alloc (.cells #[.int .i64 x.f0, .string x.f1, .int .i64 x.f2, .int .i64 x.f3, .slice X x.f4.length cx] 24)).alloc (.cells #[.slice A l.length c] 27)).alloc (.cells #[.slice B cs.length d] 29)) := below_alloc (below_alloc (below_alloc (Below.refl _ _) _) _) _
 refine (fits_calls l A c cs B d _ (Kd.C_below HC.out hb3) hc (Kd.C_below HB.out hb3) hd HL.out HSZ.out).mono ?_
 rintro e w1 ⟨rfl, hb⟩
 have hz : w.heap.size + 2 < w1.heap.size := by have := hb.size; simp at this; omega
 have HW := Aside0.mk (below_then hb3 (by simp; omega) hb)
 have HB0 := Aside0.mk (show w1.heap[w.heap.size]? = some (.cells #[.int .i64 x.f0, .string x.f1, .int .i64 x.f2, .int .i64 x.f3, .slice X x.f4.length cx] 24 (0, 0)) by rw [hb.block _ (by simp; omega)]; (repeat (first | (refine blk_new _ _ ?_; first | rfl | (simp; done)) | refine blk_alloc_old ?_ _ | refine blk_drew_old ?_ | refine blk_drewN_old ?_ _ | assumption)))
 have HB1 := Aside0.mk (show w1.heap[w.heap.size + 1]? = some (.cells #[.slice A l.length c] 27 (0, 0)) by rw [hb.block _ (by simp <;> omega)]; (repeat (first | (refine blk_new _ _ ?_; first | rfl | (simp; done)) | refine blk_alloc_old ?_ _ | refine blk_drew_old ?_ | refine blk_drewN_old ?_ _ | assumption)))
 have HB2 := Aside0.mk (show w1.heap[w.heap.size + 1 + 1]? = some (.cells #[.slice B cs.length d] 29 (0, 0)) by rw [hb.block _ (by simp)]; (repeat (first | (refine blk_new _ _ ?_; first | rfl | (simp; done)) | refine blk_alloc_old ?_ _ | refine blk_drew_old ?_ | refine blk_drewN_old ?_ _ | assumption)))
 clear hb hb3
 have hc0 := blk_cell HB0.out 0
 have hc1 := blk_cell HB0.out 1
 have hc2 := blk_cell HB0.out 2
 have hc3 := blk_cell HB0.out 3
 have hc4 := blk_cell HB0.out 4
 have hd0 := blk_cell HB1.out 0
 cases hf : fitsB l cs
 ·have HF := Aside0.mk (show holdsF x l cs = false by unfold holdsF; rw [hf]; rfl)
  go_wp2
  go_ret
  exact ⟨by rw [HF.out]; rfl, HW.out⟩
 go_wp2_with fail
 refine (check_calls x X cx l A c w1 (Kd.C_below HX.out HW.out) hcx (Kd.C_below HC.out HW.out) HS.out).mono ?_
 rintro e w2 ⟨rfl, hb⟩
 have hz2 : w1.heap.size ≤ w2.heap.size := hb.size
 have HW2 := Aside0.mk (HW.out.trans (hb.mono HW.out.size))
 have HB02 := Aside0.mk ((hb.block _ (by omega)).trans HB0.out)
 have HB12 := Aside0.mk ((hb.block _ (by omega)).trans HB1.out)
 have HB22 := Aside0.mk ((hb.block _ (by omega)).trans HB2.out)
 clear hb hc0 hc1 hc2 hc3 hc4 hd0 HB0 HB1 HB2
 by_cases hck : checkF x l = 0
 ·have b0 : (checkF x l != 0) = false := by simpa using hck
  have HF := Aside0.mk (show holdsF x l cs = holdsE (valOf l cs) x by unfold holdsF; rw [hf, hck]; rfl)
  have HFE := Aside0.mk (show firstE (checkNode l) x = 0 by
   unfold checkF at hck
   by_cases hL : isLarge x = true
   ·rw [if_pos hL] at hck; exact absurd hck (by decide)
   ·rwa [if_neg hL] at hck)
  have HLEN := Aside0.mk (show cs.length = l.length by
   unfold fitsB at hf
   simp only [Bool.and_eq_true, beq_iff_eq] at hf
   exact hf.1.2)
  have hc0 := blk_cell HB02.out 0
  have hc1 := blk_cell HB02.out 1
  have hc2 := blk_cell HB02.out 2
  have hc3 := blk_cell HB02.out 3
  have hc4 := blk_cell HB02.out 4
  have hz3 : w.heap.size < w2.heap.size := by omega
  have HZ := Aside0.mk hz
  clear hck hf
  go_wp2_with fail
  have hb1 : Below w2.heap.size w2 (w2.alloc (.cells #[.func (.func 44) #[] #[.pointer (some ⟨w.heap.size + 1 + 1, 0, none⟩), .pointer (some ⟨w.heap.size + 1, 0, none⟩), .pointer (some ⟨w2.heap.size, 0, none⟩)]] 33)) := below_alloc (Below.refl _ _) _
  have hbw := HW2.out.trans (hb1.mono HW2.out.size)
  refine (hold_all l cs HLEN.out (w.heap.size + 1 + 1) (w.heap.size + 1) w2.heap.size (size x) x (Nat.le_refl _) HFE.out X cx _ ⟨⟨B, d, (hb1.block _ (by have := HZ.out; omega)).trans HB22.out, Kd.C_below HB.out hbw, hd⟩, ⟨A, c, (hb1.block _ (by have := HZ.out; omega)).trans HB12.out, Kd.C_below HC.out hbw⟩, by (repeat (first | (refine blk_new _ _ ?_; first | rfl | (simp; done)) | refine blk_alloc_old ?_ _ | refine blk_drew_old ?_ | refine blk_drewN_old ?_ _ | assumption))⟩ (Kd.C_below HX.out hbw) hcx).mono ?_
  rintro e w3 ⟨rfl, hb⟩
  have HW3 := Aside0.mk (hbw.trans (hb.mono hbw.size))
  clear hb hb1 hbw
  go_wp2
  go_ret
  exact ⟨by rw [HF.out]; rfl, HW3.out⟩
 ·have b0 : (checkF x l != 0) = true := by simpa using hck
  have HF := Aside0.mk (show holdsF x l cs = false by unfold holdsF; rw [beq_eq_false_iff_ne.2 hck]; simp)
  clear hck
  go_wp2
  go_ret
  exact ⟨by rw [HF.out]; rfl, HW2.out⟩
end Go.Proofs.YtkgmempifggajaaGreatDoor.P
/- formula's parser: its state; fail; take. -/
namespace Go.Proofs.YtkgmempifggajaaGreatDoor.P
open Go.RowKit Go.Proofs.YtkgmempifggajaaGreatDoorW.PrintWords Go.Proofs.YtkgmempifggajaaGreatDoorW.PrintLast Go.Proofs.YtkgmempifggajaaGreatDoorW.PrintMore
set_option linter.unusedVariables false
set_option linter.unusedSimpArgs false
structure PS where
 toks : List Tok
 err : Int
 at_ : Int
def failP (e a : Int) (s : PS) : PS := if s.err = 0 then ⟨[], e, a⟩ else s
def takeP (n : Int) (s : PS) : Tok × PS := match s.toks with
 | [] => (z75, failP 6 n s)
 | t :: r => (t, ⟨r, s.err, s.at_⟩)
structure IsP (w : World) (b : Nat) (n : Int) (s : PS) : Prop where
 blk : ∃ A c, w.heap[b]? = some (.cells #[.slice A s.toks.length c, .int .i64 n, .int .i64 s.err, .int .i64 s.at_] 71 (0, 0)) ∧ Kd.F kTok w (fun q => q < b) A s.toks.length s.toks ∧ s.toks.length ≤ c
theorem IsP.lt {w : World} {b : Nat} {n : Int} {s : PS} (h : IsP w b n s) : b < w.heap.size := by
 obtain ⟨A, c, h1, _⟩ := h.blk
 exact lt_of_block h1
theorem IsP.below {w w1 : World} {b : Nat} {n : Int} {s : PS} (h : IsP w b n s) (hb : Below w.heap.size w w1) : IsP w1 b n s := by
 obtain ⟨A, c, h1, h2, h3⟩ := h.blk
 exact ⟨A, c, (hb.block _ (lt_of_block h1)).trans h1, Kd.F_below h2 hb, h3⟩
theorem IsP.keep {w w1 : World} {b : Nat} {n : Int} {s : PS} (h : IsP w b n s) (hk : ∀ k, k ≤ b → w1.heap[k]? = w.heap[k]?) : IsP w1 b n s := by
 obtain ⟨A, c, h1, h2, h3⟩ := h.blk
 exact ⟨A, c, (hk b (Nat.le_refl _)).trans h1, Kd.F_step h2 (fun k hk2 _ => hk k (Nat.le_of_lt hk2)), h3⟩
theorem F_empty {w : World} {ok : Nat → Prop} (A : Option Addr) : Kd.F kTok w ok A 0 [] := fun W' _ => ⟨rfl, by simp, fun h => absurd h (by simp)⟩
theorem IsP.nil {w w1 : World} {b : Nat} {n : Int} {s : PS} (h : IsP w b n s) (h0 : s.toks = []) (hb : w1.heap[b]? = w.heap[b]?) : IsP w1 b n s := by
 obtain ⟨A, c, h1, h2, h3⟩ := h.blk
 refine ⟨A, c, hb.trans h1, ?_, h3⟩
 rw [h0]
 exact F_empty A
abbrev OnlyP (b : Nat) : Nat → Prop := fun q => q = b
set_option maxRecDepth 100000 in
theorem fail_calls (b : Nat) (n : Int) (s : PS) (e a : Int) (w : World) (h : IsP w b n s) :
  Calls Tryz.prog 57 #[.pointer (some ⟨b, 0, none⟩), .int .i64 e, .int .i64 a] w fun x w' => x = .returned (.tuple #[]) ∧ IsP w' b n (failP e a s) ∧ Same (OnlyP b) w w' := by
 obtain ⟨A, c, hb, hF, hc⟩ := h.blk
 have HB := Aside0.mk hb
 have HF := Aside0.mk hF
 have H := Aside0.mk h
 have hlt := h.lt
 have hc0 := blk_cell hb 0
 have hf0 := blk_frozen hb 0
 have hc2 := blk_cell hb 2
 have hf2 := blk_frozen hb 2
 have hc3 := blk_cell hb 3
 have hf3 := blk_frozen hb 3
 clear hb hF h
 by_cases h0 : s.err = 0
 ·have b0 : (s.err == 0) = true := by simpa using h0
  have HE := Aside0.mk (show failP e a s = ⟨[], e, a⟩ from if_pos h0)
  clear h0
  go_enter Tryz.func57, Tryz.ntmps57
  go_wp2
  go_end0
  have hb3 := blk_put (blk_put (blk_put HB.out 2 (.int .i64 e) rfl) 3 (.int .i64 a) rfl) 0 (.slice none 0 0) rfl
  refine ⟨rfl, HE.out.symm ▸ ⟨⟨none, 0, ?_, Kd.F_nil _ _ _, Nat.le_refl _⟩⟩, (((Same.refl (OnlyP b) w).setCell (p := ⟨b, 2, none⟩) rfl _).setCell (p := ⟨b, 3, none⟩) rfl _).setCell (p := ⟨b, 0, none⟩) rfl _⟩
  exact hb3
 ·have b0 : (s.err == 0) = false := by simpa using h0
  have HE := Aside0.mk (show failP e a s = s from if_neg h0)
  clear h0
  go_enter Tryz.func57, Tryz.ntmps57
  go_wp2
  go_end0
  exact ⟨rfl, by rw [HE.out]; exact H.out, Same.refl _ _⟩
theorem tok_atF {W : World} {ok : Nat → Prop} {A : Option Addr} {n : Nat} {xs : List Tok} (h : Kd.F kTok W ok A n xs) (k : Nat) (hk : k < xs.length) :
  ∃ ad, A = some ad ∧ ok ad.block ∧ W.cell? (ad.add (k * 4)) = some (.int .i64 xs[k].f0) ∧ W.cell? ⟨(ad.add (k * 4)).block, (ad.add (k * 4)).off + 1, none⟩ = some (.int .i64 xs[k].f1) ∧
   W.cell? ⟨(ad.add (k * 4)).block, (ad.add (k * 4)).off + 2, none⟩ = some (.int .i64 xs[k].f2) ∧ W.cell? ⟨(ad.add (k * 4)).block, (ad.add (k * 4)).off + 3, none⟩ = some (.string xs[k].f3) := by
 have hl := Kd.F_len h
 obtain ⟨ad, e, h0, h1, h2, h3⟩ := tok_at (Kd.F_now h) k hk
 obtain ⟨ad', cs, e', _, _, _, hok⟩ := Kd.F_get h z75 (k : Int) (by omega) (by omega)
 rw [e] at e'
 injection e' with e'
 subst e'
 exact ⟨ad, e, hok (by decide), h0, h1, h2, h3⟩
abbrev tokV (t : Tok) : Value := .agg #[.int .i64 t.f0, .int .i64 t.f1, .int .i64 t.f2, .string t.f3]
set_option maxHeartbeats 1000000 in
set_option maxRecDepth 100000 in
theorem take_some (b : Nat) (n : Int) (t : Tok) (r : List Tok) (err at_ : Int) (w : World) (h : IsP w b n ⟨t :: r, err, at_⟩) :
  Calls Tryz.prog 102 #[.pointer (some ⟨b, 0, none⟩)] w fun x w' => x = .returned (tokV t) ∧ IsP w' b n ⟨r, err, at_⟩ ∧ Same (OnlyP b) w w' := by
 have hlt := h.lt
 obtain ⟨A, c, hb, hF, hc⟩ := h.blk
 obtain ⟨ad, rfl, hok, k0, k1, k2, k3⟩ := tok_atF hF 0 (by simp)
 have e0 : ad.add (0 * 4) = ad := by simp [Addr.add]
 rw [e0] at k0 k1 k2 k3
 have hadlt : ad.block < w.heap.size := lt_of_cell k0
 have hane : ad.block ≠ b := Nat.ne_of_lt hok
 simp only [List.getElem_cons_zero] at k0 k1 k2 k3
 have HB := Aside0.mk hb
 have HF := Aside0.mk hF
 have hc0 := blk_cell hb 0
 have hf0 := blk_frozen hb 0
 have hm : (r.length + 1) ≤ 9223372036854775807 := Kd.F_max hF
 simp only [List.length_cons] at hc0 hc
 have hcut := Kd.F_cut (m := 1) hF (by simp) hc
 have hca : ad.add (1 * kTok.sz) = ⟨ad.block, ad.off + 4, none⟩ := by
  show ad.add 4 = _
  simp [Addr.add]
 by_cases hc1 : c = 1
 ·subst hc1
  obtain rfl : r = [] := List.eq_nil_of_length_eq_zero (by omega)
  have HCUT := Aside0.mk (show Kd.F kTok w (fun q => q < b) (some ad) 0 [] from by simpa using hcut)
  clear hb hF h e0 hcut hca
  go_enter Tryz.func102, Tryz.ntmps102
  go_wp2
  refine bodyPost_ret (results_cell_row rfl _ _ w.heap.size 75 #[.int .i64 t.f0, .int .i64 t.f1, .int .i64 t.f2, .string t.f3] (0, 0) _ rfl (by (repeat (first | (refine blk_new _ _ ?_; first | rfl | (simp; done)) | refine blk_alloc_old ?_ _ | refine blk_drew_old ?_ | refine blk_drewN_old ?_ _ | assumption))) Tryz.underlying75 rfl (by kernel_rfl)) rfl ?_
  have HS : Same (OnlyP b) w (((w.setCell ⟨b, 0, none⟩ (.slice (some ad) 0 0)).alloc (.cells #[.int .i64 t.f0, .int .i64 t.f1, .int .i64 t.f2, .string t.f3] 75)).alloc (.cells #[.int .i64 t.f0, .int .i64 t.f1, .int .i64 t.f2, .string t.f3] 75)) := (((Same.refl (OnlyP b) w).setCell (p := ⟨b, 0, none⟩) rfl _).alloc _).alloc _
  refine ⟨rfl, ⟨⟨some ad, 0, ?_, F_same HCUT.out HS (fun k hk => Nat.ne_of_lt hk), Nat.le_refl _⟩⟩, HS⟩
  exact blk_alloc_old (blk_alloc_old (blk_put HB.out 0 _ rfl) _) _
 ·have HCUT := Aside0.mk (show Kd.F kTok w (fun q => q < b) (some ⟨ad.block, ad.off + 4, none⟩) r.length r from by
   rw [if_neg hc1, Option.map_some, hca] at hcut; simpa using hcut)
  clear hb hF h e0 hcut hca
  go_enter Tryz.func102, Tryz.ntmps102
  go_wp2
  refine bodyPost_ret (results_cell_row rfl _ _ w.heap.size 75 #[.int .i64 t.f0, .int .i64 t.f1, .int .i64 t.f2, .string t.f3] (0, 0) _ rfl (by (repeat (first | (refine blk_new _ _ ?_; first | rfl | (simp; done)) | refine blk_alloc_old ?_ _ | refine blk_drew_old ?_ | refine blk_drewN_old ?_ _ | assumption))) Tryz.underlying75 rfl (by kernel_rfl)) rfl ?_
  have HS : Same (OnlyP b) w (((w.setCell ⟨b, 0, none⟩ (.slice (some ⟨ad.block, ad.off + 4, none⟩) r.length (c - 1))).alloc (.cells #[.int .i64 t.f0, .int .i64 t.f1, .int .i64 t.f2, .string t.f3] 75)).alloc (.cells #[.int .i64 t.f0, .int .i64 t.f1, .int .i64 t.f2, .string t.f3] 75)) := (((Same.refl (OnlyP b) w).setCell (p := ⟨b, 0, none⟩) rfl _).alloc _).alloc _
  refine ⟨rfl, ⟨⟨some ⟨ad.block, ad.off + 4, none⟩, c - 1, ?_, F_same HCUT.out HS (fun k hk => Nat.ne_of_lt hk), show r.length ≤ c - 1 by omega⟩⟩, HS⟩
  exact blk_alloc_old (blk_alloc_old (blk_put HB.out 0 _ rfl) _) _
set_option maxRecDepth 100000 in
theorem take_none (b : Nat) (n : Int) (err at_ : Int) (w : World) (h : IsP w b n ⟨[], err, at_⟩) :
  Calls Tryz.prog 102 #[.pointer (some ⟨b, 0, none⟩)] w fun x w' => x = .returned (tokV z75) ∧ IsP w' b n (failP 6 n ⟨[], err, at_⟩) ∧ Same (OnlyP b) w w' := by
 have hlt := h.lt
 obtain ⟨A, c, hb, hF, hc⟩ := h.blk
 have H := Aside0.mk h
 have hc0 := blk_cell hb 0
 have hc1 := blk_cell hb 1
 simp only [List.length_nil] at hc0 hc1
 clear hb hF h
 go_enter Tryz.func102, Tryz.ntmps102
 go_wp2_with fail
 refine (fail_calls b n _ 6 n _ (H.out.below (below_alloc (Below.refl _ _) _))).mono ?_
 rintro e w1 ⟨rfl, hP, hS⟩
 have HP := Aside0.mk hP
 have HS := Aside0.mk hS
 have hz : w.heap.size < w1.heap.size := by have := hS.size; simp at this; omega
 have hR : w1.heap[w.heap.size]? = some (.cells #[.int .i64 0, .int .i64 0, .int .i64 0, .string ⟨#[]⟩] 75 (0, 0)) := (hS.block _ (by simp) (by unfold OnlyP; omega)).trans (by (repeat (first | (refine blk_new _ _ ?_; first | rfl | (simp; done)) | refine blk_alloc_old ?_ _ | refine blk_drew_old ?_ | refine blk_drewN_old ?_ _ | assumption)))
 have HR := Aside0.mk hR
 have hr0 := blk_cell hR 0
 have hg0 := blk_frozen hR 0
 have hr1 := blk_cell hR 1
 have hg1 := blk_frozen hR 1
 have hr2 := blk_cell hR 2
 have hg2 := blk_frozen hR 2
 have hr3 := blk_cell hR 3
 have hg3 := blk_frozen hR 3
 clear hP hS hR hc0 hc1
 go_wp2
 refine bodyPost_ret (results_cell_row rfl _ _ w.heap.size 75 #[.int .i64 0, .int .i64 0, .int .i64 0, .string ⟨#[]⟩] (0, 0) _ rfl (put4 HR.out _ _ _ _) Tryz.underlying75 rfl (by kernel_rfl)) rfl ?_
 have HS0 : Same (OnlyP b) w w1 := ((Same.refl (OnlyP b) w).alloc _).trans HS.out
 refine ⟨rfl, HP.out.nil (by unfold failP; split <;> rfl) ?_, (((HS0.setNew (p := ⟨w.heap.size, 0, none⟩) (Nat.le_refl _) _).setNew (p := ⟨w.heap.size, 1, none⟩) (Nat.le_refl _) _).setNew (p := ⟨w.heap.size, 2, none⟩) (Nat.le_refl _) _).setNew (p := ⟨w.heap.size, 3, none⟩) (Nat.le_refl _) _⟩
 rw [Below.heap_setCell _ _ _ _ (show b ≠ w.heap.size by omega), Below.heap_setCell _ _ _ _ (show b ≠ w.heap.size by omega), Below.heap_setCell _ _ _ _ (show b ≠ w.heap.size by omega), Below.heap_setCell _ _ _ _ (show b ≠ w.heap.size by omega)]
theorem take_calls (b : Nat) (n : Int) (s : PS) (w : World) (h : IsP w b n s) :
  Calls Tryz.prog 102 #[.pointer (some ⟨b, 0, none⟩)] w fun x w' => x = .returned (tokV (takeP n s).1) ∧ IsP w' b n (takeP n s).2 ∧ Same (OnlyP b) w w' := by
 obtain ⟨toks, err, at_⟩ := s
 cases toks with
 | nil => exact take_none b n err at_ w h
 | cons t r => exact take_some b n t r err at_ w h
end Go.Proofs.YtkgmempifggajaaGreatDoor.P
/- The reference's reader: its state; Fail, Sees, Token. -/
namespace Go.Proofs.YtkgmempifggajaaGreatDoor.P
open Go.RowKit Go.Proofs.YtkgmempifggajaaGreatDoorW.PrintWords Go.Proofs.YtkgmempifggajaaGreatDoorW.PrintLast Go.Proofs.YtkgmempifggajaaGreatDoorW.PrintMore
set_option linter.unusedVariables false
set_option linter.unusedSimpArgs false
structure RZ where
 L : List Tok
 A : Option Addr
 c : Nat
variable {Z : RZ}
structure IsR (Z : RZ) (w : World) (b : Nat) (n : Int) (s : PS) : Prop where
 blk : ∃ (L : List Tok) (A : Option Addr) (c I : Nat), w.heap[b]? = some (.cells #[.slice A L.length c, .int .i64 (I : Int), .int .i64 n, .int .i64 s.err, .int .i64 s.at_] 78 (0, 0)) ∧ I ≤ L.length ∧ s.toks = (if s.err = 0 then L.drop I else []) ∧
  Kd.F kTok w (fun q => q < b) A L.length L ∧ L.length ≤ c ∧ (∀ t ∈ L, t.f0 = 1 → t.f3.toList ≠ []) ∧ L = Z.L ∧ A = Z.A ∧ c = Z.c
theorem IsR.lt {w : World} {b : Nat} {n : Int} {s : PS} (h : IsR Z w b n s) : b < w.heap.size := by
 obtain ⟨L, A, c, I, h1, _⟩ := h.blk
 exact lt_of_block h1
theorem IsR.below {w w1 : World} {b : Nat} {n : Int} {s : PS} (h : IsR Z w b n s) (hb : Below w.heap.size w w1) : IsR Z w1 b n s := by
 obtain ⟨L, A, c, I, h1, h2, h3, h4, h5⟩ := h.blk
 exact ⟨L, A, c, I, (hb.block _ (lt_of_block h1)).trans h1, h2, h3, Kd.F_below h4 hb, h5⟩
theorem IsR.keep {w w1 : World} {b : Nat} {n : Int} {s : PS} (h : IsR Z w b n s) (hk : ∀ k, k ≤ b → w1.heap[k]? = w.heap[k]?) : IsR Z w1 b n s := by
 obtain ⟨L, A, c, I, h1, h2, h3, h4, h5⟩ := h.blk
 exact ⟨L, A, c, I, (hk b (Nat.le_refl _)).trans h1, h2, h3, Kd.F_step h4 (fun k hk2 _ => hk k (Nat.le_of_lt hk2)), h5⟩
set_option maxRecDepth 100000 in
theorem rfail_calls (b : Nat) (n : Int) (s : PS) (e a : Int) (he : e ≠ 0) (w : World) (h : IsR Z w b n s) :
  Calls Tryz.prog 60 #[.pointer (some ⟨b, 0, none⟩), .int .i64 e, .int .i64 a] w fun x w' => x = .returned (.tuple #[]) ∧ IsR Z w' b n (failP e a s) ∧ Same (OnlyP b) w w' := by
 obtain ⟨L, A, c, I, hb, h2, h3, hF, hc, h6⟩ := h.blk
 have HB := Aside0.mk hb
 have HF := Aside0.mk hF
 have H := Aside0.mk h
 have H6 := Aside0.mk h6
 have H3 := Aside0.mk h3
 have hlt := h.lt
 have hc3 := blk_cell hb 3
 have hf3 := blk_frozen hb 3
 have hc4 := blk_cell hb 4
 have hf4 := blk_frozen hb 4
 have HE0 := Aside0.mk he
 clear hb hF h h6 h3 he
 by_cases h0 : s.err = 0
 ·have b0 : (s.err == 0) = true := by simpa using h0
  have HE := Aside0.mk (show failP e a s = ⟨[], e, a⟩ from if_pos h0)
  clear h0
  go_enter Tryz.func60, Tryz.ntmps60
  go_wp2
  go_end0
  have hb3 := blk_put (blk_put HB.out 3 (.int .i64 e) rfl) 4 (.int .i64 a) rfl
  have HS : Same (OnlyP b) w ((w.setCell ⟨b, 3, none⟩ (.int .i64 e)).setCell ⟨b, 4, none⟩ (.int .i64 a)) := ((Same.refl (OnlyP b) w).setCell (p := ⟨b, 3, none⟩) rfl _).setCell (p := ⟨b, 4, none⟩) rfl _
  refine ⟨rfl, ?_, HS⟩
  rw [HE.out]
  exact ⟨L, A, c, I, hb3, h2, (if_neg HE0.out).symm, F_same HF.out HS (fun k hk => Nat.ne_of_lt hk), hc, H6.out⟩
 ·have b0 : (s.err == 0) = false := by simpa using h0
  have HE := Aside0.mk (show failP e a s = s from if_neg h0)
  clear h0
  go_enter Tryz.func60, Tryz.ntmps60
  go_wp2
  go_end0
  exact ⟨rfl, by rw [HE.out]; exact H.out, Same.refl _ _⟩
theorem IsR.next {w : World} {b : Nat} {n : Int} {t : Tok} {r : List Tok} {err at_ : Int} (h : IsR Z w b n ⟨t :: r, err, at_⟩) :
  ∃ I : Nat, (I : Int) + 1 ≤ 9223372036854775807 ∧ err = 0 ∧ w.cell? ⟨b, 1, none⟩ = some (.int .i64 (I : Int)) ∧ w.frozen? ⟨b, 1, none⟩ = false ∧
   IsR Z (w.setCell ⟨b, 1, none⟩ (.int .i64 ((I : Int) + 1))) b n ⟨r, err, at_⟩ ∧ Same (OnlyP b) w (w.setCell ⟨b, 1, none⟩ (.int .i64 ((I : Int) + 1))) := by
 obtain ⟨L, A, c, I, hb, h2, h3, hF, hc, h6⟩ := h.blk
 have hm := Kd.F_max hF
 simp only at h3
 by_cases h0 : err = 0
 ·rw [if_pos h0] at h3
  have hI : I < L.length := Decidable.byContradiction (fun hh => by rw [List.drop_eq_nil_of_le (by omega)] at h3; cases h3)
  rw [List.drop_eq_getElem_cons hI] at h3
  injection h3 with h4 h5
  have hS : Same (OnlyP b) w (w.setCell ⟨b, 1, none⟩ (.int .i64 ((I : Int) + 1))) := (Same.refl (OnlyP b) w).setCell (p := ⟨b, 1, none⟩) rfl _
  refine ⟨I, by omega, h0, blk_cell hb 1, blk_frozen hb 1, ⟨L, A, c, I + 1, ?_, by omega, ?_, F_same hF hS (fun k hk => Nat.ne_of_lt hk), hc, h6⟩, hS⟩
  ·exact blk_put hb 1 _ (by rfl)
  ·simp only
   rw [if_pos h0, h5]
 ·rw [if_neg h0] at h3
  cases h3
theorem next_at {w : World} {b : Nat} {n err at_ : Int} {t : Tok} {r L : List Tok} {A : Option Addr} {c I : Nat} (hb : w.heap[b]? = some (.cells #[.slice A L.length c, .int .i64 (I : Int), .int .i64 n, .int .i64 err, .int .i64 at_] 78 (0, 0)))
  (h3 : t :: r = (if err = 0 then L.drop I else [])) (hF : Kd.F kTok w (fun q => q < b) A L.length L) (hc : L.length ≤ c) (h6 : (∀ t ∈ L, t.f0 = 1 → t.f3.toList ≠ []) ∧ L = Z.L ∧ A = Z.A ∧ c = Z.c) :
  err = 0 ∧ ∃ hI : I < L.length, t = L[I] ∧ IsR Z (w.setCell ⟨b, 1, none⟩ (.int .i64 ((I : Int) + 1))) b n ⟨r, err, at_⟩ ∧ Same (OnlyP b) w (w.setCell ⟨b, 1, none⟩ (.int .i64 ((I : Int) + 1))) := by
 by_cases h0 : err = 0
 ·rw [if_pos h0] at h3
  have hI : I < L.length := Decidable.byContradiction (fun hh => by rw [List.drop_eq_nil_of_le (by omega)] at h3; cases h3)
  rw [List.drop_eq_getElem_cons hI] at h3
  injection h3 with h4 h5
  have hS : Same (OnlyP b) w (w.setCell ⟨b, 1, none⟩ (.int .i64 ((I : Int) + 1))) := (Same.refl (OnlyP b) w).setCell (p := ⟨b, 1, none⟩) rfl _
  refine ⟨h0, hI, h4, ⟨L, A, c, I + 1, blk_put hb 1 _ (by rfl), by omega, ?_, F_same hF hS (fun k hk => Nat.ne_of_lt hk), hc, h6⟩, hS⟩
  simp only
  rw [if_pos h0, h5]
 ·rw [if_neg h0] at h3
  cases h3
end Go.Proofs.YtkgmempifggajaaGreatDoor.P
/- formula's (*parser).list. (Printed by wip/tools/gen_list.py.) -/
namespace Go.Proofs.YtkgmempifggajaaGreatDoor.P
open Go.RowKit Go.Proofs.YtkgmempifggajaaGreatDoorW.PrintWords Go.Proofs.YtkgmempifggajaaGreatDoorW.PrintLast Go.Proofs.YtkgmempifggajaaGreatDoorW.PrintMore
set_option linter.unusedVariables false
set_option linter.unusedSimpArgs false
theorem R_lit1 {W : World} {base : Nat} {x : Fm} {cs : List Value} {okp ok : Nat → Prop} (hp : kFm.M W base okp x cs) (hok : ∀ k, okp k → ok k) (hfresh : ok W.heap.size) (hbase : base ≤ W.heap.size) :
  Kd.R kFm 24 (W.alloc (.cells cs.toArray 24)) base ok (.slice (some ⟨W.heap.size, 0, none⟩) 1 1) [x] := by
 have hl : cs.length = kFm.sz := kFm.K_len (kFm.K_of_M hp)
 refine ⟨fun k hk => ?_, cs, ?_, ?_⟩
 ·have : W.heap.size = k := by simpa [Value.ownBlock] using hk
  subst this
  exact hfresh
 ·have h2 := World.ownsRow_lit (base := base) (e := 24) (size := kFm.sz) W cs.toArray 1 hbase (by simp [maxLen]) (by simp [hl])
  simpa using h2
 ·have h1 : Reps (kFm.M (W.alloc (.cells cs.toArray 24)) base (fun k => ok k ∧ some k ≠ (Value.slice (some ⟨W.heap.size, 0, none⟩) 1 1).ownBlock)) kFm.sz ([] ++ [x]) ([] ++ cs) := by
   refine Reps.snoc (Reps.none _ _) ?_ hl
   refine kFm.M_mono (fun k hk => ⟨hok k hk.1, fun he => ?_⟩) (Kd.M_below (kFm.M_bound hp) (below_alloc (Below.refl _ _) _))
   have h3 : k = W.heap.size := by simpa [Value.ownBlock] using he
   have := hk.2.2.1
   omega
  exact h1
theorem R_same {W W1 : World} {e base : Nat} {ok : Nat → Prop} {v : Value} {xs : List Fm} {S : Nat → Prop} (h : Kd.R kFm e W base ok v xs) (hs : Same S W W1) (hS : ∀ k, base ≤ k → ¬ S k) : Kd.R kFm e W1 base ok v xs :=
 Kd.R_mono (Kd.R_step (Kd.R_bound h) (fun k hk hlt => hs.block k hlt (hS k hk.2.1))) (fun k hk => hk.1)
theorem R_new_ok {W : World} {e base base' : Nat} {v : Value} {xs : List Fm} {ok : Nat → Prop} (h : Kd.R kFm e W base (fun _ => True) v xs) (hb : base' ≤ base) (hok : ∀ k, base ≤ k → ok k) : Kd.R kFm e W base' ok v xs :=
 Kd.R_lower (Kd.R_mono (Kd.R_bound h) (fun k hk => hok k hk.2.1)) hb
theorem kFm_mkM_ (w : World) (base : Nat) (ok : Nat → Prop) (x : Fm) {v4 : Value} (g4 : Kd.R kFm 24 w base ok v4 x.f4) : kFm.M w base ok x [.int .i64 x.f0, .string x.f1, .int .i64 x.f2, .int .i64 x.f3, v4] := k24_mkM w base ok x g4
theorem same_base {S : Nat → Prop} {w w3 w4 : World} (h : Same S w w3) (hb : Below w.heap.size w3 w4) : Same S w w4 :=
 ⟨hb.os.trans h.os, hb.tape.trans h.tape, hb.output.trans h.output, Nat.le_trans h.size hb.size, fun k hk hn => (hb.block k hk).trans (h.block k hk hn)⟩
theorem info_fm : (Tryz.prog.info? 24).map (fun i => (i.zero, i.size, i.bytes)) = some (some (.agg #[.int .i64 0, .string ⟨#[]⟩, .int .i64 0, .int .i64 0, .slice none 0 0]), 5, 64) := by kernel_rfl
def sliceLen : Value → Nat
 | .slice _ n _ => n
 | _ => 0
theorem put5 {w : World} {g : Nat} {t : TypeId} {a b c d e : Value} (h : w.heap[g]? = some (.cells #[a, b, c, d, e] t (0, 0))) (x y z u v : Value) :
  (((((w.setCell ⟨g, 0, none⟩ x).setCell ⟨g, 1, none⟩ y).setCell ⟨g, 2, none⟩ z).setCell ⟨g, 3, none⟩ u).setCell ⟨g, 4, none⟩ v).heap[g]? = some (.cells #[x, y, z, u, v] t (0, 0)) :=
 blk_put (blk_put (blk_put (blk_put (blk_put h 0 x rfl) 1 y rfl) 2 z rfl) 3 u rfl) 4 v rfl
theorem put5_other (w : World) (g : Nat) (x y z u v : Value) {k : Nat} (hk : k ≠ g) :
  (((((w.setCell ⟨g, 0, none⟩ x).setCell ⟨g, 1, none⟩ y).setCell ⟨g, 2, none⟩ z).setCell ⟨g, 3, none⟩ u).setCell ⟨g, 4, none⟩ v).heap[k]? = w.heap[k]? := by
 rw [Below.heap_setCell _ _ _ _ hk, Below.heap_setCell _ _ _ _ hk, Below.heap_setCell _ _ _ _ hk, Below.heap_setCell _ _ _ _ hk, Below.heap_setCell _ _ _ _ hk]
theorem R_first {W : World} {e base n c : Nat} {ok : Nat → Prop} {A : Option Addr} {x : Fm} {xs : List Fm} (h : Kd.R kFm e W base ok (.slice A n c) (x :: xs)) :
  ∃ g c1 v4, Value.slice A n c = .slice (some ⟨g, 0, none⟩) n c1 ∧ W.cell? ⟨g, 0, none⟩ = some (.int .i64 x.f0) ∧ W.cell? ⟨g, 1, none⟩ = some (.string x.f1) ∧ W.cell? ⟨g, 2, none⟩ = some (.int .i64 x.f2) ∧ W.cell? ⟨g, 3, none⟩ = some (.int .i64 x.f3) ∧ W.cell? ⟨g, 4, none⟩ = some v4 ∧ Kd.R kFm 24 W base ok v4 x.f4 := by
 obtain ⟨inner, ho⟩ := Kd.R_own h
 obtain ⟨A', c', he, hle, hC⟩ := Kd.R_reads h
 injection he with hA hn hc
 subst hA
 subst hn
 subst hc
 rcases ho.2 with ⟨e1, e2⟩ | ⟨g, cap, cur, e1, _, hb, _⟩
 ·simp at e2
 ·injection e1 with e1 _ e3
  subst e1
  obtain ⟨cs, hcl, hM, hcc⟩ := Kd.R_get h z24 0 (by omega) (by simp)
  obtain ⟨v4, rfl, hv⟩ := k24_openM hM
  have hcell : ∀ j u, [Value.int .i64 x.f0, .string x.f1, .int .i64 x.f2, .int .i64 x.f3, v4][j]? = some u → W.cell? ⟨g, j, none⟩ = some u := fun j u hu => by
   have := hcc j u hu
   cases j with
   | zero => simpa [Addr.add] using this
   | succ j => simpa [Addr.add] using this
  exact ⟨g, _, v4, rfl, hcell 0 _ rfl, hcell 1 _ rfl, hcell 2 _ rfl, hcell 3 _ rfl, hcell 4 _ rfl, Kd.R_mono hv (fun k hk => hk.1)⟩
def PartPost (b : Nat) (n : Int) (w : World) (x : Fm) (s : PS) (e : Ending) (w' : World) : Prop :=
 ∃ v, e = .returned (.agg #[.int .i64 x.f0, .string x.f1, .int .i64 x.f2, .int .i64 x.f3, v]) ∧ Kd.R kFm 24 w' w.heap.size (fun _ => True) v x.f4 ∧ IsP w' b n s ∧ Same (OnlyP b) w w'
def listLoop (part : PS → Fm × PS) (word : ByteArray) : Nat → List Fm → PS → List Fm × PS
 | 0, acc, s => (acc, s)
 | f + 1, acc, s => match s.toks with
  | [] => (acc, s)
  | t :: r => if t.f0 = 1 ∧ (t.f3.toList == word.toList) = true then listLoop part word f (acc ++ [(part ⟨r, s.err, s.at_⟩).1]) (part ⟨r, s.err, s.at_⟩).2 else (acc, s)
def listP (part : PS → Fm × PS) (op : Int) (word : ByteArray) (s : PS) : Fm × PS :=
 (if (listLoop part word (part s).2.toks.length [(part s).1] (part s).2).1.length = 1 then (listLoop part word (part s).2.toks.length [(part s).1] (part s).2).1.headD z24 else ⟨op, ⟨#[]⟩, 0, 0, (listLoop part word (part s).2.toks.length [(part s).1] (part s).2).1⟩,
  (listLoop part word (part s).2.toks.length [(part s).1] (part s).2).2)
theorem listLoop_stop (part : PS → Fm × PS) (word : ByteArray) (f : Nat) (acc : List Fm) (s : PS) (h : ∀ t r, s.toks = t :: r → ¬ (t.f0 = 1 ∧ (t.f3.toList == word.toList) = true)) : listLoop part word f acc s = (acc, s) := by
 cases f with
 | zero => rfl
 | succ f =>
  unfold listLoop
  split
  ·rfl
  ·rename_i t r hq
   rw [if_neg (h t r hq)]
theorem listLoop_go (part : PS → Fm × PS) (word : ByteArray) (f : Nat) (acc : List Fm) (t : Tok) (r : List Tok) (err at_ : Int) (h1 : t.f0 = 1) (h2 : (t.f3.toList == word.toList) = true) :
  listLoop part word (f + 1) acc ⟨t :: r, err, at_⟩ = listLoop part word f (acc ++ [(part ⟨r, err, at_⟩).1]) (part ⟨r, err, at_⟩).2 := if_pos ⟨h1, h2⟩
def Shrinks (part : PS → Fm × PS) : Prop := ∀ s, (part s).2.toks.length ≤ s.toks.length
theorem listLoop_pos (part : PS → Fm × PS) (word : ByteArray) (f : Nat) (acc : List Fm) (s : PS) : acc.length ≤ (listLoop part word f acc s).1.length := by
 induction f generalizing acc s with
 | zero => simp [listLoop]
 | succ f ih =>
  unfold listLoop
  split
  ·simp
  ·split
   ·exact Nat.le_trans (by simp) (ih _ _)
   ·simp
def At_one (L : Nat) (b : Nat) (n : Int) (part : PS → Fm × PS) : Prop := ∀ (s : PS) (w : World), s.toks.length ≤ L → IsP w b n s → Calls Tryz.prog 103 #[.pointer (some ⟨b, 0, none⟩)] w (PartPost b n w (part s).1 (part s).2)
set_option maxHeartbeats 4000000 in
set_option maxRecDepth 100000 in
theorem list_one (L : Nat) (hL : L ≤ 100000) (b : Nat) (n : Int) (part : PS → Fm × PS) (hp : At_one L b n part) (hsh : Shrinks part) (op : Int) (word : ByteArray) (s : PS) (w : World) (hs : s.toks.length ≤ L) (h : IsP w b n s) :
  Calls Tryz.prog 80 #[.pointer (some ⟨b, 0, none⟩), .int .i64 op, .string word, .func (.func 103) #[.pointer (some ⟨b, 0, none⟩)] #[]] w (PartPost b n w (listP part op word s).1 (listP part op word s).2) := by
 have hlt := h.lt
 have H := Aside0.mk h
 have HP := Aside0.mk hp
 have HSH := Aside0.mk hsh
 have HSL := Aside0.mk hs
 have HLL := Aside0.mk hL
 have HX := Aside0.mk (show listP part op word s = _ from rfl)
 obtain ⟨out, hout⟩ : ∃ out, listP part op word s = out := ⟨_, rfl⟩
 have HOUT := Aside0.mk hout
 rw [hout]
 clear h hp hsh hs hL hout HX
 go_enter Tryz.func80, Tryz.ntmps80
 go_wp2_with fail
 refine (HP.out s _ HSL.out (H.out.below (below_alloc (Below.refl _ _) _))).mono ?_
 rintro e w1 ⟨v1, rfl, hR, hI, hS⟩
 have hz : w.heap.size < w1.heap.size := by have := hS.size; simp at this; omega
 have HI := Aside0.mk hI
 have HS := Aside0.mk (show Same (OnlyP b) w w1 from ((Same.refl (OnlyP b) w).alloc _).trans hS)
 have HRES := Aside0.mk (show w1.heap[w.heap.size]? = some (.cells #[.int .i64 0, .string ⟨#[]⟩, .int .i64 0, .int .i64 0, .slice none 0 0] 24 (0, 0)) from (hS.block _ (by simp) (by unfold OnlyP; omega)).trans (by (repeat (first | (refine blk_new _ _ ?_; first | rfl | (simp; done)) | refine blk_alloc_old ?_ _ | refine blk_drew_old ?_ | refine blk_drewN_old ?_ _ | assumption))))
 have hsz0 : (w.alloc (.cells #[.int .i64 0, .string ⟨#[]⟩, .int .i64 0, .int .i64 0, .slice none 0 0] 24)).heap.size = w.heap.size + 1 := by simp
 have HR := Aside0.mk (show Kd.R kFm 24 w1 w.heap.size (fun q => q ≠ w.heap.size) v1 (part s).1.f4 from R_new_ok (base := w.heap.size + 1) (by rw [← hsz0]; exact hR) (by omega) (fun k hk => by omega))
 clear hR hI hS hsz0
 have HSN := Aside0.mk (HSH.out s)
 have HOUT2 := Aside0.mk (show out = (if (listLoop part word (part s).2.toks.length [(part s).1] (part s).2).1.length = 1 then (listLoop part word (part s).2.toks.length [(part s).1] (part s).2).1.headD z24 else ⟨op, ⟨#[]⟩, 0, 0, (listLoop part word (part s).2.toks.length [(part s).1] (part s).2).1⟩, (listLoop part word (part s).2.toks.length [(part s).1] (part s).2).2) from HOUT.out.symm)
 obtain ⟨p0, hp0⟩ : ∃ p0, part s = p0 := ⟨_, rfl⟩
 rw [hp0] at HI HR HSN HOUT2 ⊢
 clear hp0 HOUT
 go_wp2
 have hbd : p0.2.toks.length ≤ L := Nat.le_trans HSN.out HSL.out
 have hLL := HLL.out
 go_loopw [9] (fun v9 wr => ∃ (f : Nat) (acc : List Fm) (st : PS), Aside0 (Kd.R kFm 24 wr w.heap.size (fun q => q ≠ w.heap.size) v9 acc) ∧ Aside0 (IsP wr b n st) ∧ Aside0 (Same (OnlyP b) w wr) ∧ Aside0 (wr.heap[w.heap.size]? = some (.cells #[.int .i64 0, .string ⟨#[]⟩, .int .i64 0, .int .i64 0, .slice none 0 0] 24 (0, 0))) ∧
   Aside0 (listLoop part word p0.2.toks.length [p0.1] p0.2 = listLoop part word f acc st) ∧ Aside0 (st.toks.length ≤ f) ∧ acc.length + st.toks.length ≤ L + 1) (fun v9 _ => L + 2 - sliceLen v9)
 case atStart =>
  refine ⟨p0.2.toks.length, [p0.1], p0.2, ⟨?_⟩, ⟨HI.out.below (below_alloc (Below.refl _ _) _)⟩, ⟨HS.out.alloc _⟩, ⟨blk_alloc_old HRES.out _⟩, ⟨rfl⟩, ⟨Nat.le_refl _⟩, by simp; omega⟩
  exact R_lit1 (okp := fun q => q ≠ w.heap.size) (kFm_mkM_ _ _ _ p0.1 HR.out) (fun k hk => hk) (by omega) (by omega)
 case round =>
  obtain ⟨f, acc, st, HR2, HI2, HS2, HRES2, HQ, HF, hacc⟩ := hrel
  clear HR HI HS HRES
  obtain ⟨A0, c0, rfl⟩ := Kd.R_slice HR2.out
  have hlt2 := HI2.out.lt
  have hltr := lt_of_block HRES2.out
  obtain ⟨A, c, hb, hFt, hc⟩ := HI2.out.blk
  have hc0 := blk_cell hb 0
  obtain ⟨toks, err, at_⟩ := st
  simp only at hc0 hc hacc hFt
  have hstop : ∀ (q : listLoop part word f acc ⟨toks, err, at_⟩ = (acc, ⟨toks, err, at_⟩)), out = (if acc.length = 1 then acc.headD z24 else ⟨op, ⟨#[]⟩, 0, 0, acc⟩, ⟨toks, err, at_⟩) := fun q => by
   rw [HOUT2.out, HQ.out, q]
  have HSTOP := Aside0.mk hstop
  clear hstop
  cases toks with
  | nil =>
   have HO := Aside0.mk (HSTOP.out (listLoop_stop part word f acc _ (fun t r h => by cases h)))
   simp only [List.length_nil] at hc0 hc hFt
   clear hb hFt HSTOP
   have hf0 := blk_cell HRES2.out 0
   have hg0 := blk_frozen HRES2.out 0
   have hf1 := blk_cell HRES2.out 1
   have hg1 := blk_frozen HRES2.out 1
   have hf2 := blk_cell HRES2.out 2
   have hg2 := blk_frozen HRES2.out 2
   have hf3 := blk_cell HRES2.out 3
   have hg3 := blk_frozen HRES2.out 3
   have hf4 := blk_cell HRES2.out 4
   have hg4 := blk_frozen HRES2.out 4
   have hbw : ∀ k, k ≤ b → k ≠ w.heap.size := fun k hk => by omega
   have HBW := Aside0.mk hbw
   clear hbw
   by_cases hl1 : acc.length = 1
   ·obtain ⟨x, rfl⟩ : ∃ x, acc = [x] := List.length_eq_one_iff.1 hl1
    obtain ⟨g, c1, v4, hg, q0, q1, q2, q3, q4, HR4⟩ := R_first HR2.out
    obtain ⟨A4, c4, rfl⟩ := Kd.R_slice HR4
    injection hg with hgA _ hgc
    subst hgA
    have HO1 := Aside0.mk (HO.out.trans (congrArg (fun y => (y, _)) (if_pos hl1)))
    clear hl1 HO hgc
    have hglt : g < wr.heap.size := lt_of_cell q0
    have HR5 := Aside0.mk HR4
    clear HR4
    go_wp2
    refine bodyPost_ret (results_cell_row rfl _ _ w.heap.size 24 #[.int .i64 x.f0, .string x.f1, .int .i64 x.f2, .int .i64 x.f3, .slice A4 x.f4.length c4] (0, 0) _ rfl (put5 HRES2.out _ _ _ _ _) Tryz.underlying24 rfl (by kernel_rfl)) rfl ?_
    rw [HO1.out]
    refine ⟨.slice A4 x.f4.length c4, rfl, Kd.R_mono (Kd.R_step HR5.out (fun k hk _ => put5_other _ _ _ _ _ _ _ hk)) (fun _ _ => trivial), HI2.out.keep (fun k hk => put5_other _ _ _ _ _ _ _ (HBW.out k hk)), ?_⟩
    exact (((((HS2.out.setNew (p := ⟨w.heap.size, 0, none⟩) (Nat.le_refl _) _).setNew (p := ⟨w.heap.size, 1, none⟩) (Nat.le_refl _) _).setNew (p := ⟨w.heap.size, 2, none⟩) (Nat.le_refl _) _).setNew (p := ⟨w.heap.size, 3, none⟩) (Nat.le_refl _) _).setNew (p := ⟨w.heap.size, 4, none⟩) (Nat.le_refl _) _)
   ·have bl : ((acc.length : Int) == 1) = false := by simpa using by omega
    have HO1 := Aside0.mk (HO.out.trans (congrArg (fun y => (y, _)) (if_neg hl1)))
    clear hl1 HO
    go_wp2
    refine bodyPost_ret (results_cell_row rfl _ _ w.heap.size 24 #[.int .i64 op, .string ⟨#[]⟩, .int .i64 0, .int .i64 0, .slice A0 acc.length c0] (0, 0) _ rfl (put5 HRES2.out _ _ _ _ _) Tryz.underlying24 rfl (by kernel_rfl)) rfl ?_
    rw [HO1.out]
    refine ⟨.slice A0 acc.length c0, rfl, Kd.R_mono (Kd.R_step HR2.out (fun k hk _ => put5_other _ _ _ _ _ _ _ hk)) (fun _ _ => trivial), HI2.out.keep (fun k hk => put5_other _ _ _ _ _ _ _ (HBW.out k hk)), ?_⟩
    exact (((((HS2.out.setNew (p := ⟨w.heap.size, 0, none⟩) (Nat.le_refl _) _).setNew (p := ⟨w.heap.size, 1, none⟩) (Nat.le_refl _) _).setNew (p := ⟨w.heap.size, 2, none⟩) (Nat.le_refl _) _).setNew (p := ⟨w.heap.size, 3, none⟩) (Nat.le_refl _) _).setNew (p := ⟨w.heap.size, 4, none⟩) (Nat.le_refl _) _)
  | cons t r =>
   obtain ⟨ad, rfl, hok, k0, k1, k2, k3⟩ := tok_atF hFt 0 (by simp)
   have e0 : ad.add (0 * 4) = ad := by simp [Addr.add]
   rw [e0] at k0 k1 k2 k3
   have hadlt : ad.block < wr.heap.size := lt_of_cell k0
   simp only [List.getElem_cons_zero] at k0 k1 k2 k3
   have hm : (r.length + 1) ≤ 9223372036854775807 := Kd.F_max hFt
   simp only [List.length_cons] at hc0 hc hacc
   clear hb hFt e0
   by_cases h1 : t.f0 = 1
   ·have b1 : (t.f0 == 1) = true := by simpa using h1
    cases h2 : t.f3.toList == word.toList
    ·have HO := Aside0.mk (HSTOP.out (listLoop_stop part word f acc _ (fun t' r' h => by cases h; rw [h2]; simp)))
     clear HSTOP h1
     have hf0 := blk_cell HRES2.out 0
     have hg0 := blk_frozen HRES2.out 0
     have hf1 := blk_cell HRES2.out 1
     have hg1 := blk_frozen HRES2.out 1
     have hf2 := blk_cell HRES2.out 2
     have hg2 := blk_frozen HRES2.out 2
     have hf3 := blk_cell HRES2.out 3
     have hg3 := blk_frozen HRES2.out 3
     have hf4 := blk_cell HRES2.out 4
     have hg4 := blk_frozen HRES2.out 4
     have hbw : ∀ k, k ≤ b → k ≠ w.heap.size := fun k hk => by omega
     have HBW := Aside0.mk hbw
     clear hbw
     by_cases hl1 : acc.length = 1
     ·obtain ⟨x, rfl⟩ : ∃ x, acc = [x] := List.length_eq_one_iff.1 hl1
      obtain ⟨g, c1, v4, hg, q0, q1, q2, q3, q4, HR4⟩ := R_first HR2.out
      obtain ⟨A4, c4, rfl⟩ := Kd.R_slice HR4
      injection hg with hgA _ hgc
      subst hgA
      have HO1 := Aside0.mk (HO.out.trans (congrArg (fun y => (y, _)) (if_pos hl1)))
      clear hl1 HO hgc
      have hglt : g < wr.heap.size := lt_of_cell q0
      have HR5 := Aside0.mk HR4
      clear HR4
      go_wp2
      refine bodyPost_ret (results_cell_row rfl _ _ w.heap.size 24 #[.int .i64 x.f0, .string x.f1, .int .i64 x.f2, .int .i64 x.f3, .slice A4 x.f4.length c4] (0, 0) _ rfl (put5 HRES2.out _ _ _ _ _) Tryz.underlying24 rfl (by kernel_rfl)) rfl ?_
      rw [HO1.out]
      refine ⟨.slice A4 x.f4.length c4, rfl, Kd.R_mono (Kd.R_step HR5.out (fun k hk _ => put5_other _ _ _ _ _ _ _ hk)) (fun _ _ => trivial), HI2.out.keep (fun k hk => put5_other _ _ _ _ _ _ _ (HBW.out k hk)), ?_⟩
      exact (((((HS2.out.setNew (p := ⟨w.heap.size, 0, none⟩) (Nat.le_refl _) _).setNew (p := ⟨w.heap.size, 1, none⟩) (Nat.le_refl _) _).setNew (p := ⟨w.heap.size, 2, none⟩) (Nat.le_refl _) _).setNew (p := ⟨w.heap.size, 3, none⟩) (Nat.le_refl _) _).setNew (p := ⟨w.heap.size, 4, none⟩) (Nat.le_refl _) _)
     ·have bl : ((acc.length : Int) == 1) = false := by simpa using by omega
      have HO1 := Aside0.mk (HO.out.trans (congrArg (fun y => (y, _)) (if_neg hl1)))
      clear hl1 HO
      go_wp2
      refine bodyPost_ret (results_cell_row rfl _ _ w.heap.size 24 #[.int .i64 op, .string ⟨#[]⟩, .int .i64 0, .int .i64 0, .slice A0 acc.length c0] (0, 0) _ rfl (put5 HRES2.out _ _ _ _ _) Tryz.underlying24 rfl (by kernel_rfl)) rfl ?_
      rw [HO1.out]
      refine ⟨.slice A0 acc.length c0, rfl, Kd.R_mono (Kd.R_step HR2.out (fun k hk _ => put5_other _ _ _ _ _ _ _ hk)) (fun _ _ => trivial), HI2.out.keep (fun k hk => put5_other _ _ _ _ _ _ _ (HBW.out k hk)), ?_⟩
      exact (((((HS2.out.setNew (p := ⟨w.heap.size, 0, none⟩) (Nat.le_refl _) _).setNew (p := ⟨w.heap.size, 1, none⟩) (Nat.le_refl _) _).setNew (p := ⟨w.heap.size, 2, none⟩) (Nat.le_refl _) _).setNew (p := ⟨w.heap.size, 3, none⟩) (Nat.le_refl _) _).setNew (p := ⟨w.heap.size, 4, none⟩) (Nat.le_refl _) _)
    ·obtain ⟨f, rfl⟩ : ∃ g, f = g + 1 := ⟨f - 1, by have := HF.out; simp only [List.length_cons] at this; omega⟩
     have HQ2 := Aside0.mk (show listLoop part word p0.2.toks.length [p0.1] p0.2 = listLoop part word f (acc ++ [(part ⟨r, err, at_⟩).1]) (part ⟨r, err, at_⟩).2 by
      rw [HQ.out, listLoop_go part word f acc t r err at_ h1 h2])
     have HF2 := Aside0.mk (show (part ⟨r, err, at_⟩).2.toks.length ≤ f by
      have := HF.out; have := HSH.out ⟨r, err, at_⟩; simp only [List.length_cons] at *; omega)
     have hsh := HSH.out ⟨r, err, at_⟩
     simp only at hsh
     clear HSTOP HQ HF h1
     go_wp2_with fail
     refine (take_some b n t r err at_ wr HI2.out).mono ?_
     rintro e w2 ⟨rfl, hI, hS⟩
     have HI3 := Aside0.mk hI
     have HS3 := Aside0.mk hS
     have hz2 : wr.heap.size ≤ w2.heap.size := hS.size
     clear hI hS
     go_wp2_with fail
     refine (HP.out ⟨r, err, at_⟩ w2 (by show r.length ≤ L; omega) HI3.out).mono ?_
     rintro e w3 ⟨v2, rfl, hR, hI, hS⟩
     obtain ⟨A2, c2, rfl⟩ := Kd.R_slice hR
     have hz3 : w2.heap.size ≤ w3.heap.size := hS.size
     have HS4 := Aside0.mk ((HS2.out.trans HS3.out).trans hS)
     have HSr := Aside0.mk (HS3.out.trans hS)
     have HI4 := Aside0.mk hI
     have HR4 := Aside0.mk (R_new_ok (base' := w.heap.size) (ok := fun q => w2.heap.size ≤ q) hR (by omega) (fun k hk => hk))
     have HR3 := Aside0.mk (R_same HR2.out HSr.out (fun k hk => by unfold OnlyP; omega))
     have HOW := Aside0.mk (show ∀ k, (Value.slice A0 acc.length c0).ownBlock = some k → k < wr.heap.size from fun k hk => by
      obtain ⟨inner, ho⟩ := Kd.R_own HR2.out
      exact own_lt ho k hk)
     have HRES3 := Aside0.mk ((HSr.out.block _ hltr (by unfold OnlyP; omega)).trans HRES2.out)
     obtain ⟨p, hp⟩ : ∃ p, part ⟨r, err, at_⟩ = p := ⟨_, rfl⟩
     rw [hp] at HI4 HR4 HQ2 HF2 hsh ⊢
     clear hp hR hI hS k0 k1 k2 k3
     have hacl : acc.length ≤ 100001 := by omega
     go_wp2_with (at_builtin; go_loud (refine Kd.R_append kFm (w0 := w3) w.heap.size rfl _ _ 22 24 _ 64 rfl Tryz.underlying22 info_fm rfl (by decide) (by decide) (.slice A0 acc.length c0) acc p.1 [.int .i64 p.1.f0, .string p.1.f1, .int .i64 p.1.f2, .int .i64 p.1.f3, .slice A2 p.1.f4.length c2] (fun q => q ≠ w.heap.size) (fun q => w2.heap.size ≤ q) rfl (by simp [Act.eval]) (kFm_mkM_ _ _ _ p.1 HR4.out) (fun k hk => ⟨by omega, fun he => by have := HOW.out k he.symm; omega⟩) (fun q hq => by omega) HR3.out (Below.refl _ _) (by omega) (by omega) ?_); intro v4 w4 hR hBB hG hat)
     have HR5 := Aside0.mk hR
     have HB5 := Aside0.mk hBB
     have HRES5 := Aside0.mk ((hG.block _ (by omega) (fun e => HR3.out.1 _ e.symm rfl)).trans HRES3.out)
     clear hR hBB hG hat
     go_wp2
     go_roundw
     case rel =>
      exact ⟨f, acc ++ [p.1], p.2, HR5, ⟨HI4.out.keep (fun k hk => HB5.out.block k (by omega))⟩, ⟨same_base HS4.out HB5.out⟩, HRES5, HQ2, HF2, by simp; omega⟩
     case measure =>
      obtain ⟨A5, c5, rfl⟩ := Kd.R_slice HR5.out
      simp [sliceLen]; omega
   ·have b1 : (t.f0 == 1) = false := by simpa using h1
    have HO := Aside0.mk (HSTOP.out (listLoop_stop part word f acc _ (fun t' r' h => by cases h; exact fun hh => h1 hh.1)))
    clear HSTOP h1
    have hf0 := blk_cell HRES2.out 0
    have hg0 := blk_frozen HRES2.out 0
    have hf1 := blk_cell HRES2.out 1
    have hg1 := blk_frozen HRES2.out 1
    have hf2 := blk_cell HRES2.out 2
    have hg2 := blk_frozen HRES2.out 2
    have hf3 := blk_cell HRES2.out 3
    have hg3 := blk_frozen HRES2.out 3
    have hf4 := blk_cell HRES2.out 4
    have hg4 := blk_frozen HRES2.out 4
    have hbw : ∀ k, k ≤ b → k ≠ w.heap.size := fun k hk => by omega
    have HBW := Aside0.mk hbw
    clear hbw
    by_cases hl1 : acc.length = 1
    ·obtain ⟨x, rfl⟩ : ∃ x, acc = [x] := List.length_eq_one_iff.1 hl1
     obtain ⟨g, c1, v4, hg, q0, q1, q2, q3, q4, HR4⟩ := R_first HR2.out
     obtain ⟨A4, c4, rfl⟩ := Kd.R_slice HR4
     injection hg with hgA _ hgc
     subst hgA
     have HO1 := Aside0.mk (HO.out.trans (congrArg (fun y => (y, _)) (if_pos hl1)))
     clear hl1 HO hgc
     have hglt : g < wr.heap.size := lt_of_cell q0
     have HR5 := Aside0.mk HR4
     clear HR4
     go_wp2
     refine bodyPost_ret (results_cell_row rfl _ _ w.heap.size 24 #[.int .i64 x.f0, .string x.f1, .int .i64 x.f2, .int .i64 x.f3, .slice A4 x.f4.length c4] (0, 0) _ rfl (put5 HRES2.out _ _ _ _ _) Tryz.underlying24 rfl (by kernel_rfl)) rfl ?_
     rw [HO1.out]
     refine ⟨.slice A4 x.f4.length c4, rfl, Kd.R_mono (Kd.R_step HR5.out (fun k hk _ => put5_other _ _ _ _ _ _ _ hk)) (fun _ _ => trivial), HI2.out.keep (fun k hk => put5_other _ _ _ _ _ _ _ (HBW.out k hk)), ?_⟩
     exact (((((HS2.out.setNew (p := ⟨w.heap.size, 0, none⟩) (Nat.le_refl _) _).setNew (p := ⟨w.heap.size, 1, none⟩) (Nat.le_refl _) _).setNew (p := ⟨w.heap.size, 2, none⟩) (Nat.le_refl _) _).setNew (p := ⟨w.heap.size, 3, none⟩) (Nat.le_refl _) _).setNew (p := ⟨w.heap.size, 4, none⟩) (Nat.le_refl _) _)
    ·have bl : ((acc.length : Int) == 1) = false := by simpa using by omega
     have HO1 := Aside0.mk (HO.out.trans (congrArg (fun y => (y, _)) (if_neg hl1)))
     clear hl1 HO
     go_wp2
     refine bodyPost_ret (results_cell_row rfl _ _ w.heap.size 24 #[.int .i64 op, .string ⟨#[]⟩, .int .i64 0, .int .i64 0, .slice A0 acc.length c0] (0, 0) _ rfl (put5 HRES2.out _ _ _ _ _) Tryz.underlying24 rfl (by kernel_rfl)) rfl ?_
     rw [HO1.out]
     refine ⟨.slice A0 acc.length c0, rfl, Kd.R_mono (Kd.R_step HR2.out (fun k hk _ => put5_other _ _ _ _ _ _ _ hk)) (fun _ _ => trivial), HI2.out.keep (fun k hk => put5_other _ _ _ _ _ _ _ (HBW.out k hk)), ?_⟩
     exact (((((HS2.out.setNew (p := ⟨w.heap.size, 0, none⟩) (Nat.le_refl _) _).setNew (p := ⟨w.heap.size, 1, none⟩) (Nat.le_refl _) _).setNew (p := ⟨w.heap.size, 2, none⟩) (Nat.le_refl _) _).setNew (p := ⟨w.heap.size, 3, none⟩) (Nat.le_refl _) _).setNew (p := ⟨w.heap.size, 4, none⟩) (Nat.le_refl _) _)
def At_all (L : Nat) (b : Nat) (n : Int) (part : PS → Fm × PS) : Prop := ∀ (s : PS) (w : World), s.toks.length ≤ L → IsP w b n s → Calls Tryz.prog 81 #[.pointer (some ⟨b, 0, none⟩)] w (PartPost b n w (part s).1 (part s).2)
set_option maxHeartbeats 4000000 in
set_option maxRecDepth 100000 in
theorem list_all (L : Nat) (hL : L ≤ 100000) (b : Nat) (n : Int) (part : PS → Fm × PS) (hp : At_all L b n part) (hsh : Shrinks part) (op : Int) (word : ByteArray) (s : PS) (w : World) (hs : s.toks.length ≤ L) (h : IsP w b n s) :
  Calls Tryz.prog 80 #[.pointer (some ⟨b, 0, none⟩), .int .i64 op, .string word, .func (.func 81) #[.pointer (some ⟨b, 0, none⟩)] #[]] w (PartPost b n w (listP part op word s).1 (listP part op word s).2) := by
 have hlt := h.lt
 have H := Aside0.mk h
 have HP := Aside0.mk hp
 have HSH := Aside0.mk hsh
 have HSL := Aside0.mk hs
 have HLL := Aside0.mk hL
 have HX := Aside0.mk (show listP part op word s = _ from rfl)
 obtain ⟨out, hout⟩ : ∃ out, listP part op word s = out := ⟨_, rfl⟩
 have HOUT := Aside0.mk hout
 rw [hout]
 clear h hp hsh hs hL hout HX
 go_enter Tryz.func80, Tryz.ntmps80
 go_wp2_with fail
 refine (HP.out s _ HSL.out (H.out.below (below_alloc (Below.refl _ _) _))).mono ?_
 rintro e w1 ⟨v1, rfl, hR, hI, hS⟩
 have hz : w.heap.size < w1.heap.size := by have := hS.size; simp at this; omega
 have HI := Aside0.mk hI
 have HS := Aside0.mk (show Same (OnlyP b) w w1 from ((Same.refl (OnlyP b) w).alloc _).trans hS)
 have HRES := Aside0.mk (show w1.heap[w.heap.size]? = some (.cells #[.int .i64 0, .string ⟨#[]⟩, .int .i64 0, .int .i64 0, .slice none 0 0] 24 (0, 0)) from (hS.block _ (by simp) (by unfold OnlyP; omega)).trans (by (repeat (first | (refine blk_new _ _ ?_; first | rfl | (simp; done)) | refine blk_alloc_old ?_ _ | refine blk_drew_old ?_ | refine blk_drewN_old ?_ _ | assumption))))
 have hsz0 : (w.alloc (.cells #[.int .i64 0, .string ⟨#[]⟩, .int .i64 0, .int .i64 0, .slice none 0 0] 24)).heap.size = w.heap.size + 1 := by simp
 have HR := Aside0.mk (show Kd.R kFm 24 w1 w.heap.size (fun q => q ≠ w.heap.size) v1 (part s).1.f4 from R_new_ok (base := w.heap.size + 1) (by rw [← hsz0]; exact hR) (by omega) (fun k hk => by omega))
 clear hR hI hS hsz0
 have HSN := Aside0.mk (HSH.out s)
 have HOUT2 := Aside0.mk (show out = (if (listLoop part word (part s).2.toks.length [(part s).1] (part s).2).1.length = 1 then (listLoop part word (part s).2.toks.length [(part s).1] (part s).2).1.headD z24 else ⟨op, ⟨#[]⟩, 0, 0, (listLoop part word (part s).2.toks.length [(part s).1] (part s).2).1⟩, (listLoop part word (part s).2.toks.length [(part s).1] (part s).2).2) from HOUT.out.symm)
 obtain ⟨p0, hp0⟩ : ∃ p0, part s = p0 := ⟨_, rfl⟩
 rw [hp0] at HI HR HSN HOUT2 ⊢
 clear hp0 HOUT
 go_wp2
 have hbd : p0.2.toks.length ≤ L := Nat.le_trans HSN.out HSL.out
 have hLL := HLL.out
 go_loopw [9] (fun v9 wr => ∃ (f : Nat) (acc : List Fm) (st : PS), Aside0 (Kd.R kFm 24 wr w.heap.size (fun q => q ≠ w.heap.size) v9 acc) ∧ Aside0 (IsP wr b n st) ∧ Aside0 (Same (OnlyP b) w wr) ∧ Aside0 (wr.heap[w.heap.size]? = some (.cells #[.int .i64 0, .string ⟨#[]⟩, .int .i64 0, .int .i64 0, .slice none 0 0] 24 (0, 0))) ∧
   Aside0 (listLoop part word p0.2.toks.length [p0.1] p0.2 = listLoop part word f acc st) ∧ Aside0 (st.toks.length ≤ f) ∧ acc.length + st.toks.length ≤ L + 1) (fun v9 _ => L + 2 - sliceLen v9)
 case atStart =>
  refine ⟨p0.2.toks.length, [p0.1], p0.2, ⟨?_⟩, ⟨HI.out.below (below_alloc (Below.refl _ _) _)⟩, ⟨HS.out.alloc _⟩, ⟨blk_alloc_old HRES.out _⟩, ⟨rfl⟩, ⟨Nat.le_refl _⟩, by simp; omega⟩
  exact R_lit1 (okp := fun q => q ≠ w.heap.size) (kFm_mkM_ _ _ _ p0.1 HR.out) (fun k hk => hk) (by omega) (by omega)
 case round =>
  obtain ⟨f, acc, st, HR2, HI2, HS2, HRES2, HQ, HF, hacc⟩ := hrel
  clear HR HI HS HRES
  obtain ⟨A0, c0, rfl⟩ := Kd.R_slice HR2.out
  have hlt2 := HI2.out.lt
  have hltr := lt_of_block HRES2.out
  obtain ⟨A, c, hb, hFt, hc⟩ := HI2.out.blk
  have hc0 := blk_cell hb 0
  obtain ⟨toks, err, at_⟩ := st
  simp only at hc0 hc hacc hFt
  have hstop : ∀ (q : listLoop part word f acc ⟨toks, err, at_⟩ = (acc, ⟨toks, err, at_⟩)), out = (if acc.length = 1 then acc.headD z24 else ⟨op, ⟨#[]⟩, 0, 0, acc⟩, ⟨toks, err, at_⟩) := fun q => by
   rw [HOUT2.out, HQ.out, q]
  have HSTOP := Aside0.mk hstop
  clear hstop
  cases toks with
  | nil =>
   have HO := Aside0.mk (HSTOP.out (listLoop_stop part word f acc _ (fun t r h => by cases h)))
   simp only [List.length_nil] at hc0 hc hFt
   clear hb hFt HSTOP
   have hf0 := blk_cell HRES2.out 0
   have hg0 := blk_frozen HRES2.out 0
   have hf1 := blk_cell HRES2.out 1
   have hg1 := blk_frozen HRES2.out 1
   have hf2 := blk_cell HRES2.out 2
   have hg2 := blk_frozen HRES2.out 2
   have hf3 := blk_cell HRES2.out 3
   have hg3 := blk_frozen HRES2.out 3
   have hf4 := blk_cell HRES2.out 4
   have hg4 := blk_frozen HRES2.out 4
   have hbw : ∀ k, k ≤ b → k ≠ w.heap.size := fun k hk => by omega
   have HBW := Aside0.mk hbw
   clear hbw
   by_cases hl1 : acc.length = 1
   ·obtain ⟨x, rfl⟩ : ∃ x, acc = [x] := List.length_eq_one_iff.1 hl1
    obtain ⟨g, c1, v4, hg, q0, q1, q2, q3, q4, HR4⟩ := R_first HR2.out
    obtain ⟨A4, c4, rfl⟩ := Kd.R_slice HR4
    injection hg with hgA _ hgc
    subst hgA
    have HO1 := Aside0.mk (HO.out.trans (congrArg (fun y => (y, _)) (if_pos hl1)))
    clear hl1 HO hgc
    have hglt : g < wr.heap.size := lt_of_cell q0
    have HR5 := Aside0.mk HR4
    clear HR4
    go_wp2
    refine bodyPost_ret (results_cell_row rfl _ _ w.heap.size 24 #[.int .i64 x.f0, .string x.f1, .int .i64 x.f2, .int .i64 x.f3, .slice A4 x.f4.length c4] (0, 0) _ rfl (put5 HRES2.out _ _ _ _ _) Tryz.underlying24 rfl (by kernel_rfl)) rfl ?_
    rw [HO1.out]
    refine ⟨.slice A4 x.f4.length c4, rfl, Kd.R_mono (Kd.R_step HR5.out (fun k hk _ => put5_other _ _ _ _ _ _ _ hk)) (fun _ _ => trivial), HI2.out.keep (fun k hk => put5_other _ _ _ _ _ _ _ (HBW.out k hk)), ?_⟩
    exact (((((HS2.out.setNew (p := ⟨w.heap.size, 0, none⟩) (Nat.le_refl _) _).setNew (p := ⟨w.heap.size, 1, none⟩) (Nat.le_refl _) _).setNew (p := ⟨w.heap.size, 2, none⟩) (Nat.le_refl _) _).setNew (p := ⟨w.heap.size, 3, none⟩) (Nat.le_refl _) _).setNew (p := ⟨w.heap.size, 4, none⟩) (Nat.le_refl _) _)
   ·have bl : ((acc.length : Int) == 1) = false := by simpa using by omega
    have HO1 := Aside0.mk (HO.out.trans (congrArg (fun y => (y, _)) (if_neg hl1)))
    clear hl1 HO
    go_wp2
    refine bodyPost_ret (results_cell_row rfl _ _ w.heap.size 24 #[.int .i64 op, .string ⟨#[]⟩, .int .i64 0, .int .i64 0, .slice A0 acc.length c0] (0, 0) _ rfl (put5 HRES2.out _ _ _ _ _) Tryz.underlying24 rfl (by kernel_rfl)) rfl ?_
    rw [HO1.out]
    refine ⟨.slice A0 acc.length c0, rfl, Kd.R_mono (Kd.R_step HR2.out (fun k hk _ => put5_other _ _ _ _ _ _ _ hk)) (fun _ _ => trivial), HI2.out.keep (fun k hk => put5_other _ _ _ _ _ _ _ (HBW.out k hk)), ?_⟩
    exact (((((HS2.out.setNew (p := ⟨w.heap.size, 0, none⟩) (Nat.le_refl _) _).setNew (p := ⟨w.heap.size, 1, none⟩) (Nat.le_refl _) _).setNew (p := ⟨w.heap.size, 2, none⟩) (Nat.le_refl _) _).setNew (p := ⟨w.heap.size, 3, none⟩) (Nat.le_refl _) _).setNew (p := ⟨w.heap.size, 4, none⟩) (Nat.le_refl _) _)
  | cons t r =>
   obtain ⟨ad, rfl, hok, k0, k1, k2, k3⟩ := tok_atF hFt 0 (by simp)
   have e0 : ad.add (0 * 4) = ad := by simp [Addr.add]
   rw [e0] at k0 k1 k2 k3
   have hadlt : ad.block < wr.heap.size := lt_of_cell k0
   simp only [List.getElem_cons_zero] at k0 k1 k2 k3
   have hm : (r.length + 1) ≤ 9223372036854775807 := Kd.F_max hFt
   simp only [List.length_cons] at hc0 hc hacc
   clear hb hFt e0
   by_cases h1 : t.f0 = 1
   ·have b1 : (t.f0 == 1) = true := by simpa using h1
    cases h2 : t.f3.toList == word.toList
    ·have HO := Aside0.mk (HSTOP.out (listLoop_stop part word f acc _ (fun t' r' h => by cases h; rw [h2]; simp)))
     clear HSTOP h1
     have hf0 := blk_cell HRES2.out 0
     have hg0 := blk_frozen HRES2.out 0
     have hf1 := blk_cell HRES2.out 1
     have hg1 := blk_frozen HRES2.out 1
     have hf2 := blk_cell HRES2.out 2
     have hg2 := blk_frozen HRES2.out 2
     have hf3 := blk_cell HRES2.out 3
     have hg3 := blk_frozen HRES2.out 3
     have hf4 := blk_cell HRES2.out 4
     have hg4 := blk_frozen HRES2.out 4
     have hbw : ∀ k, k ≤ b → k ≠ w.heap.size := fun k hk => by omega
     have HBW := Aside0.mk hbw
     clear hbw
     by_cases hl1 : acc.length = 1
     ·obtain ⟨x, rfl⟩ : ∃ x, acc = [x] := List.length_eq_one_iff.1 hl1
      obtain ⟨g, c1, v4, hg, q0, q1, q2, q3, q4, HR4⟩ := R_first HR2.out
      obtain ⟨A4, c4, rfl⟩ := Kd.R_slice HR4
      injection hg with hgA _ hgc
      subst hgA
      have HO1 := Aside0.mk (HO.out.trans (congrArg (fun y => (y, _)) (if_pos hl1)))
      clear hl1 HO hgc
      have hglt : g < wr.heap.size := lt_of_cell q0
      have HR5 := Aside0.mk HR4
      clear HR4
      go_wp2
      refine bodyPost_ret (results_cell_row rfl _ _ w.heap.size 24 #[.int .i64 x.f0, .string x.f1, .int .i64 x.f2, .int .i64 x.f3, .slice A4 x.f4.length c4] (0, 0) _ rfl (put5 HRES2.out _ _ _ _ _) Tryz.underlying24 rfl (by kernel_rfl)) rfl ?_
      rw [HO1.out]
      refine ⟨.slice A4 x.f4.length c4, rfl, Kd.R_mono (Kd.R_step HR5.out (fun k hk _ => put5_other _ _ _ _ _ _ _ hk)) (fun _ _ => trivial), HI2.out.keep (fun k hk => put5_other _ _ _ _ _ _ _ (HBW.out k hk)), ?_⟩
      exact (((((HS2.out.setNew (p := ⟨w.heap.size, 0, none⟩) (Nat.le_refl _) _).setNew (p := ⟨w.heap.size, 1, none⟩) (Nat.le_refl _) _).setNew (p := ⟨w.heap.size, 2, none⟩) (Nat.le_refl _) _).setNew (p := ⟨w.heap.size, 3, none⟩) (Nat.le_refl _) _).setNew (p := ⟨w.heap.size, 4, none⟩) (Nat.le_refl _) _)
     ·have bl : ((acc.length : Int) == 1) = false := by simpa using by omega
      have HO1 := Aside0.mk (HO.out.trans (congrArg (fun y => (y, _)) (if_neg hl1)))
      clear hl1 HO
      go_wp2
      refine bodyPost_ret (results_cell_row rfl _ _ w.heap.size 24 #[.int .i64 op, .string ⟨#[]⟩, .int .i64 0, .int .i64 0, .slice A0 acc.length c0] (0, 0) _ rfl (put5 HRES2.out _ _ _ _ _) Tryz.underlying24 rfl (by kernel_rfl)) rfl ?_
      rw [HO1.out]
      refine ⟨.slice A0 acc.length c0, rfl, Kd.R_mono (Kd.R_step HR2.out (fun k hk _ => put5_other _ _ _ _ _ _ _ hk)) (fun _ _ => trivial), HI2.out.keep (fun k hk => put5_other _ _ _ _ _ _ _ (HBW.out k hk)), ?_⟩
      exact (((((HS2.out.setNew (p := ⟨w.heap.size, 0, none⟩) (Nat.le_refl _) _).setNew (p := ⟨w.heap.size, 1, none⟩) (Nat.le_refl _) _).setNew (p := ⟨w.heap.size, 2, none⟩) (Nat.le_refl _) _).setNew (p := ⟨w.heap.size, 3, none⟩) (Nat.le_refl _) _).setNew (p := ⟨w.heap.size, 4, none⟩) (Nat.le_refl _) _)
    ·obtain ⟨f, rfl⟩ : ∃ g, f = g + 1 := ⟨f - 1, by have := HF.out; simp only [List.length_cons] at this; omega⟩
     have HQ2 := Aside0.mk (show listLoop part word p0.2.toks.length [p0.1] p0.2 = listLoop part word f (acc ++ [(part ⟨r, err, at_⟩).1]) (part ⟨r, err, at_⟩).2 by
      rw [HQ.out, listLoop_go part word f acc t r err at_ h1 h2])
     have HF2 := Aside0.mk (show (part ⟨r, err, at_⟩).2.toks.length ≤ f by
      have := HF.out; have := HSH.out ⟨r, err, at_⟩; simp only [List.length_cons] at *; omega)
     have hsh := HSH.out ⟨r, err, at_⟩
     simp only at hsh
     clear HSTOP HQ HF h1
     go_wp2_with fail
     refine (take_some b n t r err at_ wr HI2.out).mono ?_
     rintro e w2 ⟨rfl, hI, hS⟩
     have HI3 := Aside0.mk hI
     have HS3 := Aside0.mk hS
     have hz2 : wr.heap.size ≤ w2.heap.size := hS.size
     clear hI hS
     go_wp2_with fail
     refine (HP.out ⟨r, err, at_⟩ w2 (by show r.length ≤ L; omega) HI3.out).mono ?_
     rintro e w3 ⟨v2, rfl, hR, hI, hS⟩
     obtain ⟨A2, c2, rfl⟩ := Kd.R_slice hR
     have hz3 : w2.heap.size ≤ w3.heap.size := hS.size
     have HS4 := Aside0.mk ((HS2.out.trans HS3.out).trans hS)
     have HSr := Aside0.mk (HS3.out.trans hS)
     have HI4 := Aside0.mk hI
     have HR4 := Aside0.mk (R_new_ok (base' := w.heap.size) (ok := fun q => w2.heap.size ≤ q) hR (by omega) (fun k hk => hk))
     have HR3 := Aside0.mk (R_same HR2.out HSr.out (fun k hk => by unfold OnlyP; omega))
     have HOW := Aside0.mk (show ∀ k, (Value.slice A0 acc.length c0).ownBlock = some k → k < wr.heap.size from fun k hk => by
      obtain ⟨inner, ho⟩ := Kd.R_own HR2.out
      exact own_lt ho k hk)
     have HRES3 := Aside0.mk ((HSr.out.block _ hltr (by unfold OnlyP; omega)).trans HRES2.out)
     obtain ⟨p, hp⟩ : ∃ p, part ⟨r, err, at_⟩ = p := ⟨_, rfl⟩
     rw [hp] at HI4 HR4 HQ2 HF2 hsh ⊢
     clear hp hR hI hS k0 k1 k2 k3
     have hacl : acc.length ≤ 100001 := by omega
     go_wp2_with (at_builtin; go_loud (refine Kd.R_append kFm (w0 := w3) w.heap.size rfl _ _ 22 24 _ 64 rfl Tryz.underlying22 info_fm rfl (by decide) (by decide) (.slice A0 acc.length c0) acc p.1 [.int .i64 p.1.f0, .string p.1.f1, .int .i64 p.1.f2, .int .i64 p.1.f3, .slice A2 p.1.f4.length c2] (fun q => q ≠ w.heap.size) (fun q => w2.heap.size ≤ q) rfl (by simp [Act.eval]) (kFm_mkM_ _ _ _ p.1 HR4.out) (fun k hk => ⟨by omega, fun he => by have := HOW.out k he.symm; omega⟩) (fun q hq => by omega) HR3.out (Below.refl _ _) (by omega) (by omega) ?_); intro v4 w4 hR hBB hG hat)
     have HR5 := Aside0.mk hR
     have HB5 := Aside0.mk hBB
     have HRES5 := Aside0.mk ((hG.block _ (by omega) (fun e => HR3.out.1 _ e.symm rfl)).trans HRES3.out)
     clear hR hBB hG hat
     go_wp2
     go_roundw
     case rel =>
      exact ⟨f, acc ++ [p.1], p.2, HR5, ⟨HI4.out.keep (fun k hk => HB5.out.block k (by omega))⟩, ⟨same_base HS4.out HB5.out⟩, HRES5, HQ2, HF2, by simp; omega⟩
     case measure =>
      obtain ⟨A5, c5, rfl⟩ := Kd.R_slice HR5.out
      simp [sliceLen]; omega
   ·have b1 : (t.f0 == 1) = false := by simpa using h1
    have HO := Aside0.mk (HSTOP.out (listLoop_stop part word f acc _ (fun t' r' h => by cases h; exact fun hh => h1 hh.1)))
    clear HSTOP h1
    have hf0 := blk_cell HRES2.out 0
    have hg0 := blk_frozen HRES2.out 0
    have hf1 := blk_cell HRES2.out 1
    have hg1 := blk_frozen HRES2.out 1
    have hf2 := blk_cell HRES2.out 2
    have hg2 := blk_frozen HRES2.out 2
    have hf3 := blk_cell HRES2.out 3
    have hg3 := blk_frozen HRES2.out 3
    have hf4 := blk_cell HRES2.out 4
    have hg4 := blk_frozen HRES2.out 4
    have hbw : ∀ k, k ≤ b → k ≠ w.heap.size := fun k hk => by omega
    have HBW := Aside0.mk hbw
    clear hbw
    by_cases hl1 : acc.length = 1
    ·obtain ⟨x, rfl⟩ : ∃ x, acc = [x] := List.length_eq_one_iff.1 hl1
     obtain ⟨g, c1, v4, hg, q0, q1, q2, q3, q4, HR4⟩ := R_first HR2.out
     obtain ⟨A4, c4, rfl⟩ := Kd.R_slice HR4
     injection hg with hgA _ hgc
     subst hgA
     have HO1 := Aside0.mk (HO.out.trans (congrArg (fun y => (y, _)) (if_pos hl1)))
     clear hl1 HO hgc
     have hglt : g < wr.heap.size := lt_of_cell q0
     have HR5 := Aside0.mk HR4
     clear HR4
     go_wp2
     refine bodyPost_ret (results_cell_row rfl _ _ w.heap.size 24 #[.int .i64 x.f0, .string x.f1, .int .i64 x.f2, .int .i64 x.f3, .slice A4 x.f4.length c4] (0, 0) _ rfl (put5 HRES2.out _ _ _ _ _) Tryz.underlying24 rfl (by kernel_rfl)) rfl ?_
     rw [HO1.out]
     refine ⟨.slice A4 x.f4.length c4, rfl, Kd.R_mono (Kd.R_step HR5.out (fun k hk _ => put5_other _ _ _ _ _ _ _ hk)) (fun _ _ => trivial), HI2.out.keep (fun k hk => put5_other _ _ _ _ _ _ _ (HBW.out k hk)), ?_⟩
     exact (((((HS2.out.setNew (p := ⟨w.heap.size, 0, none⟩) (Nat.le_refl _) _).setNew (p := ⟨w.heap.size, 1, none⟩) (Nat.le_refl _) _).setNew (p := ⟨w.heap.size, 2, none⟩) (Nat.le_refl _) _).setNew (p := ⟨w.heap.size, 3, none⟩) (Nat.le_refl _) _).setNew (p := ⟨w.heap.size, 4, none⟩) (Nat.le_refl _) _)
    ·have bl : ((acc.length : Int) == 1) = false := by simpa using by omega
     have HO1 := Aside0.mk (HO.out.trans (congrArg (fun y => (y, _)) (if_neg hl1)))
     clear hl1 HO
     go_wp2
     refine bodyPost_ret (results_cell_row rfl _ _ w.heap.size 24 #[.int .i64 op, .string ⟨#[]⟩, .int .i64 0, .int .i64 0, .slice A0 acc.length c0] (0, 0) _ rfl (put5 HRES2.out _ _ _ _ _) Tryz.underlying24 rfl (by kernel_rfl)) rfl ?_
     rw [HO1.out]
     refine ⟨.slice A0 acc.length c0, rfl, Kd.R_mono (Kd.R_step HR2.out (fun k hk _ => put5_other _ _ _ _ _ _ _ hk)) (fun _ _ => trivial), HI2.out.keep (fun k hk => put5_other _ _ _ _ _ _ _ (HBW.out k hk)), ?_⟩
     exact (((((HS2.out.setNew (p := ⟨w.heap.size, 0, none⟩) (Nat.le_refl _) _).setNew (p := ⟨w.heap.size, 1, none⟩) (Nat.le_refl _) _).setNew (p := ⟨w.heap.size, 2, none⟩) (Nat.le_refl _) _).setNew (p := ⟨w.heap.size, 3, none⟩) (Nat.le_refl _) _).setNew (p := ⟨w.heap.size, 4, none⟩) (Nat.le_refl _) _)
end Go.Proofs.YtkgmempifggajaaGreatDoor.P
/- What a valid domain and a case that fits are; tests of facts. -/
namespace Go.Proofs.YtkgmempifggajaaGreatDoor.P
set_option linter.unusedVariables false
set_option linter.unusedSimpArgs false
theorem toList_data (s : ByteArray) : s.toList = s.data.toList := by rw [ByteArray.toList_eq]
end Go.Proofs.YtkgmempifggajaaGreatDoor.P
/- The facts that a formula names; what a formula says depends on them alone. -/
namespace Go.Proofs.YtkgmempifggajaaGreatDoor.P
set_option linter.unusedVariables false
set_option linter.unusedSimpArgs false
theorem toList_inj {a b : ByteArray} (h : a.toList = b.toList) : a = b := by
 rw [toList_data, toList_data] at h
 cases a with
 | mk a =>
  cases b with
  | mk b =>
   congr
   exact Array.toList_inj.1 h
end Go.Proofs.YtkgmempifggajaaGreatDoor.P
