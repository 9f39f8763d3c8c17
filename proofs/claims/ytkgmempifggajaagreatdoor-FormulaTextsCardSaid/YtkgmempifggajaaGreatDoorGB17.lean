/- What the statement's proof builds on: RoundA. -/
import Derived.Test.YtkgmempifggajaaGreatDoorGB10
import Derived.Test.YtkgmempifggajaaGreatDoorGB8
-- the text YtkgmempifggajaaGreatDoorRoundA
/- The tokens of a formula's canonical text. -/
namespace Go.Proofs.YtkgmempifggajaaGreatDoor.P
set_option linter.unusedVariables false
set_option linter.unusedSimpArgs false

/-- What a token says, its offset aside. -/
def say (t : Tok) : Int × List UInt8 × Int := (t.f0, t.f3.data.toList, t.f2)
abbrev Pat := List (Int × List UInt8 × Int)
def pNot : List UInt8 := [110, 111, 116]
def pAnd : List UInt8 := [97, 110, 100]
def pOr : List UInt8 := [111, 114]
def tailP (w : Int × List UInt8 × Int) (ps : List Pat) : Pat := (ps.map (w :: ·)).flatten
def joinP (w : Int × List UInt8 × Int) : List Pat → Pat
  | [] => []
  | p :: ps => p ++ tailP w ps
def wrapP (op : Int) (k : Fm) (p : Pat) : Pat := if k.f0 = 6 ∨ (k.f0 = 5 ∧ op ≠ 6) then (4, [40], 0) :: (p ++ [(4, [41], 0)]) else p
mutual
/-- What the tokens of a formula's text say. -/
def pats : Fm → Pat
  | ⟨op, name, cmp, n, kids⟩ =>
    if op = 1 then [(1, tTrue, 0)] else if op = 2 then [(1, tFalse, 0)] else if op = 3 then [(1, name.data.toList, 0), (4, sym cmp, 0), (2, Lib.itoa n, n)]
    else if op = 4 then (1, pNot, 0) :: (patsL op kids).headD [] else if op = 5 then joinP (1, pAnd, 0) (patsL op kids) else joinP (1, pOr, 0) (patsL op kids)
def patsL (op : Int) : List Fm → List Pat
  | [] => []
  | k :: ks => wrapP op k (pats k) :: patsL op ks
end
theorem pats_eq (x : Fm) : pats x = if x.f0 = 1 then [(1, tTrue, 0)] else if x.f0 = 2 then [(1, tFalse, 0)] else if x.f0 = 3 then [(1, x.f1.data.toList, 0), (4, sym x.f2, 0), (2, Lib.itoa x.f3, x.f3)]
    else if x.f0 = 4 then (1, pNot, 0) :: (patsL x.f0 x.f4).headD [] else if x.f0 = 5 then joinP (1, pAnd, 0) (patsL x.f0 x.f4) else joinP (1, pOr, 0) (patsL x.f0 x.f4) := by cases x; simp [pats]

/-- What may follow behind a text. -/
def Delim (r : List UInt8) : Prop := r = [] ∨ ∃ q, r = 32 :: q ∨ r = 41 :: q
/-- A text's tokens, whatever may follow. -/
def Lx (l : List UInt8) (p : Pat) : Prop := ∀ (rest : List UInt8), Delim rest → ∀ f a c, (l ++ rest).length < f → c + p.length < 5000 →
  ∃ ts : List Tok, ts.map say = p ∧ lexs f (l ++ rest) a c = thenLex (.ok ts) (fun n => lexs (rest.length + 1) rest (a + l.length) (c + n))
theorem lx_token {l : List UInt8} {kind : Nat} {n : Nat} (hs : ∀ rest, Delim rest → skip false (l ++ rest) = l ++ rest ∧ l ++ rest ≠ [] ∧ token (l ++ rest) = .ok ⟨kind, l, n, l.length⟩) : Lx l [((kind : Int), l, (n : Int))] := by
  intro rest hd f a c hf hc
  obtain ⟨h1, h2, h3⟩ := hs rest hd
  obtain ⟨f, rfl⟩ : ∃ q, f = q + 1 := ⟨f - 1, by omega⟩
  simp at hc
  have hw := token_width h3
  simp only at hw
  have hb : ¬ ((l ++ rest).isEmpty = true) := by
    cases hq : l ++ rest with
    | nil => exact absurd hq h2
    | cons _ _ => simp
  refine ⟨[⟨(kind : Int), (a : Int), (n : Int), ⟨l.toArray⟩⟩], by simp [say], ?_⟩
  rw [lexs_succ, h1, if_neg hb, h3]
  simp only
  rw [if_neg (by simp; omega)]
  have hdrop : List.drop l.length (l ++ rest) = rest := by simp
  simp only [Nat.sub_self, Nat.add_zero, hdrop, thenLex, List.length_cons, List.length_nil]
  rw [lexs_fuel f (rest.length + 1) rest _ _ (by simp at hf; omega) (by omega)]
  cases lexs (rest.length + 1) rest (a + l.length) (c + 1) <;> rfl
theorem lexs_blank (f : Nat) (l : List UInt8) (a c : Nat) : lexs (f + 1) (32 :: l) a c = lexs (f + 1) l (a + 1) c := by
  have hs : (skip false l).length ≤ l.length := by rw [skip_drop]; simp
  have e : skip false (32 :: l) = skip false l := by simp [skip, isBlank]
  have e3 : a + ((32 :: l).length - (skip false l).length) = a + 1 + (l.length - (skip false l).length) := by simp only [List.length_cons]; omega
  rw [lexs_succ, lexs_succ, e, e3]
theorem thenLex_ok (ts : List Tok) (y : Nat → Except (Nat × Nat) (List Tok)) (ts2 : List Tok) (y2 : Nat → Except (Nat × Nat) (List Tok)) (h : y ts.length = thenLex (.ok ts2) y2) :
    thenLex (.ok ts) y = thenLex (.ok (ts ++ ts2)) (fun n => y2 (n - ts.length)) := by
  simp only [thenLex]
  rw [h]
  simp only [thenLex, List.length_append, Nat.add_sub_cancel_left]
  cases y2 ts2.length <;> simp [List.append_assoc]
theorem lx_blank {l1 l2 : List UInt8} {p1 p2 : Pat} (h1 : Lx l1 p1) (h2 : Lx l2 p2) : Lx (l1 ++ 32 :: l2) (p1 ++ p2) := by
  intro rest hd f a c hf hc
  simp only [List.length_append] at hc
  obtain ⟨ts1, e1, g1⟩ := h1 (32 :: (l2 ++ rest)) (.inr ⟨_, .inl rfl⟩) f a c (by simp at hf ⊢; omega) (by omega)
  have hl1 : ts1.length = p1.length := by rw [← e1]; simp
  obtain ⟨ts2, e2, g2⟩ := h2 rest hd ((32 :: (l2 ++ rest)).length + 1) (a + l1.length + 1) (c + ts1.length) (by simp; omega) (by omega)
  refine ⟨ts1 ++ ts2, by rw [List.map_append, e1, e2], ?_⟩
  have e : l1 ++ 32 :: l2 ++ rest = l1 ++ 32 :: (l2 ++ rest) := by simp
  rw [e, g1, thenLex_ok ts1 _ ts2 (fun n => lexs (rest.length + 1) rest (a + l1.length + 1 + l2.length) (c + ts1.length + n)) (by rw [lexs_blank]; exact g2)]
  simp only [thenLex, List.length_append]
  have e4 : c + ts1.length + (ts1.length + ts2.length - ts1.length) = c + (ts1.length + ts2.length) := by omega
  have e5 : a + l1.length + 1 + l2.length = a + (l1.length + (32 :: l2).length) := by simp; omega
  rw [e4, e5]
theorem lx_paren {l : List UInt8} {p : Pat} (h : Lx l p) : Lx (40 :: l ++ [41]) ((4, [40], 0) :: (p ++ [(4, [41], 0)])) := by
  intro rest hd f a c hf hc
  simp only [List.length_append, List.length_cons, List.length_nil] at hc
  obtain ⟨f, rfl⟩ : ∃ q, f = q + 1 := ⟨f - 1, by omega⟩
  obtain ⟨ts, e1, g1⟩ := h (41 :: rest) (.inr ⟨_, .inr rfl⟩) f (a + 1) (c + 1) (by simp at hf ⊢; omega) (by omega)
  have hl1 : ts.length = p.length := by rw [← e1]; simp
  have e : 40 :: l ++ [41] ++ rest = 40 :: (l ++ 41 :: rest) := by simp
  refine ⟨⟨4, (a : Int), 0, ⟨#[40]⟩⟩ :: (ts ++ [⟨4, ((a + 1 + l.length : Nat) : Int), 0, ⟨#[41]⟩⟩]), by simp [say, e1], ?_⟩
  rw [e, lexs_sym 40 (.inl rfl) _ f a c (by omega), g1]
  simp only [thenLex, List.length_cons, List.length_append, List.length_nil]
  rw [lexs_sym 41 (.inr rfl) rest _ _ _ (by omega)]
  have e4 : c + 1 + ts.length + 1 = c + (ts.length + (0 + 1) + 1) := by omega
  have e5 : a + 1 + l.length + 1 = a + (l.length + 1 + (0 + 1)) := by omega
  rw [e4, e5]
  cases lexs (rest.length + 1) rest (a + (l.length + 1 + (0 + 1))) (c + (ts.length + (0 + 1) + 1)) <;> simp
theorem delim_word {rest : List UInt8} (hd : Delim rest) (p : UInt8 → Bool) (h1 : p 32 = false) (h2 : p 41 = false) (l : List UInt8) (hl : l.all p = true) : (l ++ rest).takeWhile p = l ∧ (l ++ rest).dropWhile p = rest := by
  induction l with
  | nil =>
    rcases hd with rfl | ⟨q, rfl | rfl⟩
    · exact ⟨rfl, rfl⟩
    · exact ⟨by simp [List.takeWhile_cons, h1], by simp [List.dropWhile_cons, h1]⟩
    · exact ⟨by simp [List.takeWhile_cons, h2], by simp [List.dropWhile_cons, h2]⟩
  | cons a l ih =>
    simp only [List.all_cons, Bool.and_eq_true] at hl
    obtain ⟨i1, i2⟩ := ih hl.2
    exact ⟨by simp only [List.cons_append, List.takeWhile_cons, hl.1, if_true, i1], by simp only [List.cons_append, List.dropWhile_cons, hl.1, if_true, i2]⟩
theorem lx_name {l : List UInt8} (h : isName l = true) : Lx l [(1, l, 0)] := by
  cases l with
  | nil => simp [isName] at h
  | cons c r =>
    simp only [isName, Bool.and_eq_true, decide_eq_true_eq] at h
    obtain ⟨⟨h1, h2⟩, h3⟩ := h
    refine lx_token (kind := 1) (n := 0) (fun rest hd => ⟨?_, by simp, ?_⟩)
    · exact skip_letter h1 _
    · obtain ⟨t1, _⟩ := delim_word hd isWord (by decide) (by decide) r h2
      simp only [List.cons_append, token]
      rw [if_pos h1, t1, if_neg (by simp; omega)]
theorem u8_digit (u : Nat) (h : u < 10) : isDigit (UInt8.ofNat (48 + u)) = true ∧ (UInt8.ofNat (48 + u)).toNat = 48 + u := by
  have := (by decide +kernel : ∀ i : Fin 10, isDigit (UInt8.ofNat (48 + i.val)) = true ∧ (UInt8.ofNat (48 + i.val)).toNat = 48 + i.val)
  exact this ⟨u, h⟩
theorem dec_digits (u : Nat) : (Lib.decDigits u).all isDigit = true ∧ numOf (Lib.decDigits u) = u ∧ Lib.decDigits u ≠ [] := by
  induction u using Nat.strongRecOn with
  | _ u ih =>
    by_cases h : u < 10
    · rw [Lib.decDigits_one h]
      obtain ⟨d1, d2⟩ := u8_digit u h
      refine ⟨by rw [List.all_cons, d1]; rfl, ?_, List.cons_ne_nil _ _⟩
      show 10 * 0 + ((UInt8.ofNat (48 + u)).toNat - 48) = u
      rw [d2]; omega
    · rw [Lib.decDigits, dif_neg h]
      obtain ⟨i1, i2, i3⟩ := ih (u / 10) (by omega)
      obtain ⟨d1, d2⟩ := u8_digit (u % 10) (by omega)
      refine ⟨by simp only [List.all_append, i1, List.all_cons, d1, List.all_nil, Bool.and_self], ?_, by simp⟩
      unfold numOf at i2 ⊢
      rw [List.foldl_append, i2]
      show 10 * (u / 10) + ((UInt8.ofNat (48 + u % 10)).toNat - 48) = u
      rw [d2]; omega
theorem lx_num (u : Nat) (hu : u ≤ 1000000) : Lx (Lib.itoa (u : Int)) [(2, Lib.itoa (u : Int), (u : Int))] := by
  have e : Lib.itoa (u : Int) = Lib.decDigits u := by unfold Lib.itoa; rw [if_neg (by omega)]; simp
  rw [e]
  obtain ⟨i1, i2, i3⟩ := dec_digits u
  have hlen : (Lib.decDigits u).length ≤ 7 := by
    rw [Lib.decDigits_length]
    rcases Nat.lt_or_ge 7 (Lib.nDigits u) with h | h
    · exfalso
      have p : ∀ (k u : Nat), k + 1 < Lib.nDigits u → 10 ^ (k + 1) ≤ u := by
        intro k
        induction k with
        | zero =>
          intro u h
          by_cases h10 : u < 10
          · rw [Lib.nDigits_small h10] at h; omega
          · omega
        | succ k ih =>
          intro u h
          by_cases h10 : u < 10
          · rw [Lib.nDigits_small h10] at h; omega
          · rw [Lib.nDigits_big h10] at h
            have := ih (u / 10) (by omega)
            rw [Nat.pow_succ]
            omega
      have := p 6 u h
      omega
    · exact h
  generalize hq : Lib.decDigits u = l at i1 i2 i3 hlen
  refine lx_token (kind := 2) (n := u) (fun rest hd => ?_)
  cases l with
  | nil => exact absurd rfl i3
  | cons c r =>
    simp only [List.all_cons, Bool.and_eq_true] at i1
    have hc := u8_all (fun c => !isDigit c || (!isLetter c && !isBlank c && !(c == 35))) (by decide +kernel) c
    simp only [i1.1, Bool.not_true, Bool.false_or, Bool.and_eq_true, Bool.not_eq_true'] at hc
    obtain ⟨t1, t2⟩ := delim_word hd isDigit (by decide) (by decide) r i1.2
    refine ⟨?_, by simp, ?_⟩
    · simp only [List.cons_append, skip]
      rw [if_neg (by rw [hc.1.2]; decide), if_neg (by rw [hc.2]; decide)]
    · simp only [List.cons_append, token]
      rw [if_neg (by rw [hc.1.1]; decide), if_pos i1.1, t1, t2, if_neg (by simp only [List.length_cons] at hlen ⊢; omega), i2]
      rcases hd with rfl | ⟨q, rfl | rfl⟩
      · rfl
      · simp only; rw [if_neg (by decide)]
      · simp only; rw [if_neg (by decide)]
theorem lx_sym (n : Int) (h0 : 1 ≤ n) (h1 : n ≤ 6) : Lx (sym n) [(4, sym n, 0)] := by
  rcases (show n = 1 ∨ n = 2 ∨ n = 3 ∨ n = 4 ∨ n = 5 ∨ n = 6 by omega) with rfl | rfl | rfl | rfl | rfl | rfl
  all_goals
    refine lx_token (kind := 4) (n := 0) (fun rest hd => ⟨?_, by simp [sym, symL], ?_⟩)
    · simp [sym, symL, skip, isBlank]
    · rcases hd with rfl | ⟨q, rfl | rfl⟩ <;> simp [sym, symL, token, isLetter, isDigit, isSym]
theorem lx_join {ls : List (List UInt8)} {ps : List Pat} (w : List UInt8) (hw : isName w = true) (hlen : ls.length = ps.length) (h : ∀ i (h1 : i < ls.length) (h2 : i < ps.length), Lx ls[i] ps[i]) (hne : ls ≠ []) :
    Lx (Lib.join ls (32 :: w ++ [32])) (joinP (1, w, 0) ps) := by
  induction ls generalizing ps with
  | nil => exact absurd rfl hne
  | cons l r ih =>
    cases ps with
    | nil => simp at hlen
    | cons p q =>
      have h0 := h 0 (by simp) (by simp)
      simp only [List.getElem_cons_zero] at h0
      cases r with
      | nil =>
        cases q with
        | nil => rw [Lib.join_one]; simpa [joinP, tailP] using h0
        | cons _ _ => simp at hlen
      | cons l2 r =>
        cases q with
        | nil => simp at hlen
        | cons p2 q =>
          have i1 := ih (ps := p2 :: q) (by simpa using hlen) (fun i h1 h2 => by
            have := h (i + 1) (by simp at h1 ⊢; omega) (by simp at h2 ⊢; omega)
            simpa using this) (by simp)
          have e1 : Lib.join (l :: l2 :: r) (32 :: w ++ [32]) = l ++ 32 :: (w ++ 32 :: Lib.join (l2 :: r) (32 :: w ++ [32])) := by
            rw [Lib.join_cons, Lib.join_cons]
            simp [Lib.joinTail]
          have e2 : joinP (1, w, 0) (p :: p2 :: q) = p ++ ([(1, w, 0)] ++ joinP (1, w, 0) (p2 :: q)) := by simp [joinP, tailP]
          rw [e1, e2]
          exact lx_blank h0 (lx_blank (lx_name hw) i1)
theorem patsL_len (op : Int) (l : List Fm) : (patsL op l).length = l.length := by
  induction l with
  | nil => rfl
  | cons a l ih => simp [patsL, ih]
theorem patsL_at (op : Int) (l : List Fm) (k : Nat) (h : k < l.length) (h2 : k < (patsL op l).length) : (patsL op l)[k] = wrapP op l[k] (pats l[k]) := by
  induction l generalizing k with
  | nil => simp at h
  | cons a l ih =>
    cases k with
    | zero => rfl
    | succ k => simp only [patsL, List.getElem_cons_succ]; exact ih k (by simpa using h) (by simpa [patsL] using h2)
theorem textsL_at (op : Int) (l : List Fm) (k : Nat) (h : k < l.length) (h2 : k < (textsL op l).length) : (textsL op l)[k] = wrap op l[k] (textL l[k]) := by
  have := textsL_get op l k h
  rw [List.getElem?_eq_getElem h2] at this
  exact Option.some.inj this
theorem lx_wrap {op : Int} {k : Fm} (h : Lx (textL k) (pats k)) : Lx (wrap op k (textL k)) (wrapP op k (pats k)) := by
  unfold wrap wrapP
  by_cases hc : k.f0 = 6 ∨ (k.f0 = 5 ∧ op ≠ 6)
  · rw [if_pos hc, if_pos hc]; exact lx_paren h
  · rw [if_neg hc, if_neg hc]; exact h
/-- The tokens of a canonical text. -/
theorem lx_text (N : Nat) : ∀ x : Fm, size x ≤ N → firstE badNode x = 0 → Lx (textL x) (pats x) := by
  induction N with
  | zero => intro x h; have := size_pos x; omega
  | succ N ih =>
    intro x hN hb
    have hs := size_eq x
    obtain ⟨b1, b2⟩ := bad_of x hb
    obtain ⟨b3, b4⟩ := bad_node_of x b1
    have kid : ∀ i (hi : i < x.f4.length), Lx (textL x.f4[i]) (pats x.f4[i]) := fun i hi => by
      have := size_mem x.f4 i hi
      exact ih _ (by omega) (firstEs_mem badNode x.f4 b2 i hi)
    have kids : ∀ i (h1 : i < (textsL x.f0 x.f4).length) (h2 : i < (patsL x.f0 x.f4).length), Lx (textsL x.f0 x.f4)[i] (patsL x.f0 x.f4)[i] := fun i h1 h2 => by
      have hi : i < x.f4.length := by rw [textsL_len] at h1; exact h1
      rw [textsL_at x.f0 x.f4 i hi h1, patsL_at x.f0 x.f4 i hi h2]
      exact lx_wrap (kid i hi)
    rw [textL_eq, pats_eq]
    by_cases h3 : x.f0 = 3
    · obtain ⟨t1, t2, t3, t4, t5⟩ := formed_test_of x b3 h3
      obtain ⟨n1, n2, n3⟩ := b4 h3
      rw [h3]
      simp only [show ¬ ((3 : Int) = 1) by decide, show ¬ ((3 : Int) = 2) by decide, if_true, if_false]
      have hn : x.f3 = ((x.f3.toNat : Nat) : Int) := by omega
      have l1 := lx_name t4
      have l2 := lx_sym x.f2 t2 t3
      have l3 := lx_num x.f3.toNat (by omega)
      rw [← hn] at l3
      have := lx_blank l1 (lx_blank l2 l3)
      simpa using this
    · rcases formed_op x b3 h3 with h | h | ⟨h, h4⟩ | ⟨h, h4⟩ | ⟨h, h4⟩
      · rw [h]
        simp only [if_true]
        exact lx_name (by decide)
      · rw [h]
        simp only [show ¬ ((2 : Int) = 1) by decide, if_true, if_false]
        exact lx_name (by decide)
      · obtain ⟨k, hk⟩ := List.length_eq_one_iff.1 h4
        have k0 := kids 0 (by rw [textsL_len]; omega) (by rw [patsL_len]; omega)
        rw [h] at k0 ⊢
        simp only [show ¬ ((4 : Int) = 1) by decide, show ¬ ((4 : Int) = 2) by decide, show ¬ ((4 : Int) = 3) by decide, if_true, if_false]
        have e1 : (textsL 4 x.f4).headD [] = (textsL 4 x.f4)[0]'(by rw [textsL_len]; omega) := by rw [List.headD_eq_head?_getD, List.head?_eq_getElem?, List.getElem?_eq_getElem]; rfl
        have e2 : (patsL 4 x.f4).headD [] = (patsL 4 x.f4)[0]'(by rw [patsL_len]; omega) := by rw [List.headD_eq_head?_getD, List.head?_eq_getElem?, List.getElem?_eq_getElem]; rfl
        rw [e1, e2]
        have := lx_blank (lx_name (l := pNot) (by decide)) k0
        simpa [pNot, tNot] using this
      · have := lx_join pAnd (by decide) (by rw [textsL_len, patsL_len]) kids (by intro h0; have := textsL_len x.f0 x.f4; rw [h0] at this; simp at this; omega)
        rw [h] at this ⊢
        simp only [show ¬ ((5 : Int) = 1) by decide, show ¬ ((5 : Int) = 2) by decide, show ¬ ((5 : Int) = 3) by decide, show ¬ ((5 : Int) = 4) by decide, if_true, if_false]
        exact this
      · have := lx_join pOr (by decide) (by rw [textsL_len, patsL_len]) kids (by intro h0; have := textsL_len x.f0 x.f4; rw [h0] at this; simp at this; omega)
        rw [h] at this ⊢
        simp only [show ¬ ((6 : Int) = 1) by decide, show ¬ ((6 : Int) = 2) by decide, show ¬ ((6 : Int) = 3) by decide, show ¬ ((6 : Int) = 4) by decide, show ¬ ((6 : Int) = 5) by decide, if_true, if_false]
        exact this
end Go.Proofs.YtkgmempifggajaaGreatDoor.P
