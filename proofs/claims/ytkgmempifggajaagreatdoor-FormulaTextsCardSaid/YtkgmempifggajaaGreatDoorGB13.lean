/- What the statement's proof builds on: SimLaw, ParseLaw, GapLaw, HeadB, HeadC, Head. -/
import Derived.Test.YtkgmempifggajaaGreatDoorGB12
import Derived.Test.YtkgmempifggajaaGreatDoorGB8
import Derived.Test.YtkgmempifggajaaGreatDoorGB11
import Derived.Deep.RegionHeld3
-- the text YtkgmempifggajaaGreatDoorSimLaw
/- The parser at a text and at the text in parentheses: it goes the same steps. -/
namespace Go.Proofs.YtkgmempifggajaaGreatDoor.P
set_option linter.unusedVariables false
set_option linter.unusedSimpArgs false

/-- Parsing has ended with an error. -/
def Dead (s : PS) : Prop := s.err ≠ 0 ∧ s.toks = []
theorem failP_dead {s : PS} (h : Dead s) (e a : Int) : failP e a s = s := if_neg h.1
theorem takeP_dead {s : PS} (h : Dead s) (n : Int) : takeP n s = (z75, s) := by
  obtain ⟨toks, err, at_⟩ := s
  obtain ⟨h1, h2⟩ := h
  simp only at h2
  subst h2
  simp only [takeP]
  rw [failP_dead ⟨h1, rfl⟩]
theorem takeP_cons (n : Int) (t : Tok) (r : List Tok) (e a : Int) : takeP n ⟨t :: r, e, a⟩ = (t, ⟨r, e, a⟩) := rfl
theorem takeP_nil (n a : Int) : takeP n ⟨[], 0, a⟩ = (z75, ⟨[], 6, n⟩) := rfl
theorem failP_zero (e a : Int) (ts : List Tok) (b : Int) : failP e a ⟨ts, 0, b⟩ = ⟨[], e, a⟩ := rfl
theorem listLoop_dead (part : PS → Fm × PS) (word : ByteArray) (f : Nat) (acc : List Fm) {s : PS} (h : Dead s) : listLoop part word f acc s = (acc, s) :=
  listLoop_stop part word f acc s (fun t r ht => by rw [h.2] at ht; cases ht)
def Stays (part : PS → Fm × PS) : Prop := ∀ s, Dead s → (part s).2 = s
theorem oneP_stays (n : Int) (f : Nat) : Stays (oneP n f) := by
  intro s hs
  cases f with
  | zero => rfl
  | succ f =>
    simp only [oneP, takeP_dead hs]
    rw [if_neg (by decide), if_neg (by rintro ⟨h, _⟩; exact absurd h (by decide))]
    exact failP_dead hs _ _
/-- An offset. -/
def Pos (z : Int) : Prop := 0 ≤ z ∧ z ≤ 9000000000000000000
/-- Both parsers run: the second one has the same tokens, further on, and a last one. -/
structure Run (P : Nat) (cl : Tok) (s s' : PS) : Prop where
  e : s.err = 0
  e' : s'.err = 0
  t : s'.toks = s.toks.map (shTok P) ++ [cl]
  pos : ∀ t ∈ s.toks, Pos t.f1
def Bad (s : PS) : Prop := Dead s ∧ (s.err = 5 ∨ s.err = 6)
def Fell (P : Nat) (s s' : PS) : Prop := Dead s ∧ Dead s' ∧ s'.err = s.err ∧ s'.at_ = s.at_ + P ∧ Pos s.at_
def Rel (P : Nat) (cl : Tok) (s s' : PS) : Prop := Run P cl s s' ∨ Bad s ∨ Fell P s s'
theorem bad5 (a : Int) : Bad ⟨[], 5, a⟩ := ⟨⟨by show (5 : Int) ≠ 0; decide, rfl⟩, .inl rfl⟩
theorem bad6 (a : Int) : Bad ⟨[], 6, a⟩ := ⟨⟨by show (6 : Int) ≠ 0; decide, rfl⟩, .inr rfl⟩
theorem oneP_cons (n : Int) (f : Nat) (t : Tok) (r : List Tok) (e a : Int) : oneP n (f + 1) ⟨t :: r, e, a⟩ =
    if t.f0 = 1 then
      if t.f3.toList = lNot then (eFm 4 [(oneP n f ⟨r, e, a⟩).1], (oneP n f ⟨r, e, a⟩).2)
      else if t.f3.toList = lTrue then (eFm 1 [], ⟨r, e, a⟩)
      else if t.f3.toList = lFalse then (eFm 2 [], ⟨r, e, a⟩)
      else if t.f3.toList = [] ∨ isKey t.f3 = true then (eFm 0 [], failP 5 t.f1 ⟨r, e, a⟩)
      else testP n t.f3 ⟨r, e, a⟩
    else if t.f0 = 4 ∧ t.f3.toList = [40] then closeP n (eitherP (oneP n f) ⟨r, e, a⟩)
    else (eFm 0 [], failP 5 t.f1 ⟨r, e, a⟩) := rfl
theorem oneP_nil (n : Int) (f : Nat) (a : Int) : oneP n (f + 1) ⟨[], 0, a⟩ = (eFm 0 [], ⟨[], 6, n⟩) :=
  (if_neg (show ¬ ((takeP n ⟨[], 0, a⟩).1.f0 = 1) from by show ¬ ((0 : Int) = 1); decide)).trans
    (if_neg (show ¬ ((takeP n ⟨[], 0, a⟩).1.f0 = 4 ∧ (takeP n ⟨[], 0, a⟩).1.f3.toList = [40]) from by rintro ⟨h, _⟩; exact absurd (show (0 : Int) = 4 from h) (by decide)))
def testA (n : Int) (s : PS) : PS := if (takeP n s).1.f0 ≠ 4 ∨ symIx (takeP n s).1.f3 < 1 then failP 5 (takeP n s).1.f1 (takeP n s).2 else (takeP n s).2
def testB (v : Tok × PS) : PS := (fun s5 => if 1000000 < v.1.f2 then failP 10 v.1.f1 s5 else s5) (if v.1.f0 ≠ 2 then failP 5 v.1.f1 v.2 else v.2)
theorem testP_parts (n : Int) (name : ByteArray) (s : PS) : testP n name s = (⟨3, name, symIx (takeP n s).1.f3, (takeP n (testA n s)).1.f2, []⟩, testB (takeP n (testA n s))) := rfl
theorem testA_cons (n : Int) (t : Tok) (r : List Tok) (a : Int) : testA n ⟨t :: r, 0, a⟩ = if t.f0 ≠ 4 ∨ symIx t.f3 < 1 then ⟨[], 5, t.f1⟩ else ⟨r, 0, a⟩ := rfl
theorem testA_nil (n a : Int) : testA n ⟨[], 0, a⟩ = ⟨[], 6, n⟩ := by
  have e : ∀ c : Prop, ∀ [Decidable c], (if c then failP 5 z75.f1 ⟨[], 6, n⟩ else (⟨[], 6, n⟩ : PS)) = ⟨[], 6, n⟩ := by
    intro c _
    rw [failP_dead (bad6 n).1]; exact ite_self _
  exact e _
theorem testB_dead {v : Tok × PS} (h : Dead v.2) : testB v = v.2 := by
  unfold testB
  have e : (if v.1.f0 ≠ 2 then failP 5 v.1.f1 v.2 else v.2) = v.2 := by rw [failP_dead h]; exact ite_self _
  rw [e]
  show (if 1000000 < v.1.f2 then failP 10 v.1.f1 v.2 else v.2) = v.2
  rw [failP_dead h]; exact ite_self _
theorem testB_cons (u : Tok) (s : PS) : testB (u, s) = (fun s5 => if 1000000 < u.f2 then failP 10 u.f1 s5 else s5) (if u.f0 ≠ 2 then failP 5 u.f1 s else s) := rfl
def Sim (P : Nat) (cl : Tok) (L : Nat) (part part' : PS → Fm × PS) : Prop :=
  ∀ s s', s.toks.length ≤ L → Rel P cl s s' → Rel P cl (part s).2 (part' s').2 ∧ ((part s).2.err = 0 → (part' s').1 = (part s).1)
/-- Where the first parser has ended, nothing changes. -/
theorem sim_dead {P : Nat} {cl : Tok} {part part' : PS → Fm × PS} (hp : Stays part) (hp' : Stays part') {s s' : PS} (h : Bad s ∨ Fell P s s') :
    Rel P cl (part s).2 (part' s').2 ∧ ((part s).2.err = 0 → (part' s').1 = (part s).1) := by
  rcases h with h | h
  · rw [hp s h.1]; exact ⟨.inr (.inl h), fun h0 => absurd h0 h.1.1⟩
  · rw [hp s h.1, hp' s' h.2.1]; exact ⟨.inr (.inr h), fun h0 => absurd h0 h.1.1⟩
theorem loop_sim {P : Nat} {cl : Tok} {L : Nat} {part part' : PS → Fm × PS} (hcl : cl.f0 = 4) (hs : Sim P cl L part part') (hsh : Shrinks part) (hsh' : Shrinks part') (word : ByteArray) :
    ∀ (F F' : Nat) (acc acc' : List Fm) (s s' : PS), s.toks.length ≤ F → s'.toks.length ≤ F' → s.toks.length ≤ L → Rel P cl s s' → (s.err = 0 → acc' = acc) →
      Rel P cl (listLoop part word F acc s).2 (listLoop part' word F' acc' s').2 ∧ ((listLoop part word F acc s).2.err = 0 → (listLoop part' word F' acc' s').1 = (listLoop part word F acc s).1) := by
  intro F
  induction F with
  | zero =>
    intro F' acc acc' s s' h1 h2 h3 hr ha
    have h0 : s.toks = [] := List.length_eq_zero_iff.1 (by omega)
    have e1 : listLoop part word 0 acc s = (acc, s) := rfl
    rw [e1]
    rcases hr with hr | hr | hr
    · have e2 : listLoop part' word F' acc' s' = (acc', s') := listLoop_stop _ _ _ _ _ (fun t r ht => by
        have := hr.t
        rw [h0, ht] at this
        simp only [List.map_nil, List.nil_append, List.cons.injEq] at this
        rw [this.1, hcl]
        rintro ⟨h, _⟩
        exact absurd h (by decide))
      rw [e2]
      exact ⟨.inl hr, fun h => ha h⟩
    · exact ⟨.inr (.inl hr), fun h => absurd h hr.1.1⟩
    · rw [listLoop_dead _ _ _ _ hr.2.1]; exact ⟨.inr (.inr hr), fun h => absurd h hr.1.1⟩
  | succ F ih =>
    intro F' acc acc' s s' h1 h2 h3 hr ha
    rcases hr with hr | hr | hr
    · obtain ⟨toks, err, at_⟩ := s
      obtain ⟨toks', err', at'⟩ := s'
      obtain ⟨he, he', ht, hpos⟩ := hr
      simp only at he he' ht hpos h1 h2 h3 ha
      subst he
      subst he'
      cases toks with
      | nil =>
        simp only [List.map_nil, List.nil_append] at ht
        subst ht
        have e1 : listLoop part word (F + 1) acc ⟨[], 0, at_⟩ = (acc, ⟨[], 0, at_⟩) := listLoop_stop _ _ _ _ _ (fun t r ht => by cases ht)
        have e2 : listLoop part' word F' acc' ⟨[cl], 0, at'⟩ = (acc', ⟨[cl], 0, at'⟩) := listLoop_stop _ _ _ _ _ (fun t r ht => by
          injection ht with ht _
          rw [← ht, hcl]
          rintro ⟨h, _⟩
          exact absurd h (by decide))
        rw [e1, e2]
        exact ⟨.inl ⟨rfl, rfl, rfl, fun t h => by cases h⟩, fun _ => ha rfl⟩
      | cons t r =>
        simp only [List.map_cons, List.cons_append] at ht
        subst ht
        by_cases hw : t.f0 = 1 ∧ (t.f3.toList == word.toList) = true
        · obtain ⟨F', rfl⟩ : ∃ q, F' = q + 1 := ⟨F' - 1, by simp at h2; omega⟩
          rw [listLoop_go part word F acc t r 0 at_ hw.1 hw.2, listLoop_go part' word F' acc' (shTok P t) _ 0 at' hw.1 hw.2]
          have hrel : Rel P cl ⟨r, 0, at_⟩ ⟨r.map (shTok P) ++ [cl], 0, at'⟩ := .inl ⟨rfl, rfl, rfl, fun u hu => hpos u (List.mem_cons_of_mem _ hu)⟩
          have hlen : r.length ≤ L := by simp at h3; omega
          obtain ⟨r1, r2⟩ := hs _ _ hlen hrel
          have s1 := hsh ⟨r, 0, at_⟩
          have s2 := hsh' ⟨r.map (shTok P) ++ [cl], 0, at'⟩
          simp only [List.length_cons] at h1 h2 h3 s1 s2
          refine ih F' _ _ _ _ (by omega) (by omega) (by omega) r1 (fun h0 => ?_)
          rw [ha rfl, r2 h0]
        · have e1 : listLoop part word (F + 1) acc ⟨t :: r, 0, at_⟩ = (acc, ⟨t :: r, 0, at_⟩) := listLoop_stop _ _ _ _ _ (fun u q hu => by
            injection hu with hu _
            rw [← hu]; exact hw)
          have e2 : listLoop part' word F' acc' ⟨shTok P t :: (r.map (shTok P) ++ [cl]), 0, at'⟩ = (acc', ⟨shTok P t :: (r.map (shTok P) ++ [cl]), 0, at'⟩) := listLoop_stop _ _ _ _ _ (fun u q hu => by
            injection hu with hu _
            rw [← hu]; exact hw)
          rw [e1, e2]
          exact ⟨.inl ⟨rfl, rfl, rfl, hpos⟩, fun _ => ha rfl⟩
    · rw [listLoop_dead _ _ _ _ hr.1]; exact ⟨.inr (.inl hr), fun h => absurd h hr.1.1⟩
    · rw [listLoop_dead _ _ _ _ hr.1, listLoop_dead _ _ _ _ hr.2.1]; exact ⟨.inr (.inr hr), fun h => absurd h hr.1.1⟩
theorem listP_sim {P : Nat} {cl : Tok} {L : Nat} {part part' : PS → Fm × PS} (hcl : cl.f0 = 4) (hs : Sim P cl L part part') (hsh : Shrinks part) (hsh' : Shrinks part') (op : Int) (word : ByteArray) :
    Sim P cl L (listP part op word) (listP part' op word) := by
  intro s s' hl hr
  obtain ⟨r1, r2⟩ := hs s s' hl hr
  have := hsh s
  obtain ⟨q1, q2⟩ := loop_sim hcl hs hsh hsh' word (part s).2.toks.length (part' s').2.toks.length [(part s).1] [(part' s').1] (part s).2 (part' s').2 (Nat.le_refl _) (Nat.le_refl _) (by omega) r1 (fun h => by rw [r2 h])
  refine ⟨q1, fun h => ?_⟩
  have e := q2 h
  simp only [listP, e]
theorem eitherP_sim {P : Nat} {cl : Tok} {L : Nat} {part part' : PS → Fm × PS} (hcl : cl.f0 = 4) (hs : Sim P cl L part part') (hsh : Shrinks part) (hsh' : Shrinks part') : Sim P cl L (eitherP part) (eitherP part') :=
  listP_sim hcl (listP_sim hcl hs hsh hsh' _ _) (listP_shrinks _ hsh _ _) (listP_shrinks _ hsh' _ _) _ _
theorem closeP_nil (n a : Int) (x : Fm) : closeP n (x, ⟨[], 0, a⟩) = (x, ⟨[], 6, n⟩) := by
  have e : (if z75.f0 ≠ 4 ∨ z75.f3.toList ≠ [41] then failP 5 z75.f1 ⟨[], 6, n⟩ else (⟨[], 6, n⟩ : PS)) = ⟨[], 6, n⟩ := by
    rw [failP_dead (bad6 n).1]; exact ite_self _
  exact Prod.ext rfl e
theorem closeP_cons (n : Int) (x : Fm) (t : Tok) (r : List Tok) (e a : Int) : closeP n (x, ⟨t :: r, e, a⟩) = (x, if t.f0 ≠ 4 ∨ t.f3.toList ≠ [41] then failP 5 t.f1 ⟨r, e, a⟩ else ⟨r, e, a⟩) := rfl
theorem closeP_bad (n : Int) (x : Fm) {s : PS} (h : Dead s) : (closeP n (x, s)).2 = s := by
  simp only [closeP, takeP_dead h]
  rw [if_pos (by left; decide), failP_dead h]
theorem closeP_sim {P : Nat} {cl : Tok} (n n' : Int) {p p' : Fm × PS} (hr : Rel P cl p.2 p'.2) (hv : p.2.err = 0 → p'.1 = p.1) :
    Rel P cl (closeP n p).2 (closeP n' p').2 ∧ ((closeP n p).2.err = 0 → (closeP n' p').1 = (closeP n p).1) := by
  obtain ⟨x, s⟩ := p
  obtain ⟨x', s'⟩ := p'
  simp only at hr hv
  rcases hr with hr | hr | hr
  · obtain ⟨toks, err, at_⟩ := s
    obtain ⟨toks', err', at'⟩ := s'
    obtain ⟨he, he', ht, hpos⟩ := hr
    simp only at he he' ht hpos hv
    subst he
    subst he'
    cases toks with
    | nil =>
      have e : (closeP n (x, ⟨[], 0, at_⟩)).2 = ⟨[], 6, n⟩ := by rw [closeP_nil]
      rw [e]
      exact ⟨.inr (.inl (bad6 n)), fun h => absurd h (bad6 n).1.1⟩
    | cons t r =>
      simp only [List.map_cons, List.cons_append] at ht
      subst ht
      rw [closeP_cons, closeP_cons]
      by_cases hc : t.f0 ≠ 4 ∨ t.f3.toList ≠ [41]
      · rw [if_pos hc]
        exact ⟨.inr (.inl (bad5 _)), fun h => absurd h (bad5 t.f1).1.1⟩
      · rw [if_neg hc, if_neg (show ¬ ((shTok P t).f0 ≠ 4 ∨ (shTok P t).f3.toList ≠ [41]) from hc)]
        exact ⟨.inl ⟨rfl, rfl, rfl, fun u hu => hpos u (List.mem_cons_of_mem _ hu)⟩, fun _ => hv rfl⟩
  · rw [closeP_bad n x hr.1]; exact ⟨.inr (.inl hr), fun h => absurd h hr.1.1⟩
  · rw [closeP_bad n x hr.1, closeP_bad n' x' hr.2.1]; exact ⟨.inr (.inr hr), fun h => absurd h hr.1.1⟩
theorem testP_sim {P : Nat} {cl : Tok} (n n' : Int) (name : ByteArray) (toks : List Tok) (at_ at' : Int) (hpos : ∀ t ∈ toks, Pos t.f1) :
    Rel P cl (testP n name ⟨toks, 0, at_⟩).2 (testP n' name ⟨toks.map (shTok P) ++ [cl], 0, at'⟩).2 ∧
      ((testP n name ⟨toks, 0, at_⟩).2.err = 0 → (testP n' name ⟨toks.map (shTok P) ++ [cl], 0, at'⟩).1 = (testP n name ⟨toks, 0, at_⟩).1) := by
  have dead : ∀ s1 : PS, Bad s1 → (testP n name ⟨toks, 0, at_⟩).2 = s1 → Rel P cl (testP n name ⟨toks, 0, at_⟩).2 (testP n' name ⟨toks.map (shTok P) ++ [cl], 0, at'⟩).2 ∧
      ((testP n name ⟨toks, 0, at_⟩).2.err = 0 → (testP n' name ⟨toks.map (shTok P) ++ [cl], 0, at'⟩).1 = (testP n name ⟨toks, 0, at_⟩).1) := by
    intro s1 hb hy
    rw [hy]
    exact ⟨.inr (.inl hb), fun h => absurd h hb.1.1⟩
  cases toks with
  | nil =>
    refine dead ⟨[], 6, n⟩ (bad6 n) ?_
    have hd : Dead ⟨[], 6, n⟩ := (bad6 n).1
    rw [testP_parts, testA_nil, takeP_dead hd, testB_dead hd]
  | cons t r =>
    by_cases hc : t.f0 ≠ 4 ∨ symIx t.f3 < 1
    · refine dead ⟨[], 5, t.f1⟩ (bad5 _) ?_
      have hd : Dead ⟨[], 5, t.f1⟩ := (bad5 _).1
      rw [testP_parts, testA_cons, if_pos hc, takeP_dead hd, testB_dead hd]
    · cases r with
      | nil =>
        refine dead ⟨[], 6, n⟩ (bad6 n) ?_
        have hd : Dead ⟨[], 6, n⟩ := (bad6 n).1
        rw [testP_parts, testA_cons, if_neg hc, takeP_nil, testB_dead hd]
      | cons u r =>
        have hc' : ¬ ((shTok P t).f0 ≠ 4 ∨ symIx (shTok P t).f3 < 1) := hc
        have e1 : testP n name ⟨t :: u :: r, 0, at_⟩ = (⟨3, name, symIx t.f3, u.f2, []⟩, testB (u, ⟨r, 0, at_⟩)) := by
          rw [testP_parts, testA_cons, if_neg hc, takeP_cons, takeP_cons]
        have e2 : testP n' name ⟨(t :: u :: r).map (shTok P) ++ [cl], 0, at'⟩ = (⟨3, name, symIx t.f3, u.f2, []⟩, testB (shTok P u, ⟨r.map (shTok P) ++ [cl], 0, at'⟩)) := by
          have : (t :: u :: r).map (shTok P) ++ [cl] = shTok P t :: shTok P u :: (r.map (shTok P) ++ [cl]) := rfl
          rw [this, testP_parts, testA_cons, if_neg hc', takeP_cons, takeP_cons]
          rfl
        rw [e1, e2]
        simp only
        rw [testB_cons, testB_cons]
        by_cases h2 : u.f0 ≠ 2
        · have hd : Dead ⟨[], 5, u.f1⟩ := (bad5 _).1
          have e : testB (u, ⟨r, 0, at_⟩) = (⟨[], 5, u.f1⟩ : PS) := by
            rw [testB_cons, if_pos h2, failP_zero]
            show (if 1000000 < u.f2 then failP 10 u.f1 ⟨[], 5, u.f1⟩ else ⟨[], 5, u.f1⟩) = (⟨[], 5, u.f1⟩ : PS)
            rw [failP_dead hd]; exact ite_self _
          rw [testB_cons] at e
          rw [e]
          exact ⟨.inr (.inl (bad5 _)), fun h => absurd h hd.1⟩
        · have h2' : ¬ ((shTok P u).f0 ≠ 2) := h2
          rw [if_neg h2, if_neg h2']
          have hu : Pos u.f1 := hpos u (by simp)
          simp only
          by_cases h3 : 1000000 < u.f2
          · rw [if_pos h3, if_pos (show 1000000 < (shTok P u).f2 from h3), failP_zero, failP_zero]
            have t10 : (10 : Int) ≠ 0 := by decide
            exact ⟨.inr (.inr ⟨⟨t10, rfl⟩, ⟨t10, rfl⟩, rfl, rfl, hu⟩), fun h => absurd h t10⟩
          · rw [if_neg h3, if_neg (show ¬ 1000000 < (shTok P u).f2 from h3)]
            exact ⟨.inl ⟨rfl, rfl, rfl, fun q hq => hpos q (by simp [hq])⟩, fun _ => by trivial⟩
theorem oneP_sim {P : Nat} {cl : Tok} (hcl : cl.f0 = 4) (hct : cl.f3.toList = [41]) (n n' : Int) : ∀ (f f' L : Nat), L < f → L < f' → Sim P cl L (oneP n f) (oneP n' f') := by
  intro f
  induction f with
  | zero => intro f' L h; omega
  | succ f ih =>
    intro f' L h1 h2 s s' hl hr
    obtain ⟨f', rfl⟩ : ∃ q, f' = q + 1 := ⟨f' - 1, by omega⟩
    rcases hr with hr | hr
    · obtain ⟨toks, err, at_⟩ := s
      obtain ⟨toks', err', at'⟩ := s'
      obtain ⟨he, he', ht, hpos⟩ := hr
      simp only at he he' ht hpos hl
      subst he
      subst he'
      cases toks with
      | nil =>
        have e : (oneP n (f + 1) ⟨[], 0, at_⟩).2 = ⟨[], 6, n⟩ := by rw [oneP_nil]
        rw [e]
        exact ⟨.inr (.inl (bad6 n)), fun h => absurd h (bad6 n).1.1⟩
      | cons t r =>
        simp only [List.map_cons, List.cons_append] at ht
        subst ht
        simp only [List.length_cons] at hl
        have hp2 : ∀ u ∈ r, Pos u.f1 := fun u hu => hpos u (List.mem_cons_of_mem _ hu)
        have run : Run P cl ⟨r, 0, at_⟩ ⟨r.map (shTok P) ++ [cl], 0, at'⟩ := ⟨rfl, rfl, rfl, hp2⟩
        have e0 : (shTok P t).f0 = t.f0 := rfl
        have e3 : (shTok P t).f3 = t.f3 := rfl
        rw [oneP_cons, oneP_cons, e0, e3]
        by_cases k1 : t.f0 = 1
        · rw [if_pos k1, if_pos k1]
          by_cases k2 : t.f3.toList = lNot
          · rw [if_pos k2, if_pos k2]
            obtain ⟨r1, r2⟩ := ih f' (L - 1) (by omega) (by omega) ⟨r, 0, at_⟩ ⟨r.map (shTok P) ++ [cl], 0, at'⟩ (by show r.length ≤ _; omega) (.inl run)
            exact ⟨r1, fun h => by simp only; rw [r2 h]⟩
          · rw [if_neg k2, if_neg k2]
            by_cases k3 : t.f3.toList = lTrue
            · rw [if_pos k3, if_pos k3]; exact ⟨.inl run, fun _ => rfl⟩
            · rw [if_neg k3, if_neg k3]
              by_cases k4 : t.f3.toList = lFalse
              · rw [if_pos k4, if_pos k4]; exact ⟨.inl run, fun _ => rfl⟩
              · rw [if_neg k4, if_neg k4]
                by_cases k5 : t.f3.toList = [] ∨ isKey t.f3 = true
                · rw [if_pos k5, if_pos k5, failP_zero]
                  exact ⟨.inr (.inl (bad5 _)), fun h => absurd h (bad5 t.f1).1.1⟩
                · rw [if_neg k5, if_neg k5]
                  exact testP_sim n n' t.f3 r at_ at' hp2
        · rw [if_neg k1, if_neg k1]
          by_cases k6 : t.f0 = 4 ∧ t.f3.toList = [40]
          · rw [if_pos k6, if_pos k6]
            have se := eitherP_sim hcl (ih f' (L - 1) (by omega) (by omega)) (small_shrinks (oneP_small n f)) (small_shrinks (oneP_small n' f'))
            obtain ⟨r1, r2⟩ := se ⟨r, 0, at_⟩ ⟨r.map (shTok P) ++ [cl], 0, at'⟩ (by show r.length ≤ _; omega) (.inl run)
            exact closeP_sim n n' r1 r2
          · rw [if_neg k6, if_neg k6, failP_zero]
            exact ⟨.inr (.inl (bad5 _)), fun h => absurd h (bad5 t.f1).1.1⟩
    · exact sim_dead (oneP_stays n _) (oneP_stays n' _) hr
theorem listP_single {part : PS → Fm × PS} {op : Int} {word : ByteArray} {s : PS} (h : (part s).2.toks = []) : listP part op word s = part s := by
  have e : listLoop part word (part s).2.toks.length [(part s).1] (part s).2 = ([(part s).1], (part s).2) := listLoop_stop _ _ _ _ _ (fun t r ht => by rw [h] at ht; cases ht)
  unfold listP
  rw [e]
  simp
theorem eitherP_single {part : PS → Fm × PS} {s : PS} (h : (part s).2.toks = []) : eitherP part s = part s := by
  have e := listP_single (op := 5) (word := wAnd) h
  unfold eitherP
  rw [listP_single (by rw [e]; exact h), e]
/-- What Parse makes of a formula and a state. -/
def finP (p : Fm × PS) : Fm × Int × Int := endP p.1 (tooP p.1 (restP p.2))
theorem fin_nil (x : Fm) (a : Int) : finP (x, ⟨[], 0, a⟩) = if isLarge x = true then (z24, 2, -1) else (x, 0, 0) := by
  show endP x (tooP x ⟨[], 0, a⟩) = _
  cases hL : isLarge x
  · have e : tooP x ⟨[], 0, a⟩ = ⟨[], 0, a⟩ := if_neg (by rintro ⟨_, h⟩; rw [hL] at h; cases h)
    rw [e]; rfl
  · have e : tooP x ⟨[], 0, a⟩ = ⟨[], 2, -1⟩ := if_pos ⟨rfl, hL⟩
    rw [e]; rfl
theorem fin_cons (x : Fm) (t : Tok) (r : List Tok) (a : Int) : finP (x, ⟨t :: r, 0, a⟩) = (z24, 5, t.f1) := by
  show endP x (tooP x ⟨[], 5, t.f1⟩) = _
  have e : tooP x ⟨[], 5, t.f1⟩ = ⟨[], 5, t.f1⟩ := if_neg (by rintro ⟨h, _⟩; exact absurd (show (5 : Int) = 0 from h) (by decide))
  rw [e]; rfl
theorem fin_dead {x : Fm} {s : PS} (h : Dead s) : finP (x, s) = (z24, s.err, s.at_) := by
  obtain ⟨toks, err, at_⟩ := s
  obtain ⟨h1, h2⟩ := h
  simp only at h1 h2
  subst h2
  show endP x (tooP x ⟨[], err, at_⟩) = _
  have e : tooP x ⟨[], err, at_⟩ = ⟨[], err, at_⟩ := if_neg (by rintro ⟨h, _⟩; exact absurd h h1)
  rw [e]
  exact if_neg h1
theorem parse_sim {P : Nat} {cl op : Tok} (hcl : cl.f0 = 4) (hct : cl.f3.toList = [41]) (hop : op.f0 = 4) (hot : op.f3.toList = [40]) (n n' : Int) (ts : List Tok) (hpos : ∀ t ∈ ts, Pos t.f1) (f f' : Nat) (hf : ts.length < f) (hf' : ts.length < f') :
    (finP (eitherP (oneP n f) ⟨ts, 0, 0⟩)).2.1 = 5 ∨ (finP (eitherP (oneP n f) ⟨ts, 0, 0⟩)).2.1 = 6 ∨
    ((finP (eitherP (oneP n' (f' + 1)) ⟨op :: (ts.map (shTok P) ++ [cl]), 0, 0⟩)).1 = (finP (eitherP (oneP n f) ⟨ts, 0, 0⟩)).1 ∧
     (finP (eitherP (oneP n' (f' + 1)) ⟨op :: (ts.map (shTok P) ++ [cl]), 0, 0⟩)).2.1 = (finP (eitherP (oneP n f) ⟨ts, 0, 0⟩)).2.1 ∧
     (((finP (eitherP (oneP n f) ⟨ts, 0, 0⟩)).2.1 = 0 ∧ (finP (eitherP (oneP n' (f' + 1)) ⟨op :: (ts.map (shTok P) ++ [cl]), 0, 0⟩)).2.2 = 0) ∨
      ((finP (eitherP (oneP n f) ⟨ts, 0, 0⟩)).2.1 ≠ 0 ∧ (finP (eitherP (oneP n f) ⟨ts, 0, 0⟩)).2.2 = -1 ∧ (finP (eitherP (oneP n' (f' + 1)) ⟨op :: (ts.map (shTok P) ++ [cl]), 0, 0⟩)).2.2 = -1) ∨
      ((finP (eitherP (oneP n f) ⟨ts, 0, 0⟩)).2.1 ≠ 0 ∧ Pos (finP (eitherP (oneP n f) ⟨ts, 0, 0⟩)).2.2 ∧ (finP (eitherP (oneP n' (f' + 1)) ⟨op :: (ts.map (shTok P) ++ [cl]), 0, 0⟩)).2.2 = (finP (eitherP (oneP n f) ⟨ts, 0, 0⟩)).2.2 + P))) := by
  have se := eitherP_sim (P := P) hcl (oneP_sim hcl hct n n' f f' ts.length hf hf') (small_shrinks (oneP_small n f)) (small_shrinks (oneP_small n' f'))
  obtain ⟨r1, r2⟩ := se ⟨ts, 0, 0⟩ ⟨ts.map (shTok P) ++ [cl], 0, 0⟩ (Nat.le_refl _) (.inl ⟨rfl, rfl, rfl, hpos⟩)
  have ew : oneP n' (f' + 1) ⟨op :: (ts.map (shTok P) ++ [cl]), 0, 0⟩ = closeP n' (eitherP (oneP n' f') ⟨ts.map (shTok P) ++ [cl], 0, 0⟩) := by
    rw [oneP_cons, if_neg (by rw [hop]; decide), if_pos ⟨hop, hot⟩]
  obtain ⟨⟨x, s⟩, hp⟩ : ∃ q, eitherP (oneP n f) ⟨ts, 0, 0⟩ = q := ⟨_, rfl⟩
  obtain ⟨⟨x', s'⟩, hp'⟩ : ∃ q, eitherP (oneP n' f') ⟨ts.map (shTok P) ++ [cl], 0, 0⟩ = q := ⟨_, rfl⟩
  rw [hp, hp'] at r1 r2
  rw [hp'] at ew
  rw [hp]
  simp only at r1 r2
  rcases r1 with hr | hr | hr
  · obtain ⟨toks, err, at_⟩ := s
    obtain ⟨toks', err', at'⟩ := s'
    obtain ⟨he, he', ht, hpos⟩ := hr
    simp only at he he' ht hpos r2
    subst he
    subst he'
    obtain rfl := r2 rfl
    cases toks with
    | nil =>
      simp only [List.map_nil, List.nil_append] at ht
      subst ht
      have ec : closeP n' (x', ⟨[cl], 0, at'⟩) = (x', ⟨[], 0, at'⟩) := by
        rw [closeP_cons, if_neg (by rintro (h | h); exact h hcl; exact h hct)]
      have e2 : eitherP (oneP n' (f' + 1)) ⟨op :: (ts.map (shTok P) ++ [cl]), 0, 0⟩ = (x', ⟨[], 0, at'⟩) := by
        rw [eitherP_single (by rw [ew, ec]), ew, ec]
      rw [e2, fin_nil, fin_nil]
      right; right
      cases hL : isLarge x'
      · exact ⟨rfl, rfl, .inl ⟨rfl, rfl⟩⟩
      · exact ⟨rfl, rfl, .inr (.inl ⟨show (2 : Int) ≠ 0 from by decide, rfl, rfl⟩)⟩
    | cons t r =>
      left
      rw [fin_cons]
  · rw [fin_dead hr.1]
    rcases hr.2 with h | h
    · exact .inl h
    · exact .inr (.inl h)
  · have ec : closeP n' (x', s') = (x', s') := by
      have := closeP_bad n' x' hr.2.1
      have e1 : (closeP n' (x', s')).1 = x' := rfl
      exact Prod.ext e1 this
    have e2 : eitherP (oneP n' (f' + 1)) ⟨op :: (ts.map (shTok P) ++ [cl]), 0, 0⟩ = (x', s') := by
      rw [eitherP_single (by rw [ew, ec]; exact hr.2.1.2), ew, ec]
    rw [e2, fin_dead hr.1, fin_dead hr.2.1]
    right; right
    exact ⟨rfl, hr.2.2.1, .inr (.inr ⟨hr.1.1, hr.2.2.2.2, hr.2.2.2.1⟩)⟩
end Go.Proofs.YtkgmempifggajaaGreatDoor.P
-- the text YtkgmempifggajaaGreatDoorParseLaw
/- What Parse returns without an error has an operator. -/
namespace Go.Proofs.YtkgmempifggajaaGreatDoor.P
set_option linter.unusedVariables false
set_option linter.unusedSimpArgs false

theorem failP_err {e a : Int} {s : PS} (he : e ≠ 0) : (failP e a s).err ≠ 0 := by
  unfold failP
  split
  · exact he
  · assumption
theorem takeP_err {n : Int} {s : PS} (h : (takeP n s).2.err = 0) : s.err = 0 := by
  obtain ⟨toks, err, at_⟩ := s
  cases toks with
  | nil => exact absurd h (failP_err (by decide))
  | cons t r => exact h
/-- An error stays. -/
def Up (part : PS → Fm × PS) : Prop := ∀ s, (part s).2.err = 0 → s.err = 0
/-- Without an error there is an operator. -/
def HasOp (L : Nat) (part : PS → Fm × PS) : Prop := ∀ s, s.toks.length ≤ L → (part s).2.err = 0 → (part s).1.f0 ≠ 0
theorem loop_up {part : PS → Fm × PS} (hp : Up part) (word : ByteArray) : ∀ (f : Nat) (acc : List Fm) (s : PS), (listLoop part word f acc s).2.err = 0 → s.err = 0 := by
  intro f
  induction f with
  | zero => intro acc s h; exact h
  | succ f ih =>
    intro acc s h
    obtain ⟨toks, err, at_⟩ := s
    cases toks with
    | nil => exact h
    | cons t r =>
      by_cases hw : t.f0 = 1 ∧ (t.f3.toList == word.toList) = true
      · rw [listLoop_go part word f acc t r err at_ hw.1 hw.2] at h
        exact hp ⟨r, err, at_⟩ (ih _ _ h)
      · rw [listLoop_stop part word (f + 1) acc ⟨t :: r, err, at_⟩ (fun u q hu => by injection hu with hu _; rw [← hu]; exact hw)] at h
        exact h
theorem loop_acc {part : PS → Fm × PS} (word : ByteArray) : ∀ (f : Nat) (acc : List Fm) (s : PS), ∃ q, (listLoop part word f acc s).1 = acc ++ q := by
  intro f
  induction f with
  | zero => intro acc s; exact ⟨[], by simp [listLoop]⟩
  | succ f ih =>
    intro acc s
    obtain ⟨toks, err, at_⟩ := s
    cases toks with
    | nil => exact ⟨[], by simp [listLoop]⟩
    | cons t r =>
      by_cases hw : t.f0 = 1 ∧ (t.f3.toList == word.toList) = true
      · rw [listLoop_go part word f acc t r err at_ hw.1 hw.2]
        obtain ⟨q, hq⟩ := ih (acc ++ [(part ⟨r, err, at_⟩).1]) (part ⟨r, err, at_⟩).2
        exact ⟨_, by rw [hq, List.append_assoc]⟩
      · rw [listLoop_stop part word (f + 1) acc ⟨t :: r, err, at_⟩ (fun u q hu => by injection hu with hu _; rw [← hu]; exact hw)]
        exact ⟨[], by simp⟩
theorem listP_up {part : PS → Fm × PS} (hp : Up part) (op : Int) (word : ByteArray) : Up (listP part op word) := fun s h => hp s (loop_up hp word _ _ _ h)
theorem listP_op {part : PS → Fm × PS} {L : Nat} (hp : Up part) (ho : HasOp L part) (op : Int) (hop : op ≠ 0) (word : ByteArray) : HasOp L (listP part op word) := by
  intro s hl h
  have h1 : (part s).2.err = 0 := loop_up hp word _ _ _ h
  obtain ⟨q, hq⟩ := loop_acc (part := part) word (part s).2.toks.length [(part s).1] (part s).2
  unfold listP
  rw [hq]
  simp only [List.singleton_append, List.length_cons, List.headD_cons]
  split
  · exact ho s hl h1
  · exact hop
theorem oneP_up (n : Int) : ∀ f, Up (oneP n f) := by
  intro f
  induction f with
  | zero => intro s h; exact h
  | succ f ih =>
    intro s h
    obtain ⟨toks, err, at_⟩ := s
    by_cases he : err = 0
    · exact he
    · cases toks with
      | nil =>
        rw [oneP_stays n (f + 1) ⟨[], err, at_⟩ ⟨he, rfl⟩] at h
        exact h
      | cons t r =>
        rw [oneP_cons] at h
        by_cases k1 : t.f0 = 1
        · rw [if_pos k1] at h
          by_cases k2 : t.f3.toList = lNot
          · rw [if_pos k2] at h; exact ih ⟨r, err, at_⟩ h
          · rw [if_neg k2] at h
            by_cases k3 : t.f3.toList = lTrue
            · rw [if_pos k3] at h; exact h
            · rw [if_neg k3] at h
              by_cases k4 : t.f3.toList = lFalse
              · rw [if_pos k4] at h; exact h
              · rw [if_neg k4] at h
                by_cases k5 : t.f3.toList = [] ∨ isKey t.f3 = true
                · rw [if_pos k5] at h; exact absurd h (failP_err (by decide))
                · rw [if_neg k5, testP_parts] at h
                  have g1 : (testB (takeP n (testA n ⟨r, err, at_⟩))).err = 0 := h
                  have g2 : (takeP n (testA n ⟨r, err, at_⟩)).2.err = 0 := by
                    unfold testB at g1
                    simp only at g1
                    by_cases c1 : 1000000 < (takeP n (testA n ⟨r, err, at_⟩)).1.f2
                    · rw [if_pos c1] at g1; exact absurd g1 (failP_err (by decide))
                    · rw [if_neg c1] at g1
                      by_cases c2 : (takeP n (testA n ⟨r, err, at_⟩)).1.f0 ≠ 2
                      · rw [if_pos c2] at g1; exact absurd g1 (failP_err (by decide))
                      · rw [if_neg c2] at g1; exact g1
                  have g3 := takeP_err g2
                  unfold testA at g3
                  by_cases c3 : (takeP n ⟨r, err, at_⟩).1.f0 ≠ 4 ∨ symIx (takeP n ⟨r, err, at_⟩).1.f3 < 1
                  · rw [if_pos c3] at g3; exact absurd g3 (failP_err (by decide))
                  · rw [if_neg c3] at g3; exact takeP_err (s := ⟨r, err, at_⟩) g3
        · rw [if_neg k1] at h
          by_cases k6 : t.f0 = 4 ∧ t.f3.toList = [40]
          · rw [if_pos k6] at h
            have g : (eitherP (oneP n f) ⟨r, err, at_⟩).2.err = 0 := by
              obtain ⟨q, hq⟩ : ∃ q, eitherP (oneP n f) ⟨r, err, at_⟩ = q := ⟨_, rfl⟩
              rw [hq] at h ⊢
              simp only [closeP] at h
              by_cases c : (takeP n q.2).1.f0 ≠ 4 ∨ (takeP n q.2).1.f3.toList ≠ [41]
              · rw [if_pos c] at h; exact absurd h (failP_err (by decide))
              · rw [if_neg c] at h; exact takeP_err h
            exact listP_up (listP_up ih _ _) _ _ ⟨r, err, at_⟩ g
          · rw [if_neg k6] at h; exact absurd h (failP_err (by decide))
theorem oneP_op (n : Int) : ∀ f L, L < f → HasOp L (oneP n f) := by
  intro f
  induction f with
  | zero => intro L h; omega
  | succ f ih =>
    intro L hL s hl h
    obtain ⟨toks, err, at_⟩ := s
    cases toks with
    | nil =>
      have he : err = 0 := oneP_up n (f + 1) ⟨[], err, at_⟩ h
      subst he
      rw [oneP_nil] at h
      exact absurd h (bad6 n).1.1
    | cons t r =>
      have hl2 : r.length ≤ L - 1 := by simp at hl; omega
      rw [oneP_cons] at h ⊢
      by_cases k1 : t.f0 = 1
      · rw [if_pos k1] at h ⊢
        by_cases k2 : t.f3.toList = lNot
        · rw [if_pos k2]; show (4 : Int) ≠ 0; decide
        · rw [if_neg k2] at h ⊢
          by_cases k3 : t.f3.toList = lTrue
          · rw [if_pos k3]; show (1 : Int) ≠ 0; decide
          · rw [if_neg k3] at h ⊢
            by_cases k4 : t.f3.toList = lFalse
            · rw [if_pos k4]; show (2 : Int) ≠ 0; decide
            · rw [if_neg k4] at h ⊢
              by_cases k5 : t.f3.toList = [] ∨ isKey t.f3 = true
              · rw [if_pos k5] at h; exact absurd h (failP_err (by decide))
              · rw [if_neg k5]; show (3 : Int) ≠ 0; decide
      · rw [if_neg k1] at h ⊢
        by_cases k6 : t.f0 = 4 ∧ t.f3.toList = [40]
        · rw [if_pos k6] at h ⊢
          have g : (eitherP (oneP n f) ⟨r, err, at_⟩).2.err = 0 := by
            obtain ⟨q, hq⟩ : ∃ q, eitherP (oneP n f) ⟨r, err, at_⟩ = q := ⟨_, rfl⟩
            rw [hq] at h ⊢
            simp only [closeP] at h
            by_cases c : (takeP n q.2).1.f0 ≠ 4 ∨ (takeP n q.2).1.f3.toList ≠ [41]
            · rw [if_pos c] at h; exact absurd h (failP_err (by decide))
            · rw [if_neg c] at h; exact takeP_err h
          have hL1 : 1 ≤ L := by simp at hl; omega
          have io := ih (L - 1) (by omega)
          exact listP_op (listP_up (oneP_up n f) 5 wAnd) (listP_op (oneP_up n f) io 5 (by decide) wAnd) 6 (by decide) wOr ⟨r, err, at_⟩ hl2 g
        · rw [if_neg k6] at h; exact absurd h (failP_err (by decide))
theorem parseF_fin (s : ByteArray) (h : (lex s.data.toList).2.1 = 0) : parseF s = finP (eitherP (oneP s.size ((lex s.data.toList).1.length + 1)) ⟨(lex s.data.toList).1, 0, 0⟩) := if_pos h
theorem parseF_err (s : ByteArray) (h : (lex s.data.toList).2.1 ≠ 0) : parseF s = (z24, (lex s.data.toList).2.1, (lex s.data.toList).2.2) := if_neg h
theorem fin_zero {p : Fm × PS} (h : (finP p).2.1 = 0) : finP p = (p.1, 0, 0) ∧ p.2.err = 0 ∧ p.2.toks = [] ∧ isLarge p.1 = false := by
  obtain ⟨x, toks, err, at_⟩ := p
  by_cases he : err = 0
  · subst he
    cases toks with
    | nil =>
      rw [fin_nil] at h ⊢
      cases hL : isLarge x
      · exact ⟨by rw [if_neg (by decide)], rfl, rfl, rfl⟩
      · rw [if_pos hL] at h; exact absurd h (by decide)
    | cons t r => rw [fin_cons] at h; exact absurd (show (5 : Int) = 0 from h) (by decide)
  · exfalso
    have e : restP ⟨toks, err, at_⟩ = ⟨toks, err, at_⟩ := by
      cases toks with
      | nil => rfl
      | cons t r => exact if_neg he
    have e2 : tooP x ⟨toks, err, at_⟩ = ⟨toks, err, at_⟩ := if_neg (by rintro ⟨h, _⟩; exact he h)
    have e3 : finP (x, ⟨toks, err, at_⟩) = (z24, err, at_) := by
      show endP x (tooP x (restP ⟨toks, err, at_⟩)) = _
      rw [e, e2]; exact if_neg he
    rw [e3] at h
    exact he h
theorem parse_op (s : ByteArray) (h : (parseF s).2.1 = 0) : (parseF s).1.f0 ≠ 0 := by
  by_cases hl : (lex s.data.toList).2.1 = 0
  · rw [parseF_fin s hl] at h ⊢
    obtain ⟨h1, h2, _, _⟩ := fin_zero h
    rw [h1]
    have io := oneP_op s.size ((lex s.data.toList).1.length + 1) (lex s.data.toList).1.length (by omega)
    exact listP_op (listP_up (oneP_up _ _) 5 wAnd) (listP_op (oneP_up _ _) io 5 (by decide) wAnd) 6 (by decide) wOr ⟨(lex s.data.toList).1, 0, 0⟩ (Nat.le_refl _) h2
  · rw [parseF_err s hl] at h; exact absurd h hl
end Go.Proofs.YtkgmempifggajaaGreatDoor.P
-- the text YtkgmempifggajaaGreatDoorGapLaw
/- A text in parentheses, with gaps: its tokens, what Parse makes of them. -/
namespace Go.Proofs.YtkgmempifggajaaGreatDoor.P
set_option linter.unusedVariables false
set_option linter.unusedSimpArgs false

/-- The text in parentheses. -/
def wrapL (g t : List UInt8) : List UInt8 := g ++ 10 :: (40 :: (g ++ 10 :: (t ++ 10 :: (g ++ 10 :: (41 :: g)))))
theorem wrapL_len (g t : List UInt8) : (wrapL g t).length = 4 * g.length + t.length + 6 := by simp [wrapL]; omega
def opTok (g : List UInt8) : Tok := ⟨4, ((g.length + 1 : Nat) : Int), 0, ⟨#[40]⟩⟩
def clTok (g t : List UInt8) : Tok := ⟨4, ((3 * g.length + t.length + 5 : Nat) : Int), 0, ⟨#[41]⟩⟩
theorem wrap_lexs (g t : List UInt8) (hg : skip false g = []) (ht : t.length ≤ 2000) (f : Nat) (hf : (wrapL g t).length < f) :
    lexs f (wrapL g t) 0 0 = match lexs (t.length + 1) t 0 0 with
      | .error e => .error (e.1, e.2 + (2 * g.length + 3))
      | .ok ts => .ok (opTok g :: (ts.map (shTok (2 * g.length + 3)) ++ [clTok g t])) := by
  have hw := wrapL_len g t
  obtain ⟨Y, hY⟩ : ∃ Y, (41 : UInt8) :: g = Y := ⟨_, rfl⟩
  have e5 : ∀ a c, c < 5000 → lexs (Y.length + 1) Y a c = .ok [⟨4, (a : Int), 0, ⟨#[41]⟩⟩] := by
    intro a c hc
    rw [← hY, lexs_sym 41 (.inr rfl) g _ a c hc, lexs_gaps hg]
  have e4 : ∀ a c, c < 5000 → lexs ((g ++ 10 :: Y).length + 1) (g ++ 10 :: Y) a c = .ok [⟨4, ((a + g.length + 1 : Nat) : Int), 0, ⟨#[41]⟩⟩] := by
    intro a c hc
    rw [lexs_nl g.length g Y _ a c (Nat.le_refl _) (by simp; omega), lexs_gaps hg]
    simp only [thenLex, List.length_nil, Nat.add_zero]
    rw [e5 _ _ hc]
    rfl
  obtain ⟨Z, hZ⟩ : ∃ Z, g ++ 10 :: Y = Z := ⟨_, rfl⟩
  have hZl : Z.length = 2 * g.length + 2 := by rw [← hZ, ← hY]; simp; omega
  rw [hZ] at e4
  have e3 : ∀ a, lexs ((t ++ 10 :: Z).length + 1) (t ++ 10 :: Z) a 1 = match lexs (t.length + 1) t a 1 with
      | .error e => .error e
      | .ok ts => .ok (ts ++ [⟨4, ((a + t.length + 1 + g.length + 1 : Nat) : Int), 0, ⟨#[41]⟩⟩]) := by
    intro a
    rw [lexs_nl t.length t Z _ a 1 (Nat.le_refl _) (by simp; omega)]
    cases hx : lexs (t.length + 1) t a 1 with
    | error e => rfl
    | ok ts =>
      have hlen := lexs_len _ _ _ _ _ hx (by omega)
      simp only [thenLex]
      by_cases h5 : 1 + ts.length < 5000
      · rw [e4 _ _ h5]
      · exfalso
        have : ∀ (f : Nat) (l : List UInt8) (a c : Nat) (r : List Tok), lexs f l a c = .ok r → r.length ≤ l.length := by
          intro f
          induction f with
          | zero => intro l a c r h; simp only [lexs] at h; cases h; simp
          | succ f ih =>
            intro l a c r h
            have hsl : (skip false l).length ≤ l.length := by rw [skip_drop]; simp
            rw [lexs_succ] at h
            split at h
            · cases h; simp
            · split at h
              · cases h
              · rename_i tk htk
                obtain ⟨w1, w2⟩ := token_width htk
                split at h
                · cases h
                · split at h
                  · cases h
                  · rename_i r' hr'
                    cases h
                    have := ih _ _ _ _ hr'
                    rw [List.length_drop] at this
                    simp only [List.length_cons]
                    omega
        have := this _ _ _ _ _ hx
        omega
  obtain ⟨V, hV⟩ : ∃ V, t ++ 10 :: Z = V := ⟨_, rfl⟩
  have hVl : V.length = t.length + 1 + Z.length := by rw [← hV]; simp; omega
  rw [hV] at e3
  have e2 : ∀ a f, (g ++ 10 :: V).length < f → lexs f (g ++ 10 :: V) a 1 = lexs (V.length + 1) V (a + g.length + 1) 1 := by
    intro a f hf
    rw [lexs_nl g.length g V f a 1 (Nat.le_refl _) (by simp at hf; omega), lexs_gaps hg]
    simp only [thenLex, List.length_nil, Nat.add_zero, List.nil_append]
    cases lexs (V.length + 1) V (a + g.length + 1) 1 <;> rfl
  obtain ⟨U, hU⟩ : ∃ U, g ++ 10 :: V = U := ⟨_, rfl⟩
  have hUl : U.length = g.length + 1 + V.length := by rw [← hU]; simp; omega
  rw [hU] at e2
  have eW : wrapL g t = g ++ 10 :: (40 :: U) := by unfold wrapL; rw [← hU, ← hV, ← hZ, ← hY]
  rw [eW, lexs_nl g.length g (40 :: U) f 0 0 (Nat.le_refl _) (by rw [eW] at hf; simp at hf ⊢; omega), lexs_gaps hg]
  simp only [thenLex, List.length_nil, Nat.add_zero, List.nil_append, Nat.zero_add]
  rw [lexs_sym 40 (.inl rfl) U _ (g.length + 1) 0 (by omega)]
  simp only [List.length_cons, Nat.zero_add]
  rw [e2 (g.length + 1 + 1) _ (by omega), e3]
  have es := lexs_shift (2 * g.length + 3) 1 (t.length + 1) t 0 0 (by omega)
  rw [Nat.zero_add, Nat.zero_add] at es
  have ea : g.length + 1 + 1 + g.length + 1 = 2 * g.length + 3 := by omega
  rw [ea, es]
  cases lexs (t.length + 1) t 0 0 with
  | error e => rfl
  | ok ts =>
    simp only [opTok, clTok]
    have eb : 2 * g.length + 3 + t.length + 1 + g.length + 1 = 3 * g.length + t.length + 5 := by omega
    rw [eb]
theorem lexs_pos : ∀ (f : Nat) (l : List UInt8) (a c : Nat) (r : List Tok), lexs f l a c = .ok r → ∀ t ∈ r, 0 ≤ t.f1 ∧ t.f1 ≤ (a + l.length : Nat) := by
  intro f
  induction f with
  | zero => intro l a c r h; simp only [lexs] at h; cases h; intro t ht; cases ht
  | succ f ih =>
    intro l a c r h
    have hsl : (skip false l).length ≤ l.length := by rw [skip_drop]; simp
    rw [lexs_succ] at h
    split at h
    · cases h; intro t ht; cases ht
    · split at h
      · cases h
      · rename_i tk htk
        obtain ⟨w1, w2⟩ := token_width htk
        split at h
        · cases h
        · split at h
          · cases h
          · rename_i r' hr'
            cases h
            intro t ht
            rcases List.mem_cons.1 ht with rfl | ht
            · show (0 : Int) ≤ ((_ : Nat) : Int) ∧ ((_ : Nat) : Int) ≤ ((_ : Nat) : Int); omega
            · have := ih _ _ _ _ hr' t ht
              rw [List.length_drop] at this
              omega
theorem lexs_err_at : ∀ (f : Nat) (l : List UInt8) (a c : Nat) (e : Nat × Nat), lexs f l a c = .error e → e.2 ≤ a + l.length := by
  intro f
  induction f with
  | zero => intro l a c e h; simp only [lexs] at h; cases h
  | succ f ih =>
    intro l a c e h
    have hsl : (skip false l).length ≤ l.length := by rw [skip_drop]; simp
    rw [lexs_succ] at h
    split at h
    · cases h
    · split at h
      · cases h; show a + (l.length - (skip false l).length) ≤ _; omega
      · rename_i tk htk
        obtain ⟨w1, w2⟩ := token_width htk
        split at h
        · cases h; show a + (l.length - (skip false l).length) ≤ _; omega
        · split at h
          · rename_i e' he'
            cases h
            have := ih _ _ _ _ he'
            rw [List.length_drop] at this
            omega
          · cases h
theorem lex_pos (l : List UInt8) : ∀ t ∈ (lex l).1, Pos t.f1 := by
  unfold lex
  split
  · intro t ht; cases ht
  · split
    · intro t ht; cases ht
    · rename_i r hr
      intro t ht
      have := lexs_pos _ _ _ _ _ hr t ht
      unfold Pos
      omega
theorem wrap_lex (g t : List UInt8) (hg : skip false g = []) (hgl : g.length ≤ 200) (ht : t.length ≤ 2000) :
    (((lex t).2.1 = 0 ∧ lex (wrapL g t) = (opTok g :: ((lex t).1.map (shTok (2 * g.length + 3)) ++ [clTok g t]), 0, 0)) ∨
     ((lex t).2.1 ≠ 0 ∧ Pos (lex t).2.2 ∧ lex (wrapL g t) = ([], (lex t).2.1, (lex t).2.2 + ((2 * g.length + 3 : Nat) : Int)))) := by
  have hw := wrapL_len g t
  have e1 : lex t = match lexs (t.length + 1) t 0 0 with
      | .error (e, p) => ([], (e : Int), (p : Int))
      | .ok r => (r, 0, 0) := if_neg (by omega)
  have e2 : lex (wrapL g t) = match lexs ((wrapL g t).length + 1) (wrapL g t) 0 0 with
      | .error (e, p) => ([], (e : Int), (p : Int))
      | .ok r => (r, 0, 0) := if_neg (by omega)
  rw [wrap_lexs g t hg ht _ (Nat.lt_succ_self _)] at e2
  cases hx : lexs (t.length + 1) t 0 0 with
  | error e =>
    rw [hx] at e1 e2
    right
    have h2 := lexs_err _ _ _ _ hx
    rw [e1, e2]
    refine ⟨?_, ?_, ?_⟩
    · show ((e.1 : Nat) : Int) ≠ 0; omega
    · have h3 := lexs_err_at _ _ _ _ _ hx
      show (0 : Int) ≤ ((e.2 : Nat) : Int) ∧ ((e.2 : Nat) : Int) ≤ 9000000000000000000
      omega
    · show (([] : List Tok), ((e.1 : Nat) : Int), (((e.2 + (2 * g.length + 3) : Nat)) : Int)) = ([], ((e.1 : Nat) : Int), ((e.2 : Nat) : Int) + ((2 * g.length + 3 : Nat) : Int))
      rw [show (((e.2 + (2 * g.length + 3) : Nat)) : Int) = ((e.2 : Nat) : Int) + ((2 * g.length + 3 : Nat) : Int) from by omega]
  | ok ts =>
    rw [hx] at e1 e2
    left
    rw [e1, e2]
    exact ⟨rfl, rfl⟩
/-- What Parse makes of a text and of it in parentheses. -/
theorem parse_wrap (t w : ByteArray) (g : List UInt8) (hw : w.data.toList = wrapL g t.data.toList) (hg : skip false g = []) (hgl : g.length ≤ 200) (ht : t.data.toList.length ≤ 2000) :
    (parseF t).2.1 = 5 ∨ (parseF t).2.1 = 6 ∨ ((parseF w).1 = (parseF t).1 ∧ (parseF w).2.1 = (parseF t).2.1 ∧
      (((parseF t).2.1 = 0 ∧ (parseF w).2.2 = 0) ∨ ((parseF t).2.1 ≠ 0 ∧ (parseF t).2.2 = -1 ∧ (parseF w).2.2 = -1) ∨
        ((parseF t).2.1 ≠ 0 ∧ Pos (parseF t).2.2 ∧ (parseF w).2.2 = (parseF t).2.2 + ((2 * g.length + 3 : Nat) : Int)))) := by
  rcases wrap_lex g t.data.toList hg hgl ht with ⟨h1, h2⟩ | ⟨h1, h2, h3⟩
  · have hz : (lex w.data.toList).2.1 = 0 := by rw [hw, h2]
    rw [parseF_fin t h1, parseF_fin w hz, hw, h2]
    have hl : (opTok g :: ((lex t.data.toList).1.map (shTok (2 * g.length + 3)) ++ [clTok g t.data.toList])).length + 1 = ((lex t.data.toList).1.length + 2) + 1 := by simp
    simp only
    rw [hl]
    exact parse_sim (P := 2 * g.length + 3) (cl := clTok g t.data.toList) (op := opTok g) rfl (by show (⟨#[41]⟩ : ByteArray).toList = [41]; rw [toList_data]) rfl (by show (⟨#[40]⟩ : ByteArray).toList = [40]; rw [toList_data]) t.size w.size (lex t.data.toList).1 (lex_pos _) _ _ (Nat.lt_succ_self _) (by omega)
  · have hz : (lex w.data.toList).2.1 ≠ 0 := by rw [hw, h3]; exact h1
    right; right
    rw [parseF_err t h1, parseF_err w hz, hw, h3]
    exact ⟨rfl, rfl, .inr (.inr ⟨h1, h2, rfl⟩)⟩
end Go.Proofs.YtkgmempifggajaaGreatDoor.P
-- the text YtkgmempifggajaaGreatDoorHeadB
/- head's makers of formulas; rows of formulas just laid. -/
namespace Go.Proofs.YtkgmempifggajaaGreatDoor.P
open Go.RowKit Go.Proofs.YtkgmempifggajaaGreatDoorW.PrintWords Go.Proofs.YtkgmempifggajaaGreatDoorW.PrintLast Go.Proofs.YtkgmempifggajaaGreatDoorW.PrintMore
set_option linter.unusedVariables false
set_option linter.unusedSimpArgs false

theorem test_calls (name : ByteArray) (cmp n : Int) (w : World) :
    Calls Tryz.prog 32 #[.string name, .int .i64 cmp, .int .i64 n] w fun e w' => e = .returned (.agg #[.int .i64 3, .string name, .int .i64 cmp, .int .i64 n, .slice none 0 0]) ∧ Below w.heap.size w w' := by
  go_enter Tryz.func32, Tryz.ntmps32
  go_wp2
  refine bodyPost_ret (results_cell_row rfl _ _ w.heap.size 24 #[.int .i64 3, .string name, .int .i64 cmp, .int .i64 n, .slice none 0 0] (0, 0) _ rfl (by (repeat (first | (refine blk_new _ _ ?_; first | rfl | (simp; done)) | refine blk_alloc_old ?_ _ | refine blk_drew_old ?_ | refine blk_drewN_old ?_ _ | assumption))) Tryz.underlying24 rfl (by kernel_rfl)) rfl ?_
  exact ⟨rfl, below_alloc (Below.refl _ _) _⟩
theorem both_calls (op : Int) (A : Option Addr) (n c : Nat) (w : World) (hc : n ≤ c) :
    Calls Tryz.prog 29 #[.int .i64 op, .slice A n c] w fun e w' => e = .returned (.agg #[.int .i64 op, .string ⟨#[]⟩, .int .i64 0, .int .i64 0, .slice A n c]) ∧ Below w.heap.size w w' := by
  go_enter Tryz.func29, Tryz.ntmps29
  go_wp2
  refine bodyPost_ret (results_cell_row rfl _ _ w.heap.size 24 #[.int .i64 op, .string ⟨#[]⟩, .int .i64 0, .int .i64 0, .slice A n c] (0, 0) _ rfl (by (repeat (first | (refine blk_new _ _ ?_; first | rfl | (simp; done)) | refine blk_alloc_old ?_ _ | refine blk_drew_old ?_ | refine blk_drewN_old ?_ _ | assumption))) Tryz.underlying24 rfl (by kernel_rfl)) rfl ?_
  exact ⟨rfl, below_alloc (Below.refl _ _) _⟩

/-- A block of formulas' cells is a row of formulas. -/
theorem fms_C {w : World} {g : Nat} {cells : Array Value} {t : TypeId} (hb : w.heap[g]? = some (.cells cells t (0, 0))) (xs : List Fm) (hn : xs.length ≤ 9223372036854775807)
    (h : ∀ j (hj : j < xs.length), ∃ A c, xs[j].f4.length ≤ c ∧ Kd.C kFm w A xs[j].f4.length xs[j].f4 ∧ ∀ i u, [Value.int .i64 xs[j].f0, .string xs[j].f1, .int .i64 xs[j].f2, .int .i64 xs[j].f3, .slice A xs[j].f4.length c][i]? = some u → cells[j * 5 + i]? = some u) :
    Kd.C kFm w (some ⟨g, 0, none⟩) xs.length xs := by
  refine ⟨rfl, hn, fun _ => ⟨⟨g, 0, none⟩, rfl, fun j p hj => ?_⟩⟩
  obtain ⟨hj1, rfl⟩ := List.getElem?_eq_some_iff.1 hj
  obtain ⟨A, c, hc, hC, hcells⟩ := h j hj1
  refine ⟨[Value.int .i64 xs[j].f0, .string xs[j].f1, .int .i64 xs[j].f2, .int .i64 xs[j].f3, .slice A xs[j].f4.length c], rfl, k24_mk w xs[j] hc hC, fun i u hu => ?_⟩
  have h5 : kFm.sz = 5 := rfl
  rw [h5]
  have := blk_cell hb (j * 5 + i)
  have e : (⟨g, 0, none⟩ : Addr).add (j * 5 + i) = ⟨g, j * 5 + i, none⟩ := by
    unfold Addr.add
    split
    · rename_i h0; rw [h0]
    · simp
  rw [e, this]
  exact hcells i u hu
theorem fms_nil (w : World) : Kd.C kFm w none ([] : List Fm).length [] := Kd.C_nil _ _
end Go.Proofs.YtkgmempifggajaaGreatDoor.P
-- the text YtkgmempifggajaaGreatDoorHeadC
/- head's own memory. -/
namespace Go.Proofs.YtkgmempifggajaaGreatDoor.P
open Go.RowKit Go.Proofs.YtkgmempifggajaaGreatDoorW.PrintWords Go.Proofs.YtkgmempifggajaaGreatDoorW.PrintLast Go.Proofs.YtkgmempifggajaaGreatDoorW.PrintMore
set_option linter.unusedVariables false
set_option linter.unusedSimpArgs false

abbrev cT2 : Array Value := #[.int .i64 3, .string ⟨#[117, 115, 101, 100]⟩, .int .i64 1, .int .i64 1, .slice none 0 0]
abbrev cK2 (k1 : Nat) : Array Value := #[.int .i64 3, .string ⟨#[119, 101, 105, 103, 104, 116]⟩, .int .i64 6, .int .i64 18, .slice none 0 0, .int .i64 4, .string ⟨#[]⟩, .int .i64 0, .int .i64 0, .slice (some ⟨k1, 0, none⟩) 1 1]
abbrev cF (k2 : Nat) : Array Value := #[.int .i64 5, .string ⟨#[]⟩, .int .i64 0, .int .i64 0, .slice (some ⟨k2, 0, none⟩) 2 2]
abbrev cDom : Array Value := #[.string ⟨#[119, 101, 105, 103, 104, 116]⟩, .int .i64 2, .int .i64 0, .int .i64 150, .string ⟨#[117, 115, 101, 100]⟩, .int .i64 1, .int .i64 0, .int .i64 1]
/-- The domain and the case in memory. -/
structure HD (w0 w : World) : Prop where
  d0 : w.heap[w0.heap.size]? = some (.cells cDom 49 (0, 0))
  d1 : w.heap[w0.heap.size + 1]? = some (.cells #[.slice (some ⟨w0.heap.size, 0, none⟩) 2 2] 27 (0, 0))
  d2 : w.heap[w0.heap.size + 1 + 1]? = some (.cells #[.int .i64 20, .int .i64 0] 3 (0, 0))
  old : Below w0.heap.size w0 w
theorem HD.below {w0 w w1 : World} (h : HD w0 w) (hb : Below w.heap.size w w1) : HD w0 w1 :=
  ⟨(hb.block _ (lt_of_block h.d0)).trans h.d0, (hb.block _ (lt_of_block h.d1)).trans h.d1, (hb.block _ (lt_of_block h.d2)).trans h.d2, h.old.trans (hb.mono h.old.size)⟩
theorem HD.alloc {w0 w : World} (h : HD w0 w) (o : Obj) : HD w0 (w.alloc o) := h.below (below_alloc (Below.refl _ _) o)
/-- The formula f in memory: its rows, and its variable. -/
structure HFm (w0 w : World) (k1 k2 g : Nat) : Prop where
  hd : HD w0 w
  b1 : w.heap[k1]? = some (.cells cT2 24 (0, 0))
  b2 : w.heap[k2]? = some (.cells (cK2 k1) 24 (0, 0))
  b3 : w.heap[g]? = some (.cells (cF k2) 24 (0, 0))
theorem HFm.below {w0 w w1 : World} {k1 k2 g : Nat} (h : HFm w0 w k1 k2 g) (hb : Below w.heap.size w w1) : HFm w0 w1 k1 k2 g :=
  ⟨h.hd.below hb, (hb.block _ (lt_of_block h.b1)).trans h.b1, (hb.block _ (lt_of_block h.b2)).trans h.b2, (hb.block _ (lt_of_block h.b3)).trans h.b3⟩
theorem HFm.alloc {w0 w : World} {k1 k2 g : Nat} (h : HFm w0 w k1 k2 g) (o : Obj) : HFm w0 (w.alloc o) k1 k2 g := h.below (below_alloc (Below.refl _ _) o)
theorem rows_C {w : World} {k1 k2 : Nat} (b1 : w.heap[k1]? = some (.cells cT2 24 (0, 0))) (b2 : w.heap[k2]? = some (.cells (cK2 k1) 24 (0, 0))) : Kd.C kFm w (some ⟨k2, 0, none⟩) hF.f4.length hF.f4 := by
  have h1 : Kd.C kFm w (some ⟨k1, 0, none⟩) hNot.f4.length hNot.f4 := by
    refine fms_C b1 [hT2] (by decide) (fun j hj => ?_)
    obtain rfl : j = 0 := by simp at hj; omega
    refine ⟨none, 0, Nat.le_refl _, fms_nil w, fun i u hu => ?_⟩
    simpa [hT2, hUsed] using hu
  refine fms_C b2 [hT1, hNot] (by decide) (fun j hj => ?_)
  rcases (show j = 0 ∨ j = 1 by simp at hj; omega) with rfl | rfl
  · refine ⟨none, 0, Nat.le_refl _, fms_nil w, fun i u hu => ?_⟩
    have hi : i < 5 := by
      have := (List.getElem?_eq_some_iff.1 hu).1
      simpa using this
    rcases (show i = 0 ∨ i = 1 ∨ i = 2 ∨ i = 3 ∨ i = 4 by omega) with rfl | rfl | rfl | rfl | rfl <;> simpa [hT1, hWeight] using hu
  · refine ⟨some ⟨k1, 0, none⟩, 1, Nat.le_refl _, h1, fun i u hu => ?_⟩
    have hi : i < 5 := by
      have := (List.getElem?_eq_some_iff.1 hu).1
      simpa using this
    rcases (show i = 0 ∨ i = 1 ∨ i = 2 ∨ i = 3 ∨ i = 4 by omega) with rfl | rfl | rfl | rfl | rfl <;> simpa [hNot] using hu
theorem HFm.C {w0 w : World} {k1 k2 g : Nat} (h : HFm w0 w k1 k2 g) : Kd.C kFm w (some ⟨k2, 0, none⟩) hF.f4.length hF.f4 := rows_C h.b1 h.b2

theorem dom_C {w : World} {b : Nat} (hb : w.heap[b]? = some (.cells cDom 49 (0, 0))) : Kd.C kFact w (some ⟨b, 0, none⟩) hDom.length hDom := by
  refine ⟨rfl, by decide, fun _ => ⟨⟨b, 0, none⟩, rfl, fun j p hj => ?_⟩⟩
  obtain ⟨hj1, rfl⟩ := List.getElem?_eq_some_iff.1 hj
  refine ⟨[.string hDom[j].f0, .int .i64 hDom[j].f1, .int .i64 hDom[j].f2, .int .i64 hDom[j].f3], rfl, k49_mk w hDom[j], fun i u hu => ?_⟩
  have h4 : kFact.sz = 4 := rfl
  rw [h4]
  have := blk_cell hb (j * 4 + i)
  have e : (⟨b, 0, none⟩ : Addr).add (j * 4 + i) = ⟨b, j * 4 + i, none⟩ := by
    unfold Addr.add
    split
    · rename_i h0; rw [h0]
    · simp
  rw [e, this]
  have hi : i < 4 := by
    have := (List.getElem?_eq_some_iff.1 hu).1
    simpa using this
  rcases (show j = 0 ∨ j = 1 by simp [hDom] at hj1; omega) with rfl | rfl <;> rcases (show i = 0 ∨ i = 1 ∨ i = 2 ∨ i = 3 by omega) with rfl | rfl | rfl | rfl <;> simpa [hDom, hWeight, hUsed] using hu
theorem case_C {w : World} {b : Nat} {t : TypeId} (hb : w.heap[b]? = some (.cells #[.int .i64 20, .int .i64 0] t (0, 0))) : Kd.C kInt w (some ⟨b, 0, none⟩) ([20, 0] : List Int).length [20, 0] := by
  refine ⟨rfl, by decide, fun _ => ⟨⟨b, 0, none⟩, rfl, fun j p hj => ?_⟩⟩
  obtain ⟨hj1, rfl⟩ := List.getElem?_eq_some_iff.1 hj
  refine ⟨[.int .i64 ([20, 0] : List Int)[j]], rfl, rfl, fun i u hu => ?_⟩
  have h1 : kInt.sz = 1 := rfl
  rw [h1]
  have := blk_cell hb (j * 1 + i)
  have e : (⟨b, 0, none⟩ : Addr).add (j * 1 + i) = ⟨b, j * 1 + i, none⟩ := by
    unfold Addr.add
    split
    · rename_i h0; rw [h0]
    · simp
  rw [e, this]
  have hi : i < 1 := by
    have := (List.getElem?_eq_some_iff.1 hu).1
    simpa using this
  obtain rfl : i = 0 := by omega
  rcases (show j = 0 ∨ j = 1 by simp at hj1; omega) with rfl | rfl <;> simpa using hu
/-- All that head has in memory behind its seventh line. -/
structure HQ (w0 w : World) (k1 k2 g gg : Nat) (A : Option Addr) (c : Nat) : Prop where
  fm : HFm w0 w k1 k2 g
  gb : w.heap[gg]? = some (.cells #[.int .i64 6, .string ⟨#[]⟩, .int .i64 0, .int .i64 0, .slice A 2 c] 24 (0, 0))
  gc : Kd.C kFm w A hG.f4.length hG.f4
  gl : hG.f4.length ≤ c
theorem HQ.below {w0 w w1 : World} {k1 k2 g gg c : Nat} {A : Option Addr} (h : HQ w0 w k1 k2 g gg A c) (hb : Below w.heap.size w w1) : HQ w0 w1 k1 k2 g gg A c :=
  ⟨h.fm.below hb, (hb.block _ (lt_of_block h.gb)).trans h.gb, Kd.C_below h.gc hb, h.gl⟩
theorem hDom_sz : ∀ f ∈ hDom, f.f0.size ≤ 9223372036854775807 := by
  intro f hf
  simp only [hDom, List.mem_cons, List.not_mem_nil, or_false] at hf
  rcases hf with rfl | rfl
  · show (6 : Nat) ≤ _; decide
  · show (4 : Nat) ≤ _; decide
theorem hq_holds {w0 w : World} {k1 k2 g gg c : Nat} {A : Option Addr} (h : HQ w0 w k1 k2 g gg A c) :
    Calls Tryz.prog 20 #[.agg (cF k2), .agg #[.slice (some ⟨w0.heap.size, 0, none⟩) 2 2], .slice (some ⟨w0.heap.size + 1 + 1, 0, none⟩) 2 2] w fun e w' => e = .returned (.bool true) ∧ Below w.heap.size w w' := by
  have := holds_calls hF (some ⟨k2, 0, none⟩) 2 hDom (some ⟨w0.heap.size, 0, none⟩) 2 [20, 0] (some ⟨w0.heap.size + 1 + 1, 0, none⟩) 2 w h.fm.C (Nat.le_refl _) (dom_C h.fm.hd.d0) (Nat.le_refl _) (case_C h.fm.hd.d2) (Nat.le_refl _) (by rw [h_size.1]; decide) (by decide) (fun k hk => hDom_sz _ (List.getElem_mem hk))
  rw [h_holds] at this
  exact this
theorem hq_check1 {w0 w : World} {k1 k2 g gg c : Nat} {A : Option Addr} (h : HQ w0 w k1 k2 g gg A c) :
    Calls Tryz.prog 18 #[.agg #[.int .i64 3, .string ⟨#[119, 101, 105, 103, 104, 116]⟩, .int .i64 1, .int .i64 1000001, .slice none 0 0], .agg #[.slice (some ⟨w0.heap.size, 0, none⟩) 2 2]] w fun e w' => e = .returned (.int .i64 10) ∧ Below w.heap.size w w' := by
  have := check_calls ⟨3, hWeight, 1, 1000001, []⟩ none 0 hDom (some ⟨w0.heap.size, 0, none⟩) 2 w (fms_nil w) (Nat.le_refl _) (dom_C h.fm.hd.d0) (by rw [size_eq]; decide)
  rw [h_check1] at this
  exact this
theorem hq_check2 {w0 w : World} {k1 k2 g gg c : Nat} {A : Option Addr} (h : HQ w0 w k1 k2 g gg A c) :
    Calls Tryz.prog 18 #[.agg #[.int .i64 3, .string ⟨#[110, 111, 110, 101]⟩, .int .i64 1, .int .i64 1, .slice none 0 0], .agg #[.slice (some ⟨w0.heap.size, 0, none⟩) 2 2]] w fun e w' => e = .returned (.int .i64 7) ∧ Below w.heap.size w w' := by
  have := check_calls ⟨3, hNone, 1, 1, []⟩ none 0 hDom (some ⟨w0.heap.size, 0, none⟩) 2 w (fms_nil w) (Nat.le_refl _) (dom_C h.fm.hd.d0) (by rw [size_eq]; decide)
  rw [h_check2] at this
  exact this
theorem hq_check3 {w0 W w : World} {k1 k2 g gg c : Nat} {A : Option Addr} (h : HQ w0 w k1 k2 g gg A c) (hb : Below (W.alloc (.cells (cF k2) 24)).heap.size (W.alloc (.cells (cF k2) 24)) w) :
    Calls Tryz.prog 18 #[.agg #[.int .i64 5, .string ⟨#[]⟩, .int .i64 0, .int .i64 0, .slice (some ⟨W.heap.size, 0, none⟩) 1 1], .agg #[.slice (some ⟨w0.heap.size, 0, none⟩) 2 2]] w fun e w' => e = .returned (.int .i64 1) ∧ Below w.heap.size w w' := by
  have hblk : w.heap[W.heap.size]? = some (.cells (cF k2) 24 (0, 0)) := (hb.block _ (by simp)).trans (blk_new _ _ rfl)
  have hC : Kd.C kFm w (some ⟨W.heap.size, 0, none⟩) ([hF] : List Fm).length [hF] := by
    refine fms_C hblk [hF] (by decide) (fun j hj => ?_)
    obtain rfl : j = 0 := by simp at hj; omega
    refine ⟨some ⟨k2, 0, none⟩, 2, Nat.le_refl _, h.fm.C, fun i u hu => ?_⟩
    have hi : i < 5 := by
      have := (List.getElem?_eq_some_iff.1 hu).1
      simpa using this
    rcases (show i = 0 ∨ i = 1 ∨ i = 2 ∨ i = 3 ∨ i = 4 by omega) with rfl | rfl | rfl | rfl | rfl <;> simpa [hF] using hu
  have := check_calls ⟨5, ⟨#[]⟩, 0, 0, [hF]⟩ (some ⟨W.heap.size, 0, none⟩) 1 hDom (some ⟨w0.heap.size, 0, none⟩) 2 w hC (Nat.le_refl _) (dom_C h.fm.hd.d0) (by rw [size_eq]; simp only [sizes]; rw [h_size.1]; decide)
  rw [h_check3] at this
  exact this
theorem hq_same1 {w0 w : World} {k1 k2 g gg c : Nat} {A : Option Addr} (h : HQ w0 w k1 k2 g gg A c) :
    Calls Tryz.prog 22 #[.agg (cF k2), .agg (cF k2)] w fun e w' => e = .returned (.bool true) ∧ Below w.heap.size w w' := by
  have := same_calls hF hF (some ⟨k2, 0, none⟩) (some ⟨k2, 0, none⟩) 2 2 w h.fm.C h.fm.C (Nat.le_refl _) (Nat.le_refl _)
  rw [h_same] at this
  exact this
theorem hq_same2 {w0 w : World} {k1 k2 g gg c : Nat} {A : Option Addr} (h : HQ w0 w k1 k2 g gg A c) :
    Calls Tryz.prog 22 #[.agg (cF k2), .agg #[.int .i64 6, .string ⟨#[]⟩, .int .i64 0, .int .i64 0, .slice A 2 c]] w fun e w' => e = .returned (.bool false) ∧ Below w.heap.size w w' := by
  have := same_calls hF hG (some ⟨k2, 0, none⟩) A 2 c w h.fm.C h.gc (Nat.le_refl _) h.gl
  rw [h_same2] at this
  exact this

/-- What the regions hold: the formula's cells, the domain's cell, and the rest. -/
abbrev HSt (w0 : World) (k1 k2 g gg : Nat) (A : Option Addr) (c : Nat) (w : World) : Prop :=
  w.cell? ⟨g, 0, none⟩ = some (.int .i64 5) ∧ w.cell? ⟨g, 1, none⟩ = some (.string ⟨#[]⟩) ∧ w.cell? ⟨g, 2, none⟩ = some (.int .i64 0) ∧ w.cell? ⟨g, 3, none⟩ = some (.int .i64 0) ∧ w.cell? ⟨g, 4, none⟩ = some (.slice (some ⟨k2, 0, none⟩) 2 2) ∧
    w.cell? ⟨w0.heap.size + 1, 0, none⟩ = some (.slice (some ⟨w0.heap.size, 0, none⟩) 2 2) ∧ HQ w0 w k1 k2 g gg A c
theorem HQ.st {w0 w : World} {k1 k2 g gg c : Nat} {A : Option Addr} (h : HQ w0 w k1 k2 g gg A c) : HSt w0 k1 k2 g gg A c w :=
  ⟨blk_cell h.fm.b3 0, blk_cell h.fm.b3 1, blk_cell h.fm.b3 2, blk_cell h.fm.b3 3, blk_cell h.fm.b3 4, blk_cell h.fm.hd.d1 0, h⟩
theorem keepQ {w0 w1 w2 : World} {k1 k2 g gg c : Nat} {A : Option Addr} (hb : Below w1.heap.size w1 w2) (h : HSt w0 k1 k2 g gg A c w1) : HSt w0 k1 k2 g gg A c w2 := (h.2.2.2.2.2.2.below hb).st
theorem hq_of {w0 w : World} {k1 k2 g gg c : Nat} {A : Option Addr} (h : HSt w0 k1 k2 g gg A c w) : HQ w0 w k1 k2 g gg A c := h.2.2.2.2.2.2
end Go.Proofs.YtkgmempifggajaaGreatDoor.P
-- the text YtkgmempifggajaaGreatDoorHead
/- head returns true. -/
namespace Go.Proofs.YtkgmempifggajaaGreatDoor.P
open Go.RowKit Go.Proofs.YtkgmempifggajaaGreatDoorW.PrintWords Go.Proofs.YtkgmempifggajaaGreatDoorW.PrintLast Go.Proofs.YtkgmempifggajaaGreatDoorW.PrintMore
set_option linter.unusedVariables false
set_option linter.unusedSimpArgs false

set_option maxHeartbeats 4000000 in
set_option maxRecDepth 100000 in
theorem head_calls (w : World) : Calls Tryz.prog 12 #[] w fun e w' => e = .returned (.bool true) ∧ Below w.heap.size w w' := by
  go_enter Tryz.func12, Tryz.ntmps12
  go_wp2_with fail
  have HD0 := Aside0.mk (show HD w (((w.alloc (.cells cDom 49)).alloc (.cells #[.slice (some ⟨w.heap.size, 0, none⟩) 2 2] 27)).alloc (.cells #[.int .i64 20, .int .i64 0] 3)) from ⟨by (repeat (first | (refine blk_new _ _ ?_; first | rfl | (simp; done)) | refine blk_alloc_old ?_ _ | refine blk_drew_old ?_ | refine blk_drewN_old ?_ _ | assumption)), by (repeat (first | (refine blk_new _ _ ?_; first | rfl | (simp; done)) | refine blk_alloc_old ?_ _ | refine blk_drew_old ?_ | refine blk_drewN_old ?_ _ | assumption)), by (repeat (first | (refine blk_new _ _ ?_; first | rfl | (simp; done)) | refine blk_alloc_old ?_ _ | refine blk_drew_old ?_ | refine blk_drewN_old ?_ _ | assumption)), below_alloc (below_alloc (below_alloc (Below.refl _ _) _) _) _⟩)
  refine (test_calls _ 6 18 _).mono ?_
  rintro e w1 ⟨rfl, hb⟩
  have HD1 := Aside0.mk (HD0.out.below hb)
  clear hb HD0
  go_wp2_with fail
  refine (test_calls _ 1 1 _).mono ?_
  rintro e w2 ⟨rfl, hb⟩
  have HD2 := Aside0.mk (HD1.out.below hb)
  clear hb HD1
  go_wp2_with fail
  refine (both_calls 4 _ 1 1 _ (Nat.le_refl _)).mono ?_
  rintro e w3 ⟨rfl, hb⟩
  have hz3 : w2.heap.size < w3.heap.size := by have := hb.size; simp at this; omega
  have HD3 := Aside0.mk ((HD2.out.alloc (.cells cT2 24)).below hb)
  have B1 := Aside0.mk (show w3.heap[w2.heap.size]? = some (.cells cT2 24 (0, 0)) from (hb.block _ (by simp)).trans (blk_new _ _ rfl))
  clear hb HD2
  go_wp2_with fail
  refine (both_calls 5 _ 2 2 _ (Nat.le_refl _)).mono ?_
  rintro e w4 ⟨rfl, hb⟩
  have hz4 : w3.heap.size < w4.heap.size := by have := hb.size; simp at this; omega
  have HD4 := Aside0.mk ((HD3.out.alloc (.cells (cK2 w2.heap.size) 24)).below hb)
  have B14 := Aside0.mk (show w4.heap[w2.heap.size]? = some (.cells cT2 24 (0, 0)) from (hb.block _ (by simp; omega)).trans (blk_alloc_old B1.out _))
  have B24 := Aside0.mk (show w4.heap[w3.heap.size]? = some (.cells (cK2 w2.heap.size) 24 (0, 0)) from (hb.block _ (by simp)).trans (blk_new _ _ rfl))
  clear hb HD3 B1
  have HF5 := Aside0.mk (show HFm w (w4.alloc (.cells (cF w3.heap.size) 24)) w2.heap.size w3.heap.size w4.heap.size from ⟨HD4.out.alloc _, blk_alloc_old B14.out _, blk_alloc_old B24.out _, blk_new _ _ rfl⟩)
  clear B14 B24 HD4
  have k0 := blk_cell HF5.out.b3 0
  go_wp2_with fail
  refine (Size_calls hF (some ⟨w3.heap.size, 0, none⟩) 2 _ HF5.out.C (Nat.le_refl _) (by rw [h_size.1]; decide)).mono ?_
  rintro e w6 ⟨rfl, hb⟩
  have HF6 := Aside0.mk (HF5.out.below hb)
  rw [h_size.1, h_size.2]
  clear hb HF5 k0
  have k0 := blk_cell HF6.out.b3 0
  have k1 := blk_cell HF6.out.b3 1
  have k2 := blk_cell HF6.out.b3 2
  have k3 := blk_cell HF6.out.b3 3
  have k4 := blk_cell HF6.out.b3 4
  go_wp2_with fail
  refine (text_top 99 hF (some ⟨w3.heap.size, 0, none⟩) 2 _ HF6.out.C (Nat.le_refl _) (by rw [h_size.1]; decide) h_len.1 (Tab.small _) h_num.1).mono ?_
  rintro e w7 ⟨rfl, hb⟩
  have HF7 := Aside0.mk (HF6.out.below hb)
  rw [h_text]
  clear hb HF6 k0 k1 k2 k3 k4
  go_wp2_with fail
  refine (parse_calls hS1 _ (by decide)).mono ?_
  rintro e w8 ⟨v8, rfl, hR, hb⟩
  rw [h_parse1] at hR ⊢
  obtain ⟨A8, c8, rfl⟩ := Kd.R_slice hR
  have HF8 := Aside0.mk (HF7.out.below hb)
  have HC8 := Aside0.mk (show Kd.C kFm w8 A8 hG.f4.length hG.f4 ∧ hG.f4.length ≤ c8 from by obtain ⟨_, _, he, hl, hC⟩ := Kd.R_reads hR; injection he with h1 h2 h3; subst h1; subst h3; exact ⟨hC, hl⟩)
  clear hR hb HF7
  have HF9 := Aside0.mk (HF8.out.alloc (.cells #[.int .i64 6, .string ⟨#[]⟩, .int .i64 0, .int .i64 0, .slice A8 2 c8] 24))
  have HG9 := Aside0.mk (show (w8.alloc (.cells #[.int .i64 6, .string ⟨#[]⟩, .int .i64 0, .int .i64 0, .slice A8 2 c8] 24)).heap[w8.heap.size]? = some (.cells #[.int .i64 6, .string ⟨#[]⟩, .int .i64 0, .int .i64 0, .slice A8 2 c8] 24 (0, 0)) from blk_new _ _ rfl)
  have HC9 := Aside0.mk (Kd.C_below HC8.out.1 (below_alloc (Below.refl _ _) (.cells #[.int .i64 6, .string ⟨#[]⟩, .int .i64 0, .int .i64 0, .slice A8 2 c8] 24)))
  go_wp2_with fail
  refine (text_top 99 hG A8 c8 _ HC9.out HC8.out.2 h_len.2.2 h_len.2.1 (Tab.small _) h_num.2).mono ?_
  rintro e w10 ⟨rfl, hb⟩
  have HF10 := Aside0.mk (HF9.out.below hb)
  have HG10 := Aside0.mk ((hb.block _ (lt_of_block HG9.out)).trans HG9.out)
  have HC10 := Aside0.mk (Kd.C_below HC9.out hb)
  rw [h_text2]
  clear hb HF8 HF9 HG9 HC9
  go_wp2_with fail
  refine (parse_calls hS2 _ (by decide)).mono ?_
  rintro e w11 ⟨v11, rfl, hR, hb⟩
  rw [h_parse2] at hR ⊢
  obtain ⟨A11, c11, rfl⟩ := Kd.R_slice hR
  have HF11 := Aside0.mk ((HF10.out.below hb).alloc (.cells #[.int .i64 0, .string ⟨#[]⟩, .int .i64 0, .int .i64 0, .slice A11 0 c11] 24))
  have HG11 := Aside0.mk (blk_alloc_old ((hb.block _ (lt_of_block HG10.out)).trans HG10.out) (.cells #[.int .i64 0, .string ⟨#[]⟩, .int .i64 0, .int .i64 0, .slice A11 0 c11] 24))
  have HC11 := Aside0.mk (Kd.C_below (Kd.C_below HC10.out hb) (below_alloc (Below.refl _ _) (.cells #[.int .i64 0, .string ⟨#[]⟩, .int .i64 0, .int .i64 0, .slice A11 0 c11] 24)))
  clear hR hb HF10 HG10 HC10
  go_wp2_with fail
  refine (parse_calls hS3 _ (by decide)).mono ?_
  rintro e w12 ⟨v12, rfl, hR, hb⟩
  rw [h_parse3] at hR ⊢
  obtain ⟨A12, c12, rfl⟩ := Kd.R_slice hR
  have HF12 := Aside0.mk ((HF11.out.below hb).alloc (.cells #[.int .i64 0, .string ⟨#[]⟩, .int .i64 0, .int .i64 0, .slice A12 0 c12] 24))
  have HG12 := Aside0.mk (blk_alloc_old ((hb.block _ (lt_of_block HG11.out)).trans HG11.out) (.cells #[.int .i64 0, .string ⟨#[]⟩, .int .i64 0, .int .i64 0, .slice A12 0 c12] 24))
  have HC12 := Aside0.mk (Kd.C_below (Kd.C_below HC11.out hb) (below_alloc (Below.refl _ _) (.cells #[.int .i64 0, .string ⟨#[]⟩, .int .i64 0, .int .i64 0, .slice A12 0 c12] 24)))
  clear hR hb HF11 HG11 HC11
  go_wp2_with fail
  refine (parse_calls hS4 _ (by decide)).mono ?_
  rintro e w13 ⟨v13, rfl, hR, hb⟩
  rw [h_parse4] at hR ⊢
  obtain ⟨A13, c13, rfl⟩ := Kd.R_slice hR
  have HF13 := Aside0.mk ((HF12.out.below hb).alloc (.cells #[.int .i64 0, .string ⟨#[]⟩, .int .i64 0, .int .i64 0, .slice A13 0 c13] 24))
  have HG13 := Aside0.mk (blk_alloc_old ((hb.block _ (lt_of_block HG12.out)).trans HG12.out) (.cells #[.int .i64 0, .string ⟨#[]⟩, .int .i64 0, .int .i64 0, .slice A13 0 c13] 24))
  have HC13 := Aside0.mk (Kd.C_below (Kd.C_below HC12.out hb) (below_alloc (Below.refl _ _) (.cells #[.int .i64 0, .string ⟨#[]⟩, .int .i64 0, .int .i64 0, .slice A13 0 c13] 24)))
  clear hR hb HF12 HG12 HC12
  have HQ13 := Aside0.mk (show HQ w (w13.alloc (.cells #[.int .i64 z24.f0, .string z24.f1, .int .i64 z24.f2, .int .i64 z24.f3, .slice A13 z24.f4.length c13] 24)) w2.heap.size w3.heap.size w4.heap.size w8.heap.size A8 c8 from ⟨HF13.out, HG13.out, HC13.out, HC8.out.2⟩)
  clear HF13 HG13 HC13 HC8
  go_wp2_with fail
  obtain ⟨W, hW⟩ : ∃ W, w13.alloc (.cells #[.int .i64 z24.f0, .string z24.f1, .int .i64 z24.f2, .int .i64 z24.f3, .slice A13 z24.f4.length c13] 24) = W := ⟨_, rfl⟩
  rw [hW] at HQ13 ⊢
  clear hW
  obtain ⟨k1, hk1⟩ : ∃ k, w2.heap.size = k := ⟨_, rfl⟩
  obtain ⟨k2, hk2⟩ : ∃ k, w3.heap.size = k := ⟨_, rfl⟩
  obtain ⟨g, hg⟩ : ∃ k, w4.heap.size = k := ⟨_, rfl⟩
  obtain ⟨gg, hgg⟩ : ∃ k, w8.heap.size = k := ⟨_, rfl⟩
  rw [hk1, hk2, hg, hgg] at HQ13
  simp only [hk1, hk2, hg, hgg]
  have hS : HSt w k1 k2 g gg A8 c8 W.drew := (HQ13.out.below (below_drew (Below.refl _ _))).st
  go_region_held3 (fun w' => w'.cell? ⟨g, 0, none⟩ = some (.int .i64 5) ∧ w'.cell? ⟨g, 1, none⟩ = some (.string ⟨#[]⟩) ∧ w'.cell? ⟨g, 2, none⟩ = some (.int .i64 0) ∧ w'.cell? ⟨g, 3, none⟩ = some (.int .i64 0) ∧ w'.cell? ⟨g, 4, none⟩ = some (.slice (some ⟨k2, 0, none⟩) 2 2) ∧
    w'.cell? ⟨w.heap.size + 1, 0, none⟩ = some (.slice (some ⟨w.heap.size, 0, none⟩) 2 2) ∧ HQ w w' k1 k2 g gg A8 c8)
    (first | (with_reducible exact hS) | (with_reducible exact keepQ hb (by assumption)) | (refine keepQ ?_ (by assumption); exact below_alloc (Below.refl _ _) _))
    (first
      | (go_at_call 20; refine (hq_holds (hq_of (by with_reducible assumption))).mono ?_; rintro e w' ⟨rfl, hb⟩)
      | (go_at_call 18; with_reducible refine Calls.mono (hq_check1 (hq_of (by assumption))) ?_; rintro e w' ⟨rfl, hb⟩)
      | (go_at_call 18; with_reducible refine Calls.mono (hq_check2 (hq_of (by assumption))) ?_; rintro e w' ⟨rfl, hb⟩)
      | (go_at_call 18; refine (hq_check3 (hq_of (by with_reducible assumption)) hb).mono ?_; rintro e w' ⟨rfl, hb⟩)
      | (go_at_call 32; refine (test_calls _ _ _ _).mono ?_; rintro e w' ⟨rfl, hb⟩)
      | (go_at_call 29; refine (both_calls 5 _ 1 1 _ (Nat.le_refl _)).mono ?_; rintro e w' ⟨rfl, hb⟩))
  rename_i hH
  have HQ14 := Aside0.mk (hq_of hH)
  clear hH hS HQ13
  have e1 : ((ba [119, 101, 105, 103, 104, 116, 32, 62, 61, 32, 49, 56, 32, 97, 110, 100, 32, 110, 111, 116, 32, 117, 115, 101, 100, 32, 61, 32, 49]).toList == [119, 101, 105, 103, 104, 116, 32, 62, 61, 32, 49, 56, 32, 97, 110, 100, 32, 110, 111, 116, 32, 117, 115, 101, 100, 32, 61, 32, 49]) = true := by rw [ByteArray.toList_eq]; rfl
  have e2 : ((ba [97, 32, 61, 32, 49, 32, 97, 110, 100, 32, 98, 32, 61, 32, 50, 32, 111, 114, 32, 99, 32, 61, 32, 51]).toList == [97, 32, 61, 32, 49, 32, 97, 110, 100, 32, 98, 32, 61, 32, 50, 32, 111, 114, 32, 99, 32, 61, 32, 51]) = true := by rw [ByteArray.toList_eq]; rfl
  have k0 := blk_cell HQ14.out.fm.b3 0
  have k1 := blk_cell HQ14.out.fm.b3 1
  have k2 := blk_cell HQ14.out.fm.b3 2
  have k3 := blk_cell HQ14.out.fm.b3 3
  have k4 := blk_cell HQ14.out.fm.b3 4
  go_wp2_with fail
  refine (hq_same1 HQ14.out).mono ?_
  rintro e w15 ⟨rfl, hb⟩
  have HQ15 := Aside0.mk (HQ14.out.below hb)
  clear hb HQ14 k0 k1 k2 k3 k4
  have k0 := blk_cell HQ15.out.fm.b3 0
  have k1 := blk_cell HQ15.out.fm.b3 1
  have k2 := blk_cell HQ15.out.fm.b3 2
  have k3 := blk_cell HQ15.out.fm.b3 3
  have k4 := blk_cell HQ15.out.fm.b3 4
  have l0 := blk_cell HQ15.out.gb 0
  have l1 := blk_cell HQ15.out.gb 1
  have l2 := blk_cell HQ15.out.gb 2
  have l3 := blk_cell HQ15.out.gb 3
  have l4 := blk_cell HQ15.out.gb 4
  go_wp2_with fail
  refine (hq_same2 HQ15.out).mono ?_
  rintro e w16 ⟨rfl, hb⟩
  have HQ16 := Aside0.mk (HQ15.out.below hb)
  clear hb HQ15
  go_wp2
  go_ret
  exact ⟨rfl, HQ16.out.fm.hd.old⟩
end Go.Proofs.YtkgmempifggajaaGreatDoor.P
