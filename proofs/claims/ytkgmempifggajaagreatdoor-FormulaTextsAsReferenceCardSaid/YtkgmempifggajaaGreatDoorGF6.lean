/- What the statement's proof builds on: Opens, Low. -/
import Derived.Test.YtkgmempifggajaaGreatDoorGF5
import Derived.OpenShut
import Derived.WideShapes
import Derived.DataElems
/- An argument that is read as data is what the walk calls a kind: numbers, texts, rows and structs of them. -/
namespace Go.Proofs.YtkgmempifggajaaGreatDoor.P
open Go.RowKit Go.Proofs.YtkgmempifggajaaGreatDoorW.PrintWords Go.Proofs.YtkgmempifggajaaGreatDoorW.PrintLast Go.Proofs.YtkgmempifggajaaGreatDoorW.PrintMore
set_option linter.unusedVariables false
def Opens {α : Type} (P : Program) (d : Kd α) (t : TypeId) (L : α → Prop) (n : Nat) : Prop :=
 ∀ (H : Type) (enc : TypeId × Value → H) (w : World) (spare : Nat → Bool) (held : Bool) (cs : List Value) (x : DataW H × List MemPlace),
  DataW.trod enc P w 0 spare held n t cs = some x → ∃ a, d.K w a cs ∧ L a
theorem opens_int {P : Program} {t : TypeId} {k : IntKind} (ht : P.underlying t = some (.int k)) (n : Nat) : Opens P (Kd.int k) t (fun z => (Lit.int k z).wf = true) n := by
 intro H enc w spare held cs x h
 obtain ⟨z, rfl, _, hz⟩ := DataW.trod_int ht h
 exact ⟨z, rfl, hz⟩
theorem opens_string {P : Program} {t : TypeId} (ht : P.underlying t = some .string) (n : Nat) : Opens P Kd.string t (fun z => z.size ≤ 9223372036854775807) n := by
 intro H enc w spare held cs x h
 obtain ⟨z, rfl, _, hz⟩ := DataW.trod_string ht h
 exact ⟨z, rfl, hz⟩
theorem opens_row {α : Type} {P : Program} {d : Kd α} {e : TypeId} {L : α → Prop} {n : Nat} (hc : P.cellsOf e = d.sz) (hd : Opens P d e L n)
  {H : Type} {enc : TypeId × Value → H} {w : World} {spare : Nat → Bool} {held : Bool} {a : Addr} {len : Nat} {elems : List (DataW H × List MemPlace)} (hl : elems.length = len) (hm : len ≤ 9223372036854775807)
  (he : ∀ i, i < len → (w.cells? 0 (a.add (i * P.cellsOf e)) (P.cellsOf e)).bind (DataW.trod enc P w 0 spare held n e) = elems[i]?) :
  ∃ xs : List α, xs.length = len ∧ d.C w (some a) xs.length xs ∧ ∀ x ∈ xs, L x := by
 have each : ∀ i, i < len → ∃ x : α, L x ∧ ∃ c, c.length = d.sz ∧ d.K w x c ∧ ∀ j u, c[j]? = some u → w.cell? (a.add (i * d.sz + j)) = some u := by
  intro i hi
  have h := he i hi
  rw [List.getElem?_eq_getElem (by omega), Option.bind_eq_some_iff] at h
  obtain ⟨c, h1, h2⟩ := h
  obtain ⟨x, hk, hx⟩ := hd H enc w spare held c _ h2
  obtain ⟨_, hlen, hcell⟩ := World.cells?_some h1
  refine ⟨x, hx, c, by rw [hlen, hc], hk, fun j u hj => ?_⟩
  have hj' : j < c.length := (List.getElem?_eq_some_iff.1 hj).1
  have := hcell j (by omega)
  rw [hj, hc] at this
  rw [Addr.add_add] at this
  exact this
 have build : ∀ m, m ≤ len → ∃ xs : List α, xs.length = m ∧ ∀ i x, xs[i]? = some x → L x ∧ ∃ c, c.length = d.sz ∧ d.K w x c ∧ ∀ j u, c[j]? = some u → w.cell? (a.add (i * d.sz + j)) = some u := by
  intro m
  induction m with
  | zero => intro _; exact ⟨[], rfl, fun i x h => by simp at h⟩
  | succ m ih =>
   intro hle
   obtain ⟨xs, hxs, hall⟩ := ih (by omega)
   obtain ⟨x, hx⟩ := each m (by omega)
   refine ⟨xs ++ [x], by simp [hxs], fun i y hy => ?_⟩
   by_cases hi : i < xs.length
   ·rw [List.getElem?_append_left hi] at hy
    exact hall i y hy
   ·rw [List.getElem?_append_right (by omega)] at hy
    have h0 : i - xs.length = 0 := by
     have := (List.getElem?_eq_some_iff.1 hy).1
     simp at this
     omega
    rw [h0] at hy
    obtain rfl : x = y := by simpa using hy
    have : i = m := by omega
    rw [this]
    exact hx
 obtain ⟨xs, hxs, hall⟩ := build len (Nat.le_refl _)
 refine ⟨xs, hxs, ⟨rfl, by omega, fun hpos => ⟨a, rfl, fun j p hp => ?_⟩⟩, fun x hx => ?_⟩
 ·exact (hall j p hp).2
 ·obtain ⟨i, hi⟩ := List.getElem?_of_mem hx
  exact (hall i x hi).1
theorem opens_slice {α : Type} {P : Program} {d : Kd α} {t e : TypeId} {L : α → Prop} {n : Nat} (ht : P.underlying t = some (.slice e)) (hc : P.cellsOf e = d.sz) (hd : ∀ m, m < n → Opens P d e L m) :
  Opens P (Kd.slice e d) t (fun xs => xs.length ≤ 9223372036854775807 ∧ ∀ x ∈ xs, L x) n := by
 intro H enc w spare held cs x h
 rcases DataW.trod_slice ht h with ⟨rfl, _⟩ | ⟨a, len, cap, elems, rest, m, rfl, rfl, _, _, h1, h2, h3, h4, _, _⟩
 ·exact ⟨[], ⟨none, 0, rfl, Nat.le_refl _, ⟨rfl, Nat.zero_le _, fun h => absurd h (Nat.lt_irrefl 0)⟩⟩, Nat.zero_le _, fun x hx => by simp at hx⟩
 ·have hm : len ≤ 9223372036854775807 := Nat.le_trans h1 h2
  obtain ⟨xs, hl, hC, hx⟩ := opens_row hc (hd m (by omega)) h3 hm h4
  exact ⟨xs, ⟨some a, cap, by rw [hl], by omega, hC⟩, by omega, hx⟩
end Go.Proofs.YtkgmempifggajaaGreatDoor.P
/- Formulas, domains and cases that come in as arguments, as the walks read them. -/
namespace Go.Proofs.YtkgmempifggajaaGreatDoor.P
open Go.RowKit Go.Proofs.YtkgmempifggajaaGreatDoorW.PrintWords Go.Proofs.YtkgmempifggajaaGreatDoorW.PrintLast Go.Proofs.YtkgmempifggajaaGreatDoorW.PrintMore
set_option linter.unusedVariables false
inductive Low : S24 → Prop
 | mk (x : S24) (h : x.f4.length ≤ 9223372036854775807) (k : ∀ j (hj : j < x.f4.length), Low x.f4[j]) : Low x
inductive Held : S24 → Prop
 | mk (x : S24) (h0 : (Lit.int .i64 x.f0).wf = true) (h1 : x.f1.size ≤ 9223372036854775807) (h2 : (Lit.int .i64 x.f2).wf = true) (h3 : (Lit.int .i64 x.f3).wf = true) (h : x.f4.length ≤ 9223372036854775807)
   (k : ∀ j (hj : j < x.f4.length), Held x.f4[j]) : Held x
theorem Held.low {x : S24} (h : Held x) : Low x := by
 induction h with
 | mk x _ _ _ _ h _ ih => exact .mk x h ih
theorem five {cs : List Value} (h : cs.length = 5) : ∃ a b c d e, cs = [a, b, c, d, e] := by
 match cs, h with
 | [a, b, c, d, e], _ => exact ⟨a, b, c, d, e, rfl⟩
theorem cof_int : Tryz.prog.cellsOf 3 = 1 := by kernel_rfl
theorem cof_str : Tryz.prog.cellsOf 9 = 1 := by kernel_rfl
theorem cof_fms : Tryz.prog.cellsOf 22 = 1 := by kernel_rfl
theorem cof_fm : Tryz.prog.cellsOf 24 = 5 := by kernel_rfl
theorem one_of {a b : Value} (h : [a] = [b]) : a = b := by injection h
theorem opens_formula : ∀ n, Opens Tryz.prog k24 24 Held n := by
 intro n
 induction n using Nat.strongRecOn with
 | ind n ih =>
  intro H enc w spare held cs x h
  obtain ⟨xs, m, rfl, rfl, hlen, hxs, hf⟩ := DataW.trod_struct Tryz.underlying24 h
  obtain ⟨a, b, c, d, e, rfl⟩ := five (hlen.trans cof_fm)
  have hx5 : xs.length = 5 := hxs
  have g0 : DataW.trod enc Tryz.prog w 0 spare held m 3 (List.take (Tryz.prog.cellsOf 3) (List.drop 0 [a, b, c, d, e])) = xs[0]? := hf 0 _ rfl
  have g1 : DataW.trod enc Tryz.prog w 0 spare held m 9 (List.take (Tryz.prog.cellsOf 9) (List.drop 1 [a, b, c, d, e])) = xs[1]? := hf 1 _ rfl
  have g2 : DataW.trod enc Tryz.prog w 0 spare held m 3 (List.take (Tryz.prog.cellsOf 3) (List.drop 2 [a, b, c, d, e])) = xs[2]? := hf 2 _ rfl
  have g3 : DataW.trod enc Tryz.prog w 0 spare held m 3 (List.take (Tryz.prog.cellsOf 3) (List.drop 3 [a, b, c, d, e])) = xs[3]? := hf 3 _ rfl
  have g4 : DataW.trod enc Tryz.prog w 0 spare held m 22 (List.take (Tryz.prog.cellsOf 22) (List.drop 4 [a, b, c, d, e])) = xs[4]? := hf 4 _ rfl
  rw [List.getElem?_eq_getElem (by omega)] at g0 g1 g2 g3 g4
  rw [cof_int] at g0 g2 g3
  rw [cof_str] at g1
  rw [cof_fms] at g4
  obtain ⟨z0, k0, w0⟩ := opens_int Tryz.underlying3 m H enc w spare held [a] _ g0
  obtain ⟨z1, k1, w1⟩ := opens_string Tryz.underlying9 m H enc w spare held [b] _ g1
  obtain ⟨z2, k2, w2⟩ := opens_int Tryz.underlying3 m H enc w spare held [c] _ g2
  obtain ⟨z3, k3, w3⟩ := opens_int Tryz.underlying3 m H enc w spare held [d] _ g3
  obtain ⟨l, ⟨A, cc, k4, hl, hC⟩, hlm, hall⟩ := opens_slice Tryz.underlying22 (d := k24) (L := Held) (cof_fm.trans rfl) (fun q hq => ih q (by omega)) H enc w spare held [e] _ g4
  obtain rfl := one_of k0
  obtain rfl := one_of k1
  obtain rfl := one_of k2
  obtain rfl := one_of k3
  obtain rfl := one_of k4
  exact ⟨⟨z0, z1, z2, z3, l⟩, k24_mk w ⟨z0, z1, z2, z3, l⟩ hl hC, .mk _ w0 w1 w2 w3 hlm (fun j hj => hall _ (List.getElem_mem hj))⟩
structure HeldFact (x : S49) : Prop where
 f0 : x.f0.size ≤ 9223372036854775807
 f1 : (Lit.int .i64 x.f1).wf = true
 f2 : (Lit.int .i64 x.f2).wf = true
 f3 : (Lit.int .i64 x.f3).wf = true
set_option maxRecDepth 100000 in
theorem open_formula {H : Type} {enc : TypeId × Value → H} {w : World} {base : Nat} {r : Reach} {v : Value} {d : DataW H} {p : List MemPlace} (hval : Value.okWide Tryz.prog w r base 24 v)
  (h : DataW.Trod enc Tryz.prog w 0 (fun _ => true) true 24 v d p) :
  ∃ (A : Option Addr) (c : Nat) (x : S24), v = .agg #[.int .i64 x.f0, .string x.f1, .int .i64 x.f2, .int .i64 x.f3, .slice A x.f4.length c] ∧ x.f4.length ≤ c ∧ Kd.C k24 w A x.f4.length x.f4 ∧ Held x := by
 obtain ⟨cs, rfl, hsz⟩ := WideShapes.okWide_struct Tryz.underlying24 hval
 obtain ⟨n, hf⟩ := h
 obtain ⟨x, hk, hx⟩ := opens_formula n H enc w (fun _ => true) true _ _ hf
 obtain ⟨A, c, he, hl, hC⟩ := k24_open hk
 obtain ⟨cs⟩ := cs
 have he' : cs = [.int .i64 x.f0, .string x.f1, .int .i64 x.f2, .int .i64 x.f3, .slice A x.f4.length c] := he
 rw [he']
 exact ⟨A, c, x, rfl, hl, hC, hx⟩
end Go.Proofs.YtkgmempifggajaaGreatDoor.P
