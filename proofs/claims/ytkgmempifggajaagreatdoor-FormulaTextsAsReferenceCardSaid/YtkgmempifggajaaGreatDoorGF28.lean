/- What the statement's proof builds on: TabL. -/
import Derived.Test.YtkgmempifggajaaGreatDoorGF1
import Derived.Test.YtkgmempifggajaaGreatDoorGF12
import Derived.Lib.LaidTab
/- What the row's list gives: the table that strconv.Itoa reads. -/
namespace Go.Proofs.YtkgmempifggajaaGreatDoor.P
open Go.RowKit
set_option linter.unusedVariables false
theorem laid_tail {P : Program} {w : World} {x : String × DataW Unit} {l : List (String × DataW Unit)} {ps : List MemPlace} (h : DataW.LaidVars P w (x :: l) ps) : ∃ q, DataW.LaidVars P w l q := by
 obtain ⟨n, d⟩ := x
 obtain ⟨g, t, cs, fuel, p, q, _, _, _, _, h5, _⟩ := h
 exact ⟨q, h5⟩
theorem tab_laid_at {P : Program} {W : World} {name : String} {k : IntKind} {zs : List Int} {rest : List (String × DataW Unit)} {g : Nat} {t e : TypeId} {n : Nat} {ps : List MemPlace}
  (hg : P.globalNamed name = some g) (hty : (P.globals[g]?).map (·.type) = some t) (ht : P.underlying t = some (.array n e)) (he : P.underlying e = some (.int k)) (hce : P.cellsOf e = 1) (hct : P.cellsOf t = n)
  (h : DataW.LaidVars P W ((name, Lib.tabData k zs) :: rest) ps) : Lib.TabIs P W name k zs := by
 obtain ⟨g', t', cs, fuel, p, q, hg', ht', hvar, hd, _, _⟩ := h
 obtain rfl := Option.some.inj (hg.symm.trans hg')
 obtain rfl := Option.some.inj (hty.symm.trans ht')
 unfold Lib.TabIs
 rw [hvar, ← Lib.cells_of_tab ht he hce hct hd]
theorem pow_data : (Rows.laid_internal_strconv_uint64pow10 : DataW Unit) = Lib.tabData .u64 Lib.pow10Tab := by kernel_rfl
theorem tab_laid {W : World} (h : laidMetH Tryz.prog laidList W) : Tab 1000000 W := by
 have h' : laidMet Tryz.prog laidList W := h
 obtain ⟨ps, h0, _⟩ := h'
 obtain ⟨_, h1⟩ := laid_tail h0
 obtain ⟨_, h2⟩ := laid_tail h1
 rw [pow_data] at h2
 exact ⟨fun _ => tab_laid_at (g := 0) (by kernel_rfl) (by kernel_rfl) Tryz.underlying155 Tryz.underlying118 (by kernel_rfl) (by kernel_rfl) h2⟩
end Go.Proofs.YtkgmempifggajaaGreatDoor.P
