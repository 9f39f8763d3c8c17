/- What the statement's proof builds on: Wit. -/
import Derived.Test.YtkgmempifggajaaGreatDoorRows
import Derived.Test.YtkgmempifggajaaGreatDoorTie
import Derived.Test.YtkgmempifggajaaGreatDoorCards
import Derived.Test.YtkgmempifggajaaGreatDoorChecked
import Derived.WalkKit
import Derived.ProofKit
import Derived.OpenShut
import Derived.Carry
import Derived.Below
import Derived.SizedLaws
import Derived.Deep.DeepHandedRow
import Derived.Deep.DeepWitnessRowRef
import Derived.Lib.LaidIn
/- A world in which the five listed variables hold what the program's text lays: the rows' witness. -/
namespace Go.Proofs.YtkgmempifggajaaGreatDoor.P
open Go.RowKit
set_option linter.unusedVariables false
theorem own : ownKnob Tryz.prog.godebug = none := by kernel_rfl
theorem laidOut : laidOutB Tryz.prog = true := by kernel_rfl
def litCells : DataW Unit → Array Value
 | .agg l => (l.map fun | .lit (.int k n) => Value.int k n | _ => .nilIface).toArray
 | _ => #[]
def errTextOf : DataW Unit → ByteArray
 | .iface _ (.ptr (.agg [.lit (.string l)])) => ⟨l.toArray⟩
 | _ => ⟨#[]⟩
noncomputable def laidWorld (os : Os) : World :=
 let N := (World.settled Tryz.prog os).heap.size
 let w0 := World.holding Tryz.prog os ⟨#[.cells #[.string (errTextOf Rows.laid_strconv_ErrSyntax)] 169, .cells #[.string (errTextOf Rows.laid_strconv_ErrRange)] 169], #[], []⟩
 let put (h : Array Obj) (g : Nat) (cs : Array Value) : Array Obj := h.modify g fun
  | .cells _ t frozen => .cells cs t frozen
  | o => o
 let h1 := put w0.heap 2 #[.iface 167 (.pointer (some ⟨N, 0, none⟩))]
 let h2 := put h1 3 #[.iface 167 (.pointer (some ⟨N + 1, 0, none⟩))]
 let h3 := put h2 4 (litCells Rows.laid_math_bits_deBruijn32tab)
 let h4 := put h3 5 (litCells Rows.laid_math_bits_deBruijn64tab)
 let h5 := put h4 0 (litCells Rows.laid_internal_strconv_uint64pow10)
 { w0 with heap := h5 }
noncomputable abbrev N0 : Nat := (World.settled Tryz.prog default).heap.size
abbrev laidList : List (String × DataW Unit) := [("math/bits.deBruijn32tab", Rows.laid_math_bits_deBruijn32tab), ("math/bits.deBruijn64tab", Rows.laid_math_bits_deBruijn64tab), ("internal/strconv.uint64pow10", Rows.laid_internal_strconv_uint64pow10), ("strconv.ErrRange", Rows.laid_strconv_ErrRange), ("strconv.ErrSyntax", Rows.laid_strconv_ErrSyntax)]
set_option maxRecDepth 1000000 in
theorem laid_in (os : Os) (args : Array Value) : LaidIn Tryz.prog ((laidWorld os).forCall (fun _ _ => 0) ⟨#[], args, []⟩).memory laidList [4, 5, 0, 3, 2, N0, N0 + 1] :=
 LaidIn.of_run [4, 5, 0, 3, 2, N0, N0 + 1] 8 (by kernel_rfl) (by kernel_rfl) (by kernel_rfl) (by kernel_rfl)
theorem laid_met (os : Os) (args : Array Value) : laidMet Tryz.prog laidList ((laidWorld os).forCall (fun _ _ => 0) ⟨#[], args, []⟩).memory := (laid_in os args).met
end Go.Proofs.YtkgmempifggajaaGreatDoor.P
