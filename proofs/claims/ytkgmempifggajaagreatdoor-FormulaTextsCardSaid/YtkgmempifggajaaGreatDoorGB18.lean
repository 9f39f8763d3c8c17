/- What the statement's proof builds on: NamedLaw. -/
import Derived.Test.YtkgmempifggajaaGreatDoorGB11
-- the text YtkgmempifggajaaGreatDoorNamedLaw
/- The facts that a formula names; what a formula says depends on them alone. -/
namespace Go.Proofs.YtkgmempifggajaaGreatDoor.P
set_option linter.unusedVariables false
set_option linter.unusedSimpArgs false
theorem toList_inj {a b : ByteArray} (h : a.toList = b.toList) : a = b := by
  rw [toList_data, toList_data] at h
  cases a with
  | mk a =>
    cases b with
    | mk b =>
      congr
      exact Array.toList_inj.1 h
end Go.Proofs.YtkgmempifggajaaGreatDoor.P
