/- What the statement's proof builds on: RoundA. -/
import Derived.Test.YtkgmempifggajaaGreatDoorGD12
import Derived.Test.YtkgmempifggajaaGreatDoorGD29
-- the text YtkgmempifggajaaGreatDoorRoundA
/- The tokens of a formula's canonical text. -/
namespace Go.Proofs.YtkgmempifggajaaGreatDoor.P
set_option linter.unusedVariables false
set_option linter.unusedSimpArgs false

/-- What a token says, its offset aside. -/
def say (t : Tok) : Int × List UInt8 × Int := (t.f0, t.f3.data.toList, t.f2)
end Go.Proofs.YtkgmempifggajaaGreatDoor.P
