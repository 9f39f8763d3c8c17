/- What the statement's proof builds on: LexLaw. -/
import Derived.Test.YtkgmempifggajaaGreatDoorGD11
-- the text YtkgmempifggajaaGreatDoorLexLaw
/- Laws of the lexer: a line feed behind a text parts its tokens from what follows; tokens of a text further on. -/
namespace Go.Proofs.YtkgmempifggajaaGreatDoor.P
set_option linter.unusedVariables false
set_option linter.unusedSimpArgs false

/-- A token further on. -/
def shTok (P : Nat) (t : Tok) : Tok := ⟨t.f0, t.f1 + P, t.f2, t.f3⟩
end Go.Proofs.YtkgmempifggajaaGreatDoor.P
