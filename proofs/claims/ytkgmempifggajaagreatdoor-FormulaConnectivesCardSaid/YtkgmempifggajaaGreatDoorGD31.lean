/- What the statement's proof builds on: SimLaw. -/
import Derived.Test.YtkgmempifggajaaGreatDoorGD14
import Derived.Test.YtkgmempifggajaaGreatDoorGD29
-- the text YtkgmempifggajaaGreatDoorSimLaw
/- The parser at a text and at the text in parentheses: it goes the same steps. -/
namespace Go.Proofs.YtkgmempifggajaaGreatDoor.P
set_option linter.unusedVariables false
set_option linter.unusedSimpArgs false

/-- An offset. -/
def Pos (z : Int) : Prop := 0 ≤ z ∧ z ≤ 9000000000000000000
/-- Both parsers run: the second one has the same tokens, further on, and a last one. -/
structure Run (P : Nat) (cl : Tok) (s s' : PS) : Prop where
  e : s.err = 0
  e' : s'.err = 0
  t : s'.toks = s.toks.map (shTok P) ++ [cl]
  pos : ∀ t ∈ s.toks, Pos t.f1
end Go.Proofs.YtkgmempifggajaaGreatDoor.P
