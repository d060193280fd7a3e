/- known() of the laws of layer 6, in plain data. -/
import Derived.Test.YtgeaaegkcbjhlaaBr
import Derived.Test.YtgeaaegkcbjhlaaKnown
set_option maxRecDepth 100000
set_option linter.unusedVariables false
namespace Go.Proofs.Ytgeaaegkcbjhlaa
open Go.RowKit
theorem known_p : Pure E.P 10 [] (.bool true) :=
  pure_of ⟨_, Try.func10, by decide, rfl⟩ rfl fun G w vs hr _ => by
    rw [RepOL] at hr; subst hr; exact known_c w
end Go.Proofs.Ytgeaaegkcbjhlaa
