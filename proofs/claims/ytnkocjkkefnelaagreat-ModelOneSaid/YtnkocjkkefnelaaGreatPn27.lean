/- Parts. -/
import Derived.Test.YtnkocjkkefnelaaGreatPn6
import Derived.Test.YtnkocjkkefnelaaGreatPn8
import Derived.Test.YtnkocjkkefnelaaGreatPn26
set_option linter.unusedVariables false
set_option linter.unusedSimpArgs false
set_option maxHeartbeats 4000000
set_option maxHeartbeats 4000000
set_option maxRecDepth 100000
namespace Go.Proofs.YtnkocjkkefnelaaGreat
open Go.RowKit
def hitR (x : Ex) (r : Int) (a b n : Nat) : Bool := decide (r = 4) && hit4 x a b n || (decide (r = 12) && (x.evs.getD b default).ldB && hit12 x a b n) || (decide (r = 13) && (x.evs.getD b default).stB && hit13 x a n)
def clrB (x : Ex) (a n : Nat) : Bool := (x.evs.getD n default).stB && decide ((x.evs.getD n default).addr = (x.evs.getD a default).addr)
end Go.Proofs.YtnkocjkkefnelaaGreat
