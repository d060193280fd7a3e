/-
  No cell of these rows narrows 'for every input' (looked for: loops, veiled, ifaces, maps, wideKeys, modest, calm, conditions, laid).
  DERIVED. THE GIVEN ROWS OF THIS SEAT. 8 by the template 'for every input the law returns true; each argument reads behind the call as it read before'; 0 by the template 'total and deterministic' (their statements: YtnkocjkkefnelaaGreatTotals.lean).
  GIVEN WITH THE SEED: the statements are not yours to turn. If you find one false, say at which input.
  Laid BY PROGRAM, IN A SANDBOX (cutbox-rows.mjs): the forced cells as the released guide's own fill.sh prints them over the translation 5d6b3e96fb5d4712… (all of the seat's roots in one cut). By AI agents, Wed Nov 11 2026. No macro, syntax, notation, axiom, sorry.
-/
import Derived.Test.YtnkocjkkefnelaaGreatChecked
import GoSem.Claim
import GoSem.ClaimJoined
import GoSem.ClaimMapViews
import Derived.JoinedTies
import Derived.KernelRfl
namespace Go.Proofs.YtnkocjkkefnelaaGreat
/- THE CELL 'sum', in the pinned program and in every row, IS THE sha256 OF THE DUMP (.gsa) THAT YtnkocjkkefnelaaGreatProg.lean LOADS. Nothing in Lean hashes anything: it is a label: what it is worth is what the hold of that sum in a sandbox is worth. -/
noncomputable def Tryz.pinned : Pinned := { name := "ytnkocjkkefnelaagreat", sum := "5d6b3e96fb5d47121b6668a09e36182ea37f327d9072e6675743e8f17c460610", checked := Tryz.checked }
namespace Rows
def none {H : Type} : Left H := { results := [], args := [] }

/-- 'quadrillelaw08.ModelAxioms': WHATEVER THE INPUT: true; the input reads as it did. -/
def modelAxiomsSpec : ChangeSpec := { name := "modelAxioms", fn := fun _ => fun
  | [d] => { results := [.lit (.bool true)], args := [d] }
  | _ => none }
def modelAxiomsRow : OpenClaim := { program := "ytnkocjkkefnelaagreat", sum := "5d6b3e96fb5d47121b6668a09e36182ea37f327d9072e6675743e8f17c460610", func := "quadrille/quadrillelaw08.ModelAxioms", spec := "modelAxioms", unfollowed := true, recurses := true, plainKeys := false, apart := false }
def ModelAxiomsSaid : Prop := modelAxiomsRow.holds Tryz.pinned (OpenSpec.ofChange modelAxiomsSpec)

/-- ITS FALSE NEIGHBOUR: 'it returns false'. Refute it at one input. -/
def modelAxiomsWrong : ChangeSpec := { name := "modelAxioms", fn := fun _ => fun
  | [d] => { results := [.lit (.bool false)], args := [d] }
  | _ => none }
def ModelAxiomsWrongFalsely : Prop := modelAxiomsRow.holds Tryz.pinned (OpenSpec.ofChange modelAxiomsWrong)

/-- 'quadrillelaw08.ModelJudge': WHATEVER THE INPUT: true; the input reads as it did. -/
def modelJudgeSpec : ChangeSpec := { name := "modelJudge", fn := fun _ => fun
  | [d] => { results := [.lit (.bool true)], args := [d] }
  | _ => none }
def modelJudgeRow : OpenClaim := { program := "ytnkocjkkefnelaagreat", sum := "5d6b3e96fb5d47121b6668a09e36182ea37f327d9072e6675743e8f17c460610", func := "quadrille/quadrillelaw08.ModelJudge", spec := "modelJudge", unfollowed := true, recurses := true, plainKeys := false, apart := false }
def ModelJudgeSaid : Prop := modelJudgeRow.holds Tryz.pinned (OpenSpec.ofChange modelJudgeSpec)

/-- ITS FALSE NEIGHBOUR: 'it returns false'. Refute it at one input. -/
def modelJudgeWrong : ChangeSpec := { name := "modelJudge", fn := fun _ => fun
  | [d] => { results := [.lit (.bool false)], args := [d] }
  | _ => none }
def ModelJudgeWrongFalsely : Prop := modelJudgeRow.holds Tryz.pinned (OpenSpec.ofChange modelJudgeWrong)

/-- 'quadrillelaw08.ModelLess': WHATEVER THE INPUT: true; the input reads as it did. -/
def modelLessSpec : ChangeSpec := { name := "modelLess", fn := fun _ => fun
  | [d1, d2] => { results := [.lit (.bool true)], args := [d1, d2] }
  | _ => none }
def modelLessRow : OpenClaim := { program := "ytnkocjkkefnelaagreat", sum := "5d6b3e96fb5d47121b6668a09e36182ea37f327d9072e6675743e8f17c460610", func := "quadrille/quadrillelaw08.ModelLess", spec := "modelLess", unfollowed := true, recurses := true, plainKeys := false, apart := false }
def ModelLessSaid : Prop := modelLessRow.holds Tryz.pinned (OpenSpec.ofChange modelLessSpec)

/-- ITS FALSE NEIGHBOUR: 'it returns false'. Refute it at one input. -/
def modelLessWrong : ChangeSpec := { name := "modelLess", fn := fun _ => fun
  | [d1, d2] => { results := [.lit (.bool false)], args := [d1, d2] }
  | _ => none }
def ModelLessWrongFalsely : Prop := modelLessRow.holds Tryz.pinned (OpenSpec.ofChange modelLessWrong)

/-- 'quadrillelaw08.ModelOne': WHATEVER THE INPUT: true; the input reads as it did. -/
def modelOneSpec : ChangeSpec := { name := "modelOne", fn := fun _ => fun
  | [d] => { results := [.lit (.bool true)], args := [d] }
  | _ => none }
def modelOneRow : OpenClaim := { program := "ytnkocjkkefnelaagreat", sum := "5d6b3e96fb5d47121b6668a09e36182ea37f327d9072e6675743e8f17c460610", func := "quadrille/quadrillelaw08.ModelOne", spec := "modelOne", unfollowed := true, recurses := true, plainKeys := false, apart := false }
def ModelOneSaid : Prop := modelOneRow.holds Tryz.pinned (OpenSpec.ofChange modelOneSpec)

/-- ITS FALSE NEIGHBOUR: 'it returns false'. Refute it at one input. -/
def modelOneWrong : ChangeSpec := { name := "modelOne", fn := fun _ => fun
  | [d] => { results := [.lit (.bool false)], args := [d] }
  | _ => none }
def ModelOneWrongFalsely : Prop := modelOneRow.holds Tryz.pinned (OpenSpec.ofChange modelOneWrong)

/-- 'quadrillelaw08.ModelShapes': WHATEVER THE INPUT: true; the input reads as it did. -/
def modelShapesSpec : ChangeSpec := { name := "modelShapes", fn := fun _ => fun
  | [d1, d2, d3] => { results := [.lit (.bool true)], args := [d1, d2, d3] }
  | _ => none }
def modelShapesRow : OpenClaim := { program := "ytnkocjkkefnelaagreat", sum := "5d6b3e96fb5d47121b6668a09e36182ea37f327d9072e6675743e8f17c460610", func := "quadrille/quadrillelaw08.ModelShapes", spec := "modelShapes", unfollowed := true, recurses := true, plainKeys := false, apart := false }
def ModelShapesSaid : Prop := modelShapesRow.holds Tryz.pinned (OpenSpec.ofChange modelShapesSpec)

/-- ITS FALSE NEIGHBOUR: 'it returns false'. Refute it at one input. -/
def modelShapesWrong : ChangeSpec := { name := "modelShapes", fn := fun _ => fun
  | [d1, d2, d3] => { results := [.lit (.bool false)], args := [d1, d2, d3] }
  | _ => none }
def ModelShapesWrongFalsely : Prop := modelShapesRow.holds Tryz.pinned (OpenSpec.ofChange modelShapesWrong)

/-- 'quadrillelaw08.ModelPairs': WHATEVER THE INPUT: true; the input reads as it did. -/
def modelPairsSpec : ChangeSpec := { name := "modelPairs", fn := fun _ => fun
  | [d1, d2, d3] => { results := [.lit (.bool true)], args := [d1, d2, d3] }
  | _ => none }
def modelPairsRow : OpenClaim := { program := "ytnkocjkkefnelaagreat", sum := "5d6b3e96fb5d47121b6668a09e36182ea37f327d9072e6675743e8f17c460610", func := "quadrille/quadrillelaw08.ModelPairs", spec := "modelPairs", unfollowed := true, recurses := true, plainKeys := false, apart := false }
def ModelPairsSaid : Prop := modelPairsRow.holds Tryz.pinned (OpenSpec.ofChange modelPairsSpec)

/-- ITS FALSE NEIGHBOUR: 'it returns false'. Refute it at one input. -/
def modelPairsWrong : ChangeSpec := { name := "modelPairs", fn := fun _ => fun
  | [d1, d2, d3] => { results := [.lit (.bool false)], args := [d1, d2, d3] }
  | _ => none }
def ModelPairsWrongFalsely : Prop := modelPairsRow.holds Tryz.pinned (OpenSpec.ofChange modelPairsWrong)

/-- 'quadrillelaw08.ModelArrows': WHATEVER THE INPUT: true; the input reads as it did. -/
def modelArrowsSpec : ChangeSpec := { name := "modelArrows", fn := fun _ => fun
  | [d] => { results := [.lit (.bool true)], args := [d] }
  | _ => none }
def modelArrowsRow : OpenClaim := { program := "ytnkocjkkefnelaagreat", sum := "5d6b3e96fb5d47121b6668a09e36182ea37f327d9072e6675743e8f17c460610", func := "quadrille/quadrillelaw08.ModelArrows", spec := "modelArrows", unfollowed := true, recurses := true, plainKeys := false, apart := false }
def ModelArrowsSaid : Prop := modelArrowsRow.holds Tryz.pinned (OpenSpec.ofChange modelArrowsSpec)

/-- ITS FALSE NEIGHBOUR: 'it returns false'. Refute it at one input. -/
def modelArrowsWrong : ChangeSpec := { name := "modelArrows", fn := fun _ => fun
  | [d] => { results := [.lit (.bool false)], args := [d] }
  | _ => none }
def ModelArrowsWrongFalsely : Prop := modelArrowsRow.holds Tryz.pinned (OpenSpec.ofChange modelArrowsWrong)

/-- 'quadrillelaw08.ModelGlobal': WHATEVER THE INPUT: true; the input reads as it did. -/
def modelGlobalSpec : ChangeSpec := { name := "modelGlobal", fn := fun _ => fun
  | [d] => { results := [.lit (.bool true)], args := [d] }
  | _ => none }
def modelGlobalRow : OpenClaim := { program := "ytnkocjkkefnelaagreat", sum := "5d6b3e96fb5d47121b6668a09e36182ea37f327d9072e6675743e8f17c460610", func := "quadrille/quadrillelaw08.ModelGlobal", spec := "modelGlobal", unfollowed := true, recurses := true, plainKeys := false, apart := false }
def ModelGlobalSaid : Prop := modelGlobalRow.holds Tryz.pinned (OpenSpec.ofChange modelGlobalSpec)

/-- ITS FALSE NEIGHBOUR: 'it returns false'. Refute it at one input. -/
def modelGlobalWrong : ChangeSpec := { name := "modelGlobal", fn := fun _ => fun
  | [d] => { results := [.lit (.bool false)], args := [d] }
  | _ => none }
def ModelGlobalWrongFalsely : Prop := modelGlobalRow.holds Tryz.pinned (OpenSpec.ofChange modelGlobalWrong)

/- THE SECOND FORM. 'bulk': how many values and letters a reading holds, each counted each time it is reached (what is shared counts as often as it is met; a slice's spare places count too). A statement '..UptoSaid' is the law's where the arguments, and the package variables that the reading takes, are together of bulk at most 1048576: NARROWER than '..Said'. Prove '..Said' where nothing that the law and all that it calls make is longer than what came in: it says more and counts as full. Else prove '..UptoSaid'. A law counts once. -/
mutual
def uptoBulk {H : Type} : DataW H → Nat
  | .lit (.string bytes) => bytes.length + 1
  | .lit _ => 1
  | .nil => 1
  | .ptr d => uptoBulk d + 1
  | .slice elems spare => uptoBulkAll elems + uptoBulkAll spare + 1
  | .agg parts => uptoBulkAll parts + 1
  | .iface _ d => uptoBulk d + 1
  | .map entries => uptoBulkEntries entries + 1
  | .held _ => 1
def uptoBulkAll {H : Type} : List (DataW H) → Nat
  | [] => 0
  | d :: r => uptoBulk d + uptoBulkAll r
def uptoBulkEntries {H : Type} : List (Lit × DataW H) → Nat
  | [] => 0
  | x :: r => uptoBulkEntry x + uptoBulkEntries r
def uptoBulkEntry {H : Type} : Lit × DataW H → Nat
  | (.string bytes, d) => bytes.length + uptoBulk d + 1
  | (_, d) => uptoBulk d + 1
 end
def uptoSmall : (H : Type) → List (DataW H) → Bool := fun _ ds => decide (uptoBulkAll ds ≤ 1048576)
def OpenSpec.upto (s : _root_.Go.ChangeSpec) : _root_.Go.OpenSpec := { _root_.Go.OpenSpec.ofChange s with cond := some uptoSmall }

/-- 'quadrillelaw08.ModelAxioms', WHERE WHAT IT READS IS OF BULK AT MOST 1048576: true; the input reads as it did. -/
def modelAxiomsUptoRow : OpenClaim := { program := "ytnkocjkkefnelaagreat", sum := "5d6b3e96fb5d47121b6668a09e36182ea37f327d9072e6675743e8f17c460610", func := "quadrille/quadrillelaw08.ModelAxioms", spec := "modelAxioms", unfollowed := true, recurses := true, plainKeys := false, apart := false, narrowed := true }
def ModelAxiomsUptoSaid : Prop := modelAxiomsUptoRow.holds Tryz.pinned (OpenSpec.upto modelAxiomsSpec)

/-- 'quadrillelaw08.ModelJudge', WHERE WHAT IT READS IS OF BULK AT MOST 1048576: true; the input reads as it did. -/
def modelJudgeUptoRow : OpenClaim := { program := "ytnkocjkkefnelaagreat", sum := "5d6b3e96fb5d47121b6668a09e36182ea37f327d9072e6675743e8f17c460610", func := "quadrille/quadrillelaw08.ModelJudge", spec := "modelJudge", unfollowed := true, recurses := true, plainKeys := false, apart := false, narrowed := true }
def ModelJudgeUptoSaid : Prop := modelJudgeUptoRow.holds Tryz.pinned (OpenSpec.upto modelJudgeSpec)

/-- 'quadrillelaw08.ModelLess', WHERE WHAT IT READS IS OF BULK AT MOST 1048576: true; the input reads as it did. -/
def modelLessUptoRow : OpenClaim := { program := "ytnkocjkkefnelaagreat", sum := "5d6b3e96fb5d47121b6668a09e36182ea37f327d9072e6675743e8f17c460610", func := "quadrille/quadrillelaw08.ModelLess", spec := "modelLess", unfollowed := true, recurses := true, plainKeys := false, apart := false, narrowed := true }
def ModelLessUptoSaid : Prop := modelLessUptoRow.holds Tryz.pinned (OpenSpec.upto modelLessSpec)

/-- 'quadrillelaw08.ModelOne', WHERE WHAT IT READS IS OF BULK AT MOST 1048576: true; the input reads as it did. -/
def modelOneUptoRow : OpenClaim := { program := "ytnkocjkkefnelaagreat", sum := "5d6b3e96fb5d47121b6668a09e36182ea37f327d9072e6675743e8f17c460610", func := "quadrille/quadrillelaw08.ModelOne", spec := "modelOne", unfollowed := true, recurses := true, plainKeys := false, apart := false, narrowed := true }
def ModelOneUptoSaid : Prop := modelOneUptoRow.holds Tryz.pinned (OpenSpec.upto modelOneSpec)

/-- 'quadrillelaw08.ModelShapes', WHERE WHAT IT READS IS OF BULK AT MOST 1048576: true; the input reads as it did. -/
def modelShapesUptoRow : OpenClaim := { program := "ytnkocjkkefnelaagreat", sum := "5d6b3e96fb5d47121b6668a09e36182ea37f327d9072e6675743e8f17c460610", func := "quadrille/quadrillelaw08.ModelShapes", spec := "modelShapes", unfollowed := true, recurses := true, plainKeys := false, apart := false, narrowed := true }
def ModelShapesUptoSaid : Prop := modelShapesUptoRow.holds Tryz.pinned (OpenSpec.upto modelShapesSpec)

/-- 'quadrillelaw08.ModelPairs', WHERE WHAT IT READS IS OF BULK AT MOST 1048576: true; the input reads as it did. -/
def modelPairsUptoRow : OpenClaim := { program := "ytnkocjkkefnelaagreat", sum := "5d6b3e96fb5d47121b6668a09e36182ea37f327d9072e6675743e8f17c460610", func := "quadrille/quadrillelaw08.ModelPairs", spec := "modelPairs", unfollowed := true, recurses := true, plainKeys := false, apart := false, narrowed := true }
def ModelPairsUptoSaid : Prop := modelPairsUptoRow.holds Tryz.pinned (OpenSpec.upto modelPairsSpec)

/-- 'quadrillelaw08.ModelArrows', WHERE WHAT IT READS IS OF BULK AT MOST 1048576: true; the input reads as it did. -/
def modelArrowsUptoRow : OpenClaim := { program := "ytnkocjkkefnelaagreat", sum := "5d6b3e96fb5d47121b6668a09e36182ea37f327d9072e6675743e8f17c460610", func := "quadrille/quadrillelaw08.ModelArrows", spec := "modelArrows", unfollowed := true, recurses := true, plainKeys := false, apart := false, narrowed := true }
def ModelArrowsUptoSaid : Prop := modelArrowsUptoRow.holds Tryz.pinned (OpenSpec.upto modelArrowsSpec)

/-- 'quadrillelaw08.ModelGlobal', WHERE WHAT IT READS IS OF BULK AT MOST 1048576: true; the input reads as it did. -/
def modelGlobalUptoRow : OpenClaim := { program := "ytnkocjkkefnelaagreat", sum := "5d6b3e96fb5d47121b6668a09e36182ea37f327d9072e6675743e8f17c460610", func := "quadrille/quadrillelaw08.ModelGlobal", spec := "modelGlobal", unfollowed := true, recurses := true, plainKeys := false, apart := false, narrowed := true }
def ModelGlobalUptoSaid : Prop := modelGlobalUptoRow.holds Tryz.pinned (OpenSpec.upto modelGlobalSpec)

end Rows
end Go.Proofs.YtnkocjkkefnelaaGreat
