/-
  No cell of these rows narrows 'for every input' (looked for: loops, veiled, ifaces, maps, wideKeys, modest, calm, conditions, laid).
  DERIVED. THE GIVEN ROWS OF THIS SEAT. 8 by the template 'for every input the law returns true; each argument reads behind the call as it read before'; 0 by the template 'total and deterministic' (their statements: YtnghoibkjphfmaaGreatTotals.lean).
  GIVEN WITH THE SEED: the statements are not yours to turn. If you find one false, say at which input.
  Laid BY PROGRAM, IN A SANDBOX (cutbox-rows.mjs): the forced cells as the released guide's own fill.sh prints them over the translation 98aac92ab38c3bf7… (all of the seat's roots in one cut). By AI agents, Wed Nov 11 2026. No macro, syntax, notation, axiom, sorry.
-/
import Derived.Test.YtnghoibkjphfmaaGreatChecked
import GoSem.Claim
import GoSem.ClaimJoined
import GoSem.ClaimMapViews
import Derived.JoinedTies
import Derived.KernelRfl
namespace Go.Proofs.YtnghoibkjphfmaaGreat
/- THE CELL 'sum', in the pinned program and in every row, IS THE sha256 OF THE DUMP (.gsa) THAT YtnghoibkjphfmaaGreatProg.lean LOADS. Nothing in Lean hashes anything: it is a label: what it is worth is what the hold of that sum in a sandbox is worth. -/
noncomputable def Tryz.pinned : Pinned := { name := "ytnghoibkjphfmaagreat", sum := "98aac92ab38c3bf77900dcd30773d72626885bf9ffc26edcab6b489bf0dbf08d", checked := Tryz.checked }
namespace Rows
def none {H : Type} : Left H := { results := [], args := [] }

/-- 'quadrillelaw07.OrderPpo': WHATEVER THE INPUT: true; the input reads as it did. -/
def orderPpoSpec : ChangeSpec := { name := "orderPpo", fn := fun _ => fun
  | [d] => { results := [.lit (.bool true)], args := [d] }
  | _ => none }
def orderPpoRow : OpenClaim := { program := "ytnghoibkjphfmaagreat", sum := "98aac92ab38c3bf77900dcd30773d72626885bf9ffc26edcab6b489bf0dbf08d", func := "quadrille/quadrillelaw07.OrderPpo", spec := "orderPpo", unfollowed := true, recurses := true, apart := false }
def OrderPpoSaid : Prop := orderPpoRow.holds Tryz.pinned (OpenSpec.ofChange orderPpoSpec)

/-- ITS FALSE NEIGHBOUR: 'it returns false'. Refute it at one input. -/
def orderPpoWrong : ChangeSpec := { name := "orderPpo", fn := fun _ => fun
  | [d] => { results := [.lit (.bool false)], args := [d] }
  | _ => none }
def OrderPpoWrongFalsely : Prop := orderPpoRow.holds Tryz.pinned (OpenSpec.ofChange orderPpoWrong)

/-- 'quadrillelaw07.OrderWithin': WHATEVER THE INPUT: true; the input reads as it did. -/
def orderWithinSpec : ChangeSpec := { name := "orderWithin", fn := fun _ => fun
  | [d] => { results := [.lit (.bool true)], args := [d] }
  | _ => none }
def orderWithinRow : OpenClaim := { program := "ytnghoibkjphfmaagreat", sum := "98aac92ab38c3bf77900dcd30773d72626885bf9ffc26edcab6b489bf0dbf08d", func := "quadrille/quadrillelaw07.OrderWithin", spec := "orderWithin", unfollowed := true, recurses := true, apart := false }
def OrderWithinSaid : Prop := orderWithinRow.holds Tryz.pinned (OpenSpec.ofChange orderWithinSpec)

/-- ITS FALSE NEIGHBOUR: 'it returns false'. Refute it at one input. -/
def orderWithinWrong : ChangeSpec := { name := "orderWithin", fn := fun _ => fun
  | [d] => { results := [.lit (.bool false)], args := [d] }
  | _ => none }
def OrderWithinWrongFalsely : Prop := orderWithinRow.holds Tryz.pinned (OpenSpec.ofChange orderWithinWrong)

/-- 'quadrillelaw07.OrderFences': WHATEVER THE INPUT: true; the input reads as it did. -/
def orderFencesSpec : ChangeSpec := { name := "orderFences", fn := fun _ => fun
  | [d1, d2, d3] => { results := [.lit (.bool true)], args := [d1, d2, d3] }
  | _ => none }
def orderFencesRow : OpenClaim := { program := "ytnghoibkjphfmaagreat", sum := "98aac92ab38c3bf77900dcd30773d72626885bf9ffc26edcab6b489bf0dbf08d", func := "quadrille/quadrillelaw07.OrderFences", spec := "orderFences", unfollowed := true, recurses := true, apart := false }
def OrderFencesSaid : Prop := orderFencesRow.holds Tryz.pinned (OpenSpec.ofChange orderFencesSpec)

/-- ITS FALSE NEIGHBOUR: 'it returns false'. Refute it at one input. -/
def orderFencesWrong : ChangeSpec := { name := "orderFences", fn := fun _ => fun
  | [d1, d2, d3] => { results := [.lit (.bool false)], args := [d1, d2, d3] }
  | _ => none }
def OrderFencesWrongFalsely : Prop := orderFencesRow.holds Tryz.pinned (OpenSpec.ofChange orderFencesWrong)

/-- 'quadrillelaw07.OrderAlike': WHATEVER THE INPUT: true; the input reads as it did. -/
def orderAlikeSpec : ChangeSpec := { name := "orderAlike", fn := fun _ => fun
  | [d] => { results := [.lit (.bool true)], args := [d] }
  | _ => none }
def orderAlikeRow : OpenClaim := { program := "ytnghoibkjphfmaagreat", sum := "98aac92ab38c3bf77900dcd30773d72626885bf9ffc26edcab6b489bf0dbf08d", func := "quadrille/quadrillelaw07.OrderAlike", spec := "orderAlike", unfollowed := true, recurses := true, apart := false }
def OrderAlikeSaid : Prop := orderAlikeRow.holds Tryz.pinned (OpenSpec.ofChange orderAlikeSpec)

/-- ITS FALSE NEIGHBOUR: 'it returns false'. Refute it at one input. -/
def orderAlikeWrong : ChangeSpec := { name := "orderAlike", fn := fun _ => fun
  | [d] => { results := [.lit (.bool false)], args := [d] }
  | _ => none }
def OrderAlikeWrongFalsely : Prop := orderAlikeRow.holds Tryz.pinned (OpenSpec.ofChange orderAlikeWrong)

/-- 'quadrillelaw07.OrderPaired': WHATEVER THE INPUT: true; the input reads as it did. -/
def orderPairedSpec : ChangeSpec := { name := "orderPaired", fn := fun _ => fun
  | [d1, d2] => { results := [.lit (.bool true)], args := [d1, d2] }
  | _ => none }
def orderPairedRow : OpenClaim := { program := "ytnghoibkjphfmaagreat", sum := "98aac92ab38c3bf77900dcd30773d72626885bf9ffc26edcab6b489bf0dbf08d", func := "quadrille/quadrillelaw07.OrderPaired", spec := "orderPaired", unfollowed := true, recurses := true, apart := false }
def OrderPairedSaid : Prop := orderPairedRow.holds Tryz.pinned (OpenSpec.ofChange orderPairedSpec)

/-- ITS FALSE NEIGHBOUR: 'it returns false'. Refute it at one input. -/
def orderPairedWrong : ChangeSpec := { name := "orderPaired", fn := fun _ => fun
  | [d1, d2] => { results := [.lit (.bool false)], args := [d1, d2] }
  | _ => none }
def OrderPairedWrongFalsely : Prop := orderPairedRow.holds Tryz.pinned (OpenSpec.ofChange orderPairedWrong)

/-- 'quadrillelaw07.OrderReserves': WHATEVER THE INPUT: true; the input reads as it did. -/
def orderReservesSpec : ChangeSpec := { name := "orderReserves", fn := fun _ => fun
  | [d] => { results := [.lit (.bool true)], args := [d] }
  | _ => none }
def orderReservesRow : OpenClaim := { program := "ytnghoibkjphfmaagreat", sum := "98aac92ab38c3bf77900dcd30773d72626885bf9ffc26edcab6b489bf0dbf08d", func := "quadrille/quadrillelaw07.OrderReserves", spec := "orderReserves", unfollowed := true, recurses := true, apart := false }
def OrderReservesSaid : Prop := orderReservesRow.holds Tryz.pinned (OpenSpec.ofChange orderReservesSpec)

/-- ITS FALSE NEIGHBOUR: 'it returns false'. Refute it at one input. -/
def orderReservesWrong : ChangeSpec := { name := "orderReserves", fn := fun _ => fun
  | [d] => { results := [.lit (.bool false)], args := [d] }
  | _ => none }
def OrderReservesWrongFalsely : Prop := orderReservesRow.holds Tryz.pinned (OpenSpec.ofChange orderReservesWrong)

/-- 'quadrillelaw07.OrderRules': WHATEVER THE INPUT: true; the input reads as it did. -/
def orderRulesSpec : ChangeSpec := { name := "orderRules", fn := fun _ => fun
  | [d] => { results := [.lit (.bool true)], args := [d] }
  | _ => none }
def orderRulesRow : OpenClaim := { program := "ytnghoibkjphfmaagreat", sum := "98aac92ab38c3bf77900dcd30773d72626885bf9ffc26edcab6b489bf0dbf08d", func := "quadrille/quadrillelaw07.OrderRules", spec := "orderRules", unfollowed := true, recurses := true, apart := false }
def OrderRulesSaid : Prop := orderRulesRow.holds Tryz.pinned (OpenSpec.ofChange orderRulesSpec)

/-- ITS FALSE NEIGHBOUR: 'it returns false'. Refute it at one input. -/
def orderRulesWrong : ChangeSpec := { name := "orderRules", fn := fun _ => fun
  | [d] => { results := [.lit (.bool false)], args := [d] }
  | _ => none }
def OrderRulesWrongFalsely : Prop := orderRulesRow.holds Tryz.pinned (OpenSpec.ofChange orderRulesWrong)

/-- 'quadrillelaw07.OrderRule': WHATEVER THE INPUT: true; the input reads as it did. -/
def orderRuleSpec : ChangeSpec := { name := "orderRule", fn := fun _ => fun
  | [d1, d2, d3] => { results := [.lit (.bool true)], args := [d1, d2, d3] }
  | _ => none }
def orderRuleRow : OpenClaim := { program := "ytnghoibkjphfmaagreat", sum := "98aac92ab38c3bf77900dcd30773d72626885bf9ffc26edcab6b489bf0dbf08d", func := "quadrille/quadrillelaw07.OrderRule", spec := "orderRule", unfollowed := true, recurses := true, apart := false }
def OrderRuleSaid : Prop := orderRuleRow.holds Tryz.pinned (OpenSpec.ofChange orderRuleSpec)

/-- ITS FALSE NEIGHBOUR: 'it returns false'. Refute it at one input. -/
def orderRuleWrong : ChangeSpec := { name := "orderRule", fn := fun _ => fun
  | [d1, d2, d3] => { results := [.lit (.bool false)], args := [d1, d2, d3] }
  | _ => none }
def OrderRuleWrongFalsely : Prop := orderRuleRow.holds Tryz.pinned (OpenSpec.ofChange orderRuleWrong)

/- THE SECOND FORM. 'bulk': how many values and letters a reading holds, each counted each time it is reached (what is shared counts as often as it is met; a slice's spare places count too). A statement '..UptoSaid' is the law's where the arguments, and the package variables that the reading takes, are together of bulk at most 1048576: NARROWER than '..Said'. Prove '..Said' where nothing that the law and all that it calls make is longer than what came in: it says more and counts as full. Else prove '..UptoSaid'. A law counts once. -/
mutual
def uptoBulk {H : Type} : DataW H → Nat
  | .lit (.string bytes) => bytes.length + 1
  | .lit _ => 1
  | .nil => 1
  | .ptr d => uptoBulk d + 1
  | .slice elems spare => uptoBulkAll elems + uptoBulkAll spare + 1
  | .agg parts => uptoBulkAll parts + 1
  | .iface _ d => uptoBulk d + 1
  | .map entries => uptoBulkEntries entries + 1
  | .held _ => 1
def uptoBulkAll {H : Type} : List (DataW H) → Nat
  | [] => 0
  | d :: r => uptoBulk d + uptoBulkAll r
def uptoBulkEntries {H : Type} : List (Lit × DataW H) → Nat
  | [] => 0
  | x :: r => uptoBulkEntry x + uptoBulkEntries r
def uptoBulkEntry {H : Type} : Lit × DataW H → Nat
  | (.string bytes, d) => bytes.length + uptoBulk d + 1
  | (_, d) => uptoBulk d + 1
 end
def uptoSmall : (H : Type) → List (DataW H) → Bool := fun _ ds => decide (uptoBulkAll ds ≤ 1048576)
def OpenSpec.upto (s : _root_.Go.ChangeSpec) : _root_.Go.OpenSpec := { _root_.Go.OpenSpec.ofChange s with cond := some uptoSmall }

/-- 'quadrillelaw07.OrderPpo', WHERE WHAT IT READS IS OF BULK AT MOST 1048576: true; the input reads as it did. -/
def orderPpoUptoRow : OpenClaim := { program := "ytnghoibkjphfmaagreat", sum := "98aac92ab38c3bf77900dcd30773d72626885bf9ffc26edcab6b489bf0dbf08d", func := "quadrille/quadrillelaw07.OrderPpo", spec := "orderPpo", unfollowed := true, recurses := true, apart := false, narrowed := true }
def OrderPpoUptoSaid : Prop := orderPpoUptoRow.holds Tryz.pinned (OpenSpec.upto orderPpoSpec)

/-- 'quadrillelaw07.OrderWithin', WHERE WHAT IT READS IS OF BULK AT MOST 1048576: true; the input reads as it did. -/
def orderWithinUptoRow : OpenClaim := { program := "ytnghoibkjphfmaagreat", sum := "98aac92ab38c3bf77900dcd30773d72626885bf9ffc26edcab6b489bf0dbf08d", func := "quadrille/quadrillelaw07.OrderWithin", spec := "orderWithin", unfollowed := true, recurses := true, apart := false, narrowed := true }
def OrderWithinUptoSaid : Prop := orderWithinUptoRow.holds Tryz.pinned (OpenSpec.upto orderWithinSpec)

/-- 'quadrillelaw07.OrderFences', WHERE WHAT IT READS IS OF BULK AT MOST 1048576: true; the input reads as it did. -/
def orderFencesUptoRow : OpenClaim := { program := "ytnghoibkjphfmaagreat", sum := "98aac92ab38c3bf77900dcd30773d72626885bf9ffc26edcab6b489bf0dbf08d", func := "quadrille/quadrillelaw07.OrderFences", spec := "orderFences", unfollowed := true, recurses := true, apart := false, narrowed := true }
def OrderFencesUptoSaid : Prop := orderFencesUptoRow.holds Tryz.pinned (OpenSpec.upto orderFencesSpec)

/-- 'quadrillelaw07.OrderAlike', WHERE WHAT IT READS IS OF BULK AT MOST 1048576: true; the input reads as it did. -/
def orderAlikeUptoRow : OpenClaim := { program := "ytnghoibkjphfmaagreat", sum := "98aac92ab38c3bf77900dcd30773d72626885bf9ffc26edcab6b489bf0dbf08d", func := "quadrille/quadrillelaw07.OrderAlike", spec := "orderAlike", unfollowed := true, recurses := true, apart := false, narrowed := true }
def OrderAlikeUptoSaid : Prop := orderAlikeUptoRow.holds Tryz.pinned (OpenSpec.upto orderAlikeSpec)

/-- 'quadrillelaw07.OrderPaired', WHERE WHAT IT READS IS OF BULK AT MOST 1048576: true; the input reads as it did. -/
def orderPairedUptoRow : OpenClaim := { program := "ytnghoibkjphfmaagreat", sum := "98aac92ab38c3bf77900dcd30773d72626885bf9ffc26edcab6b489bf0dbf08d", func := "quadrille/quadrillelaw07.OrderPaired", spec := "orderPaired", unfollowed := true, recurses := true, apart := false, narrowed := true }
def OrderPairedUptoSaid : Prop := orderPairedUptoRow.holds Tryz.pinned (OpenSpec.upto orderPairedSpec)

/-- 'quadrillelaw07.OrderReserves', WHERE WHAT IT READS IS OF BULK AT MOST 1048576: true; the input reads as it did. -/
def orderReservesUptoRow : OpenClaim := { program := "ytnghoibkjphfmaagreat", sum := "98aac92ab38c3bf77900dcd30773d72626885bf9ffc26edcab6b489bf0dbf08d", func := "quadrille/quadrillelaw07.OrderReserves", spec := "orderReserves", unfollowed := true, recurses := true, apart := false, narrowed := true }
def OrderReservesUptoSaid : Prop := orderReservesUptoRow.holds Tryz.pinned (OpenSpec.upto orderReservesSpec)

/-- 'quadrillelaw07.OrderRules', WHERE WHAT IT READS IS OF BULK AT MOST 1048576: true; the input reads as it did. -/
def orderRulesUptoRow : OpenClaim := { program := "ytnghoibkjphfmaagreat", sum := "98aac92ab38c3bf77900dcd30773d72626885bf9ffc26edcab6b489bf0dbf08d", func := "quadrille/quadrillelaw07.OrderRules", spec := "orderRules", unfollowed := true, recurses := true, apart := false, narrowed := true }
def OrderRulesUptoSaid : Prop := orderRulesUptoRow.holds Tryz.pinned (OpenSpec.upto orderRulesSpec)

/-- 'quadrillelaw07.OrderRule', WHERE WHAT IT READS IS OF BULK AT MOST 1048576: true; the input reads as it did. -/
def orderRuleUptoRow : OpenClaim := { program := "ytnghoibkjphfmaagreat", sum := "98aac92ab38c3bf77900dcd30773d72626885bf9ffc26edcab6b489bf0dbf08d", func := "quadrille/quadrillelaw07.OrderRule", spec := "orderRule", unfollowed := true, recurses := true, apart := false, narrowed := true }
def OrderRuleUptoSaid : Prop := orderRuleUptoRow.holds Tryz.pinned (OpenSpec.upto orderRuleSpec)

end Rows
end Go.Proofs.YtnghoibkjphfmaaGreat
