/-
  No cell of these rows narrows 'for every input' (looked for: loops, veiled, ifaces, maps, wideKeys, modest, calm, conditions, laid).
  DERIVED. THE GIVEN ROWS OF THIS SEAT. 6 by the template 'for every input the law returns true; each argument reads behind the call as it read before'; 0 by the template 'total and deterministic' (their statements: YtdhfakajlnidiaaTotals.lean).
  GIVEN WITH THE SEED: the statements are not yours to turn. If you find one false, say at which input.
  Laid BY PROGRAM, IN A SANDBOX (cutbox-rows.mjs): the forced cells as the released guide's own fill.sh prints them over the translation 2c23096aec03b7ac… (all of the seat's roots in one cut). By AI agents, Wed Nov 11 2026. No macro, syntax, notation, axiom, sorry.
-/
import Derived.Test.YtdhfakajlnidiaaChecked
import GoSem.Claim
import GoSem.ClaimJoined
import GoSem.ClaimMapViews
import Derived.JoinedTies
import Derived.KernelRfl
namespace Go.Proofs.Ytdhfakajlnidiaa
/- THE CELL 'sum', in the pinned program and in every row, IS THE sha256 OF THE DUMP (.gsa) THAT YtdhfakajlnidiaaProg.lean LOADS. Nothing in Lean hashes anything: it is a label: what it is worth is what the hold of that sum in a sandbox is worth. -/
noncomputable def Try.pinned : Pinned := { name := "ytdhfakajlnidiaa", sum := "2c23096aec03b7acd1bc3d5f9d9c5b69059297e400638fdca790b67c64140a7f", checked := Try.checked }
namespace Rows
def none {H : Type} : Left H := { results := [], args := [] }

/-- 'testamurlaw14.RulesCycleSpec': WHATEVER THE INPUT: true; the input reads as it did. -/
def rulesCycleSpecSpec : ChangeSpec := { name := "rulesCycleSpec", fn := fun _ => fun
  | [d1, d2] => { results := [.lit (.bool true)], args := [d1, d2] }
  | _ => none }
def rulesCycleSpecRow : OpenClaim := { program := "ytdhfakajlnidiaa", sum := "2c23096aec03b7acd1bc3d5f9d9c5b69059297e400638fdca790b67c64140a7f", func := "testamur/testamurlaw14.RulesCycleSpec", spec := "rulesCycleSpec", unfollowed := true, recurses := true, apart := false }
def RulesCycleSpecSaid : Prop := rulesCycleSpecRow.holds Try.pinned (OpenSpec.ofChange rulesCycleSpecSpec)

/-- ITS FALSE NEIGHBOUR: 'it returns false'. Refute it at one input. -/
def rulesCycleSpecWrong : ChangeSpec := { name := "rulesCycleSpec", fn := fun _ => fun
  | [d1, d2] => { results := [.lit (.bool false)], args := [d1, d2] }
  | _ => none }
def RulesCycleSpecWrongFalsely : Prop := rulesCycleSpecRow.holds Try.pinned (OpenSpec.ofChange rulesCycleSpecWrong)

/-- 'testamurlaw14.RulesEnd': WHATEVER THE INPUT: true; the input reads as it did. -/
def rulesEndSpec : ChangeSpec := { name := "rulesEnd", fn := fun _ => fun
  | [d] => { results := [.lit (.bool true)], args := [d] }
  | _ => none }
def rulesEndRow : OpenClaim := { program := "ytdhfakajlnidiaa", sum := "2c23096aec03b7acd1bc3d5f9d9c5b69059297e400638fdca790b67c64140a7f", func := "testamur/testamurlaw14.RulesEnd", spec := "rulesEnd", unfollowed := true, recurses := true, apart := false }
def RulesEndSaid : Prop := rulesEndRow.holds Try.pinned (OpenSpec.ofChange rulesEndSpec)

/-- ITS FALSE NEIGHBOUR: 'it returns false'. Refute it at one input. -/
def rulesEndWrong : ChangeSpec := { name := "rulesEnd", fn := fun _ => fun
  | [d] => { results := [.lit (.bool false)], args := [d] }
  | _ => none }
def RulesEndWrongFalsely : Prop := rulesEndRow.holds Try.pinned (OpenSpec.ofChange rulesEndWrong)

/-- 'testamurlaw14.RulesFirst': WHATEVER THE INPUT: true; the input reads as it did. -/
def rulesFirstSpec : ChangeSpec := { name := "rulesFirst", fn := fun _ => fun
  | [d] => { results := [.lit (.bool true)], args := [d] }
  | _ => none }
def rulesFirstRow : OpenClaim := { program := "ytdhfakajlnidiaa", sum := "2c23096aec03b7acd1bc3d5f9d9c5b69059297e400638fdca790b67c64140a7f", func := "testamur/testamurlaw14.RulesFirst", spec := "rulesFirst", unfollowed := true, recurses := true, apart := false }
def RulesFirstSaid : Prop := rulesFirstRow.holds Try.pinned (OpenSpec.ofChange rulesFirstSpec)

/-- ITS FALSE NEIGHBOUR: 'it returns false'. Refute it at one input. -/
def rulesFirstWrong : ChangeSpec := { name := "rulesFirst", fn := fun _ => fun
  | [d] => { results := [.lit (.bool false)], args := [d] }
  | _ => none }
def RulesFirstWrongFalsely : Prop := rulesFirstRow.holds Try.pinned (OpenSpec.ofChange rulesFirstWrong)

/-- 'testamurlaw14.RulesAbove': WHATEVER THE INPUT: true; the input reads as it did. -/
def rulesAboveSpec : ChangeSpec := { name := "rulesAbove", fn := fun _ => fun
  | [d1, d2, d3] => { results := [.lit (.bool true)], args := [d1, d2, d3] }
  | _ => none }
def rulesAboveRow : OpenClaim := { program := "ytdhfakajlnidiaa", sum := "2c23096aec03b7acd1bc3d5f9d9c5b69059297e400638fdca790b67c64140a7f", func := "testamur/testamurlaw14.RulesAbove", spec := "rulesAbove", unfollowed := true, recurses := true, apart := false }
def RulesAboveSaid : Prop := rulesAboveRow.holds Try.pinned (OpenSpec.ofChange rulesAboveSpec)

/-- ITS FALSE NEIGHBOUR: 'it returns false'. Refute it at one input. -/
def rulesAboveWrong : ChangeSpec := { name := "rulesAbove", fn := fun _ => fun
  | [d1, d2, d3] => { results := [.lit (.bool false)], args := [d1, d2, d3] }
  | _ => none }
def RulesAboveWrongFalsely : Prop := rulesAboveRow.holds Try.pinned (OpenSpec.ofChange rulesAboveWrong)

/-- 'testamurlaw14.RulesFewer': WHATEVER THE INPUT: true; the input reads as it did. -/
def rulesFewerSpec : ChangeSpec := { name := "rulesFewer", fn := fun _ => fun
  | [d1, d2] => { results := [.lit (.bool true)], args := [d1, d2] }
  | _ => none }
def rulesFewerRow : OpenClaim := { program := "ytdhfakajlnidiaa", sum := "2c23096aec03b7acd1bc3d5f9d9c5b69059297e400638fdca790b67c64140a7f", func := "testamur/testamurlaw14.RulesFewer", spec := "rulesFewer", unfollowed := true, recurses := true, apart := false }
def RulesFewerSaid : Prop := rulesFewerRow.holds Try.pinned (OpenSpec.ofChange rulesFewerSpec)

/-- ITS FALSE NEIGHBOUR: 'it returns false'. Refute it at one input. -/
def rulesFewerWrong : ChangeSpec := { name := "rulesFewer", fn := fun _ => fun
  | [d1, d2] => { results := [.lit (.bool false)], args := [d1, d2] }
  | _ => none }
def RulesFewerWrongFalsely : Prop := rulesFewerRow.holds Try.pinned (OpenSpec.ofChange rulesFewerWrong)

/-- 'testamurlaw14.RulesCheck': WHATEVER THE INPUT: true; the input reads as it did. -/
def rulesCheckSpec : ChangeSpec := { name := "rulesCheck", fn := fun _ => fun
  | [d] => { results := [.lit (.bool true)], args := [d] }
  | _ => none }
def rulesCheckRow : OpenClaim := { program := "ytdhfakajlnidiaa", sum := "2c23096aec03b7acd1bc3d5f9d9c5b69059297e400638fdca790b67c64140a7f", func := "testamur/testamurlaw14.RulesCheck", spec := "rulesCheck", unfollowed := true, recurses := true, apart := false }
def RulesCheckSaid : Prop := rulesCheckRow.holds Try.pinned (OpenSpec.ofChange rulesCheckSpec)

/-- ITS FALSE NEIGHBOUR: 'it returns false'. Refute it at one input. -/
def rulesCheckWrong : ChangeSpec := { name := "rulesCheck", fn := fun _ => fun
  | [d] => { results := [.lit (.bool false)], args := [d] }
  | _ => none }
def RulesCheckWrongFalsely : Prop := rulesCheckRow.holds Try.pinned (OpenSpec.ofChange rulesCheckWrong)

/- THE SECOND FORM. 'bulk': how many values and letters a reading holds, each counted each time it is reached (what is shared counts as often as it is met; a slice's spare places count too). A statement '..UptoSaid' is the law's where the arguments, and the package variables that the reading takes, are together of bulk at most 1048576: NARROWER than '..Said'. Prove '..Said' where nothing that the law and all that it calls make is longer than what came in: it says more and counts as full. Else prove '..UptoSaid'. A law counts once. -/
mutual
def uptoBulk {H : Type} : DataW H → Nat
  | .lit (.string bytes) => bytes.length + 1
  | .lit _ => 1
  | .nil => 1
  | .ptr d => uptoBulk d + 1
  | .slice elems spare => uptoBulkAll elems + uptoBulkAll spare + 1
  | .agg parts => uptoBulkAll parts + 1
  | .iface _ d => uptoBulk d + 1
  | .map entries => uptoBulkEntries entries + 1
  | .held _ => 1
def uptoBulkAll {H : Type} : List (DataW H) → Nat
  | [] => 0
  | d :: r => uptoBulk d + uptoBulkAll r
def uptoBulkEntries {H : Type} : List (Lit × DataW H) → Nat
  | [] => 0
  | x :: r => uptoBulkEntry x + uptoBulkEntries r
def uptoBulkEntry {H : Type} : Lit × DataW H → Nat
  | (.string bytes, d) => bytes.length + uptoBulk d + 1
  | (_, d) => uptoBulk d + 1
 end
def uptoSmall : (H : Type) → List (DataW H) → Bool := fun _ ds => decide (uptoBulkAll ds ≤ 1048576)
def OpenSpec.upto (s : _root_.Go.ChangeSpec) : _root_.Go.OpenSpec := { _root_.Go.OpenSpec.ofChange s with cond := some uptoSmall }

/-- 'testamurlaw14.RulesCycleSpec', WHERE WHAT IT READS IS OF BULK AT MOST 1048576: true; the input reads as it did. -/
def rulesCycleSpecUptoRow : OpenClaim := { program := "ytdhfakajlnidiaa", sum := "2c23096aec03b7acd1bc3d5f9d9c5b69059297e400638fdca790b67c64140a7f", func := "testamur/testamurlaw14.RulesCycleSpec", spec := "rulesCycleSpec", unfollowed := true, recurses := true, apart := false, narrowed := true }
def RulesCycleSpecUptoSaid : Prop := rulesCycleSpecUptoRow.holds Try.pinned (OpenSpec.upto rulesCycleSpecSpec)

/-- 'testamurlaw14.RulesEnd', WHERE WHAT IT READS IS OF BULK AT MOST 1048576: true; the input reads as it did. -/
def rulesEndUptoRow : OpenClaim := { program := "ytdhfakajlnidiaa", sum := "2c23096aec03b7acd1bc3d5f9d9c5b69059297e400638fdca790b67c64140a7f", func := "testamur/testamurlaw14.RulesEnd", spec := "rulesEnd", unfollowed := true, recurses := true, apart := false, narrowed := true }
def RulesEndUptoSaid : Prop := rulesEndUptoRow.holds Try.pinned (OpenSpec.upto rulesEndSpec)

/-- 'testamurlaw14.RulesFirst', WHERE WHAT IT READS IS OF BULK AT MOST 1048576: true; the input reads as it did. -/
def rulesFirstUptoRow : OpenClaim := { program := "ytdhfakajlnidiaa", sum := "2c23096aec03b7acd1bc3d5f9d9c5b69059297e400638fdca790b67c64140a7f", func := "testamur/testamurlaw14.RulesFirst", spec := "rulesFirst", unfollowed := true, recurses := true, apart := false, narrowed := true }
def RulesFirstUptoSaid : Prop := rulesFirstUptoRow.holds Try.pinned (OpenSpec.upto rulesFirstSpec)

/-- 'testamurlaw14.RulesAbove', WHERE WHAT IT READS IS OF BULK AT MOST 1048576: true; the input reads as it did. -/
def rulesAboveUptoRow : OpenClaim := { program := "ytdhfakajlnidiaa", sum := "2c23096aec03b7acd1bc3d5f9d9c5b69059297e400638fdca790b67c64140a7f", func := "testamur/testamurlaw14.RulesAbove", spec := "rulesAbove", unfollowed := true, recurses := true, apart := false, narrowed := true }
def RulesAboveUptoSaid : Prop := rulesAboveUptoRow.holds Try.pinned (OpenSpec.upto rulesAboveSpec)

/-- 'testamurlaw14.RulesFewer', WHERE WHAT IT READS IS OF BULK AT MOST 1048576: true; the input reads as it did. -/
def rulesFewerUptoRow : OpenClaim := { program := "ytdhfakajlnidiaa", sum := "2c23096aec03b7acd1bc3d5f9d9c5b69059297e400638fdca790b67c64140a7f", func := "testamur/testamurlaw14.RulesFewer", spec := "rulesFewer", unfollowed := true, recurses := true, apart := false, narrowed := true }
def RulesFewerUptoSaid : Prop := rulesFewerUptoRow.holds Try.pinned (OpenSpec.upto rulesFewerSpec)

/-- 'testamurlaw14.RulesCheck', WHERE WHAT IT READS IS OF BULK AT MOST 1048576: true; the input reads as it did. -/
def rulesCheckUptoRow : OpenClaim := { program := "ytdhfakajlnidiaa", sum := "2c23096aec03b7acd1bc3d5f9d9c5b69059297e400638fdca790b67c64140a7f", func := "testamur/testamurlaw14.RulesCheck", spec := "rulesCheck", unfollowed := true, recurses := true, apart := false, narrowed := true }
def RulesCheckUptoSaid : Prop := rulesCheckUptoRow.holds Try.pinned (OpenSpec.upto rulesCheckSpec)

end Rows
end Go.Proofs.Ytdhfakajlnidiaa
