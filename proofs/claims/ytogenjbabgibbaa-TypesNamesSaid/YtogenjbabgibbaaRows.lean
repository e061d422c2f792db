/-
  No cell of these rows narrows 'for every input' (looked for: loops, veiled, ifaces, maps, wideKeys, modest, calm, conditions, laid).
  DERIVED. THE GIVEN ROWS OF THIS SEAT. 6 by the template 'for every input the law returns true; each argument reads behind the call as it read before'; 0 by the template 'total and deterministic' (their statements: YtogenjbabgibbaaTotals.lean).
  GIVEN WITH THE SEED: the statements are not yours to turn. If you find one false, say at which input.
  Laid BY PROGRAM, IN A SANDBOX (cutbox-rows.mjs): the forced cells as the released guide's own fill.sh prints them over the translation 4b27d0f9e1c6d58b… (all of the seat's roots in one cut). By AI agents, Wed Nov 11 2026. No macro, syntax, notation, axiom, sorry.
-/
import Derived.Test.YtogenjbabgibbaaChecked
import GoSem.Claim
import GoSem.ClaimJoined
import GoSem.ClaimMapViews
import Derived.JoinedTies
import Derived.KernelRfl
namespace Go.Proofs.Ytogenjbabgibbaa
/- THE CELL 'sum', in the pinned program and in every row, IS THE sha256 OF THE DUMP (.gsa) THAT YtogenjbabgibbaaProg.lean LOADS. Nothing in Lean hashes anything: it is a label: what it is worth is what the hold of that sum in a sandbox is worth. -/
noncomputable def Try.pinned : Pinned := { name := "ytogenjbabgibbaa", sum := "4b27d0f9e1c6d58b8f76de5003dac2c5f102d99f42f0dc09835b08f6e52222d0", checked := Try.checked }
namespace Rows
def none {H : Type} : Left H := { results := [], args := [] }

/-- 'testamurlaw12.TypesCheckSpec': WHATEVER THE INPUT: true; the input reads as it did. -/
def typesCheckSpecSpec : ChangeSpec := { name := "typesCheckSpec", fn := fun _ => fun
  | [d] => { results := [.lit (.bool true)], args := [d] }
  | _ => none }
def typesCheckSpecRow : OpenClaim := { program := "ytogenjbabgibbaa", sum := "4b27d0f9e1c6d58b8f76de5003dac2c5f102d99f42f0dc09835b08f6e52222d0", func := "testamur/testamurlaw12.TypesCheckSpec", spec := "typesCheckSpec", unfollowed := true, recurses := true, apart := false }
def TypesCheckSpecSaid : Prop := typesCheckSpecRow.holds Try.pinned (OpenSpec.ofChange typesCheckSpecSpec)

/-- ITS FALSE NEIGHBOUR: 'it returns false'. Refute it at one input. -/
def typesCheckSpecWrong : ChangeSpec := { name := "typesCheckSpec", fn := fun _ => fun
  | [d] => { results := [.lit (.bool false)], args := [d] }
  | _ => none }
def TypesCheckSpecWrongFalsely : Prop := typesCheckSpecRow.holds Try.pinned (OpenSpec.ofChange typesCheckSpecWrong)

/-- 'testamurlaw12.TypesValueSpec': WHATEVER THE INPUT: true; the input reads as it did. -/
def typesValueSpecSpec : ChangeSpec := { name := "typesValueSpec", fn := fun _ => fun
  | [d1, d2, d3, d4, d5, d6] => { results := [.lit (.bool true)], args := [d1, d2, d3, d4, d5, d6] }
  | _ => none }
def typesValueSpecRow : OpenClaim := { program := "ytogenjbabgibbaa", sum := "4b27d0f9e1c6d58b8f76de5003dac2c5f102d99f42f0dc09835b08f6e52222d0", func := "testamur/testamurlaw12.TypesValueSpec", spec := "typesValueSpec", unfollowed := true, recurses := true, apart := false }
def TypesValueSpecSaid : Prop := typesValueSpecRow.holds Try.pinned (OpenSpec.ofChange typesValueSpecSpec)

/-- ITS FALSE NEIGHBOUR: 'it returns false'. Refute it at one input. -/
def typesValueSpecWrong : ChangeSpec := { name := "typesValueSpec", fn := fun _ => fun
  | [d1, d2, d3, d4, d5, d6] => { results := [.lit (.bool false)], args := [d1, d2, d3, d4, d5, d6] }
  | _ => none }
def TypesValueSpecWrongFalsely : Prop := typesValueSpecRow.holds Try.pinned (OpenSpec.ofChange typesValueSpecWrong)

/-- 'testamurlaw12.TypesRules': WHATEVER THE INPUT: true; the input reads as it did. -/
def typesRulesSpec : ChangeSpec := { name := "typesRules", fn := fun _ => fun
  | [d1, d2, d3] => { results := [.lit (.bool true)], args := [d1, d2, d3] }
  | _ => none }
def typesRulesRow : OpenClaim := { program := "ytogenjbabgibbaa", sum := "4b27d0f9e1c6d58b8f76de5003dac2c5f102d99f42f0dc09835b08f6e52222d0", func := "testamur/testamurlaw12.TypesRules", spec := "typesRules", unfollowed := true, recurses := true, apart := false }
def TypesRulesSaid : Prop := typesRulesRow.holds Try.pinned (OpenSpec.ofChange typesRulesSpec)

/-- ITS FALSE NEIGHBOUR: 'it returns false'. Refute it at one input. -/
def typesRulesWrong : ChangeSpec := { name := "typesRules", fn := fun _ => fun
  | [d1, d2, d3] => { results := [.lit (.bool false)], args := [d1, d2, d3] }
  | _ => none }
def TypesRulesWrongFalsely : Prop := typesRulesRow.holds Try.pinned (OpenSpec.ofChange typesRulesWrong)

/-- 'testamurlaw12.TypesAlike': WHATEVER THE INPUT: true; the input reads as it did. -/
def typesAlikeSpec : ChangeSpec := { name := "typesAlike", fn := fun _ => fun
  | [d1, d2, d3, d4] => { results := [.lit (.bool true)], args := [d1, d2, d3, d4] }
  | _ => none }
def typesAlikeRow : OpenClaim := { program := "ytogenjbabgibbaa", sum := "4b27d0f9e1c6d58b8f76de5003dac2c5f102d99f42f0dc09835b08f6e52222d0", func := "testamur/testamurlaw12.TypesAlike", spec := "typesAlike", unfollowed := true, recurses := true, apart := false }
def TypesAlikeSaid : Prop := typesAlikeRow.holds Try.pinned (OpenSpec.ofChange typesAlikeSpec)

/-- ITS FALSE NEIGHBOUR: 'it returns false'. Refute it at one input. -/
def typesAlikeWrong : ChangeSpec := { name := "typesAlike", fn := fun _ => fun
  | [d1, d2, d3, d4] => { results := [.lit (.bool false)], args := [d1, d2, d3, d4] }
  | _ => none }
def TypesAlikeWrongFalsely : Prop := typesAlikeRow.holds Try.pinned (OpenSpec.ofChange typesAlikeWrong)

/-- 'testamurlaw12.TypesOrder': WHATEVER THE INPUT: true; the input reads as it did. -/
def typesOrderSpec : ChangeSpec := { name := "typesOrder", fn := fun _ => fun
  | [d1, d2, d3, d4] => { results := [.lit (.bool true)], args := [d1, d2, d3, d4] }
  | _ => none }
def typesOrderRow : OpenClaim := { program := "ytogenjbabgibbaa", sum := "4b27d0f9e1c6d58b8f76de5003dac2c5f102d99f42f0dc09835b08f6e52222d0", func := "testamur/testamurlaw12.TypesOrder", spec := "typesOrder", unfollowed := true, recurses := true, apart := false }
def TypesOrderSaid : Prop := typesOrderRow.holds Try.pinned (OpenSpec.ofChange typesOrderSpec)

/-- ITS FALSE NEIGHBOUR: 'it returns false'. Refute it at one input. -/
def typesOrderWrong : ChangeSpec := { name := "typesOrder", fn := fun _ => fun
  | [d1, d2, d3, d4] => { results := [.lit (.bool false)], args := [d1, d2, d3, d4] }
  | _ => none }
def TypesOrderWrongFalsely : Prop := typesOrderRow.holds Try.pinned (OpenSpec.ofChange typesOrderWrong)

/-- 'testamurlaw12.TypesNames': WHATEVER THE INPUT: true; the input reads as it did. -/
def typesNamesSpec : ChangeSpec := { name := "typesNames", fn := fun _ => fun
  | [d1, d2] => { results := [.lit (.bool true)], args := [d1, d2] }
  | _ => none }
def typesNamesRow : OpenClaim := { program := "ytogenjbabgibbaa", sum := "4b27d0f9e1c6d58b8f76de5003dac2c5f102d99f42f0dc09835b08f6e52222d0", func := "testamur/testamurlaw12.TypesNames", spec := "typesNames", unfollowed := true, recurses := true, apart := false }
def TypesNamesSaid : Prop := typesNamesRow.holds Try.pinned (OpenSpec.ofChange typesNamesSpec)

/-- ITS FALSE NEIGHBOUR: 'it returns false'. Refute it at one input. -/
def typesNamesWrong : ChangeSpec := { name := "typesNames", fn := fun _ => fun
  | [d1, d2] => { results := [.lit (.bool false)], args := [d1, d2] }
  | _ => none }
def TypesNamesWrongFalsely : Prop := typesNamesRow.holds Try.pinned (OpenSpec.ofChange typesNamesWrong)

/- THE SECOND FORM. 'bulk': how many values and letters a reading holds, each counted each time it is reached (what is shared counts as often as it is met; a slice's spare places count too). A statement '..UptoSaid' is the law's where the arguments, and the package variables that the reading takes, are together of bulk at most 1048576: NARROWER than '..Said'. Prove '..Said' where nothing that the law and all that it calls make is longer than what came in: it says more and counts as full. Else prove '..UptoSaid'. A law counts once. -/
mutual
def uptoBulk {H : Type} : DataW H → Nat
  | .lit (.string bytes) => bytes.length + 1
  | .lit _ => 1
  | .nil => 1
  | .ptr d => uptoBulk d + 1
  | .slice elems spare => uptoBulkAll elems + uptoBulkAll spare + 1
  | .agg parts => uptoBulkAll parts + 1
  | .iface _ d => uptoBulk d + 1
  | .map entries => uptoBulkEntries entries + 1
  | .held _ => 1
def uptoBulkAll {H : Type} : List (DataW H) → Nat
  | [] => 0
  | d :: r => uptoBulk d + uptoBulkAll r
def uptoBulkEntries {H : Type} : List (Lit × DataW H) → Nat
  | [] => 0
  | x :: r => uptoBulkEntry x + uptoBulkEntries r
def uptoBulkEntry {H : Type} : Lit × DataW H → Nat
  | (.string bytes, d) => bytes.length + uptoBulk d + 1
  | (_, d) => uptoBulk d + 1
 end
def uptoSmall : (H : Type) → List (DataW H) → Bool := fun _ ds => decide (uptoBulkAll ds ≤ 1048576)
def OpenSpec.upto (s : _root_.Go.ChangeSpec) : _root_.Go.OpenSpec := { _root_.Go.OpenSpec.ofChange s with cond := some uptoSmall }

/-- 'testamurlaw12.TypesCheckSpec', WHERE WHAT IT READS IS OF BULK AT MOST 1048576: true; the input reads as it did. -/
def typesCheckSpecUptoRow : OpenClaim := { program := "ytogenjbabgibbaa", sum := "4b27d0f9e1c6d58b8f76de5003dac2c5f102d99f42f0dc09835b08f6e52222d0", func := "testamur/testamurlaw12.TypesCheckSpec", spec := "typesCheckSpec", unfollowed := true, recurses := true, apart := false, narrowed := true }
def TypesCheckSpecUptoSaid : Prop := typesCheckSpecUptoRow.holds Try.pinned (OpenSpec.upto typesCheckSpecSpec)

/-- 'testamurlaw12.TypesValueSpec', WHERE WHAT IT READS IS OF BULK AT MOST 1048576: true; the input reads as it did. -/
def typesValueSpecUptoRow : OpenClaim := { program := "ytogenjbabgibbaa", sum := "4b27d0f9e1c6d58b8f76de5003dac2c5f102d99f42f0dc09835b08f6e52222d0", func := "testamur/testamurlaw12.TypesValueSpec", spec := "typesValueSpec", unfollowed := true, recurses := true, apart := false, narrowed := true }
def TypesValueSpecUptoSaid : Prop := typesValueSpecUptoRow.holds Try.pinned (OpenSpec.upto typesValueSpecSpec)

/-- 'testamurlaw12.TypesRules', WHERE WHAT IT READS IS OF BULK AT MOST 1048576: true; the input reads as it did. -/
def typesRulesUptoRow : OpenClaim := { program := "ytogenjbabgibbaa", sum := "4b27d0f9e1c6d58b8f76de5003dac2c5f102d99f42f0dc09835b08f6e52222d0", func := "testamur/testamurlaw12.TypesRules", spec := "typesRules", unfollowed := true, recurses := true, apart := false, narrowed := true }
def TypesRulesUptoSaid : Prop := typesRulesUptoRow.holds Try.pinned (OpenSpec.upto typesRulesSpec)

/-- 'testamurlaw12.TypesAlike', WHERE WHAT IT READS IS OF BULK AT MOST 1048576: true; the input reads as it did. -/
def typesAlikeUptoRow : OpenClaim := { program := "ytogenjbabgibbaa", sum := "4b27d0f9e1c6d58b8f76de5003dac2c5f102d99f42f0dc09835b08f6e52222d0", func := "testamur/testamurlaw12.TypesAlike", spec := "typesAlike", unfollowed := true, recurses := true, apart := false, narrowed := true }
def TypesAlikeUptoSaid : Prop := typesAlikeUptoRow.holds Try.pinned (OpenSpec.upto typesAlikeSpec)

/-- 'testamurlaw12.TypesOrder', WHERE WHAT IT READS IS OF BULK AT MOST 1048576: true; the input reads as it did. -/
def typesOrderUptoRow : OpenClaim := { program := "ytogenjbabgibbaa", sum := "4b27d0f9e1c6d58b8f76de5003dac2c5f102d99f42f0dc09835b08f6e52222d0", func := "testamur/testamurlaw12.TypesOrder", spec := "typesOrder", unfollowed := true, recurses := true, apart := false, narrowed := true }
def TypesOrderUptoSaid : Prop := typesOrderUptoRow.holds Try.pinned (OpenSpec.upto typesOrderSpec)

/-- 'testamurlaw12.TypesNames', WHERE WHAT IT READS IS OF BULK AT MOST 1048576: true; the input reads as it did. -/
def typesNamesUptoRow : OpenClaim := { program := "ytogenjbabgibbaa", sum := "4b27d0f9e1c6d58b8f76de5003dac2c5f102d99f42f0dc09835b08f6e52222d0", func := "testamur/testamurlaw12.TypesNames", spec := "typesNames", unfollowed := true, recurses := true, apart := false, narrowed := true }
def TypesNamesUptoSaid : Prop := typesNamesUptoRow.holds Try.pinned (OpenSpec.upto typesNamesSpec)

end Rows
end Go.Proofs.Ytogenjbabgibbaa
