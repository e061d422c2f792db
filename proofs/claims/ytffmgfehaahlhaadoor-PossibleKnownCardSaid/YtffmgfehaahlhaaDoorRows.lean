/-
  NARROWER THAN 'FOR EVERY INPUT', by the rows' own cells (each row's printed sentence says how): PossibleCheckSpec: laid · PossibleSpec: laid · PossibleExact: laid · PossibleWitness: laid · PossibleMore: laid · PossibleKnown: laid · PossibleAlike: laid.
  DERIVED. THE GIVEN ROWS OF THIS SEAT. 7 by the template 'for every input the law returns true; each argument reads behind the call as it read before'; 0 by the template 'total and deterministic' (their statements: YtffmgfehaahlhaaDoorTotals.lean).
  GIVEN WITH THE SEED: the statements are not yours to turn. If you find one false, say at which input.
  Laid BY PROGRAM, IN A SANDBOX (cutbox-rows.mjs): the forced cells as the released guide's own fill.sh prints them over the translation b424670cec379eb3… (all of the seat's roots in one cut). By AI agents, Wed Nov 11 2026. No macro, syntax, notation, axiom, sorry.
-/
import Derived.Test.YtffmgfehaahlhaaDoorChecked
import GoSem.Claim
import GoSem.ClaimJoined
import GoSem.ClaimMapViews
import Derived.JoinedTies
import Derived.KernelRfl
namespace Go.Proofs.YtffmgfehaahlhaaDoor
/- THE CELL 'sum', in the pinned program and in every row, IS THE sha256 OF THE DUMP (.gsa) THAT YtffmgfehaahlhaaDoorProg.lean LOADS. Nothing in Lean hashes anything: it is a label: what it is worth is what the hold of that sum in a sandbox is worth. -/
noncomputable def Tryd.pinned : Pinned := { name := "ytffmgfehaahlhaadoor", sum := "b424670cec379eb3498bfdf1379d54637594e00c25d6ad7e89474e180d18805b", checked := Tryd.checked }
namespace Rows
def none {H : Type} : Left H := { results := [], args := [] }

/- WHAT THE LISTED PACKAGE-LEVEL VARIABLES READ AS WHEN THE CALL BEGINS. Each datum BY PROGRAM (the guide's laid-datum.mjs) off the statement by which the dump's own 'gosem.cut.vars' lays the variable. In a bare row this is a premise. The card (YtffmgfehaahlhaaDoorCards.lean) ties it to the program's text. -/
def laid_math_bits_deBruijn64tab {H : Type} : DataW H := .agg [.lit (.int .u8 0), .lit (.int .u8 1), .lit (.int .u8 56), .lit (.int .u8 2), .lit (.int .u8 57), .lit (.int .u8 49), .lit (.int .u8 28), .lit (.int .u8 3), .lit (.int .u8 61), .lit (.int .u8 58), .lit (.int .u8 42), .lit (.int .u8 50), .lit (.int .u8 38), .lit (.int .u8 29), .lit (.int .u8 17), .lit (.int .u8 4), .lit (.int .u8 62), .lit (.int .u8 47), .lit (.int .u8 59), .lit (.int .u8 36), .lit (.int .u8 45), .lit (.int .u8 43), .lit (.int .u8 51), .lit (.int .u8 22), .lit (.int .u8 53), .lit (.int .u8 39), .lit (.int .u8 33), .lit (.int .u8 30), .lit (.int .u8 24), .lit (.int .u8 18), .lit (.int .u8 12), .lit (.int .u8 5), .lit (.int .u8 63), .lit (.int .u8 55), .lit (.int .u8 48), .lit (.int .u8 27), .lit (.int .u8 60), .lit (.int .u8 41), .lit (.int .u8 37), .lit (.int .u8 16), .lit (.int .u8 46), .lit (.int .u8 35), .lit (.int .u8 44), .lit (.int .u8 21), .lit (.int .u8 52), .lit (.int .u8 32), .lit (.int .u8 23), .lit (.int .u8 11), .lit (.int .u8 54), .lit (.int .u8 26), .lit (.int .u8 40), .lit (.int .u8 15), .lit (.int .u8 34), .lit (.int .u8 20), .lit (.int .u8 31), .lit (.int .u8 10), .lit (.int .u8 25), .lit (.int .u8 14), .lit (.int .u8 19), .lit (.int .u8 9), .lit (.int .u8 13), .lit (.int .u8 8), .lit (.int .u8 7), .lit (.int .u8 6)]

/-- 'testamurlaw30.PossibleCheckSpec': WHATEVER THE INPUT: true; the input reads as it did. -/
def possibleCheckSpecSpec : ChangeSpec := { name := "possibleCheckSpec", fn := fun _ => fun
  | [d1, d2, d3, d4, d5] => { results := [.lit (.bool true)], args := [d1, d2, d3, d4, d5] }
  | _ => none }
def possibleCheckSpecRow : OpenClaim := { program := "ytffmgfehaahlhaadoor", sum := "b424670cec379eb3498bfdf1379d54637594e00c25d6ad7e89474e180d18805b", func := "testamur/testamurlaw30.PossibleCheckSpec", spec := "possibleCheckSpec", unfollowed := true, recurses := true, named := ["math/bits.deBruijn64tab"], apart := false, laid := [("math/bits.deBruijn64tab", laid_math_bits_deBruijn64tab)] }
def PossibleCheckSpecSaid : Prop := possibleCheckSpecRow.holds Tryd.pinned (OpenSpec.ofChange possibleCheckSpecSpec)

/-- ITS FALSE NEIGHBOUR: 'it returns false'. Refute it at one input. -/
def possibleCheckSpecWrong : ChangeSpec := { name := "possibleCheckSpec", fn := fun _ => fun
  | [d1, d2, d3, d4, d5] => { results := [.lit (.bool false)], args := [d1, d2, d3, d4, d5] }
  | _ => none }
def PossibleCheckSpecWrongFalsely : Prop := possibleCheckSpecRow.holds Tryd.pinned (OpenSpec.ofChange possibleCheckSpecWrong)

/-- 'testamurlaw30.PossibleSpec': WHATEVER THE INPUT: true; the input reads as it did. -/
def possibleSpecSpec : ChangeSpec := { name := "possibleSpec", fn := fun _ => fun
  | [d1, d2, d3] => { results := [.lit (.bool true)], args := [d1, d2, d3] }
  | _ => none }
def possibleSpecRow : OpenClaim := { program := "ytffmgfehaahlhaadoor", sum := "b424670cec379eb3498bfdf1379d54637594e00c25d6ad7e89474e180d18805b", func := "testamur/testamurlaw30.PossibleSpec", spec := "possibleSpec", unfollowed := true, recurses := true, named := ["math/bits.deBruijn64tab"], apart := false, laid := [("math/bits.deBruijn64tab", laid_math_bits_deBruijn64tab)] }
def PossibleSpecSaid : Prop := possibleSpecRow.holds Tryd.pinned (OpenSpec.ofChange possibleSpecSpec)

/-- ITS FALSE NEIGHBOUR: 'it returns false'. Refute it at one input. -/
def possibleSpecWrong : ChangeSpec := { name := "possibleSpec", fn := fun _ => fun
  | [d1, d2, d3] => { results := [.lit (.bool false)], args := [d1, d2, d3] }
  | _ => none }
def PossibleSpecWrongFalsely : Prop := possibleSpecRow.holds Tryd.pinned (OpenSpec.ofChange possibleSpecWrong)

/-- 'testamurlaw30.PossibleExact': WHATEVER THE INPUT: true; the input reads as it did. -/
def possibleExactSpec : ChangeSpec := { name := "possibleExact", fn := fun _ => fun
  | [d1, d2, d3] => { results := [.lit (.bool true)], args := [d1, d2, d3] }
  | _ => none }
def possibleExactRow : OpenClaim := { program := "ytffmgfehaahlhaadoor", sum := "b424670cec379eb3498bfdf1379d54637594e00c25d6ad7e89474e180d18805b", func := "testamur/testamurlaw30.PossibleExact", spec := "possibleExact", unfollowed := true, recurses := true, named := ["math/bits.deBruijn64tab"], apart := false, laid := [("math/bits.deBruijn64tab", laid_math_bits_deBruijn64tab)] }
def PossibleExactSaid : Prop := possibleExactRow.holds Tryd.pinned (OpenSpec.ofChange possibleExactSpec)

/-- ITS FALSE NEIGHBOUR: 'it returns false'. Refute it at one input. -/
def possibleExactWrong : ChangeSpec := { name := "possibleExact", fn := fun _ => fun
  | [d1, d2, d3] => { results := [.lit (.bool false)], args := [d1, d2, d3] }
  | _ => none }
def PossibleExactWrongFalsely : Prop := possibleExactRow.holds Tryd.pinned (OpenSpec.ofChange possibleExactWrong)

/-- 'testamurlaw30.PossibleWitness': WHATEVER THE INPUT: true; the input reads as it did. -/
def possibleWitnessSpec : ChangeSpec := { name := "possibleWitness", fn := fun _ => fun
  | [d1, d2, d3] => { results := [.lit (.bool true)], args := [d1, d2, d3] }
  | _ => none }
def possibleWitnessRow : OpenClaim := { program := "ytffmgfehaahlhaadoor", sum := "b424670cec379eb3498bfdf1379d54637594e00c25d6ad7e89474e180d18805b", func := "testamur/testamurlaw30.PossibleWitness", spec := "possibleWitness", unfollowed := true, recurses := true, named := ["math/bits.deBruijn64tab"], apart := false, laid := [("math/bits.deBruijn64tab", laid_math_bits_deBruijn64tab)] }
def PossibleWitnessSaid : Prop := possibleWitnessRow.holds Tryd.pinned (OpenSpec.ofChange possibleWitnessSpec)

/-- ITS FALSE NEIGHBOUR: 'it returns false'. Refute it at one input. -/
def possibleWitnessWrong : ChangeSpec := { name := "possibleWitness", fn := fun _ => fun
  | [d1, d2, d3] => { results := [.lit (.bool false)], args := [d1, d2, d3] }
  | _ => none }
def PossibleWitnessWrongFalsely : Prop := possibleWitnessRow.holds Tryd.pinned (OpenSpec.ofChange possibleWitnessWrong)

/-- 'testamurlaw30.PossibleMore': WHATEVER THE INPUT: true; the input reads as it did. -/
def possibleMoreSpec : ChangeSpec := { name := "possibleMore", fn := fun _ => fun
  | [d1, d2, d3, d4, d5] => { results := [.lit (.bool true)], args := [d1, d2, d3, d4, d5] }
  | _ => none }
def possibleMoreRow : OpenClaim := { program := "ytffmgfehaahlhaadoor", sum := "b424670cec379eb3498bfdf1379d54637594e00c25d6ad7e89474e180d18805b", func := "testamur/testamurlaw30.PossibleMore", spec := "possibleMore", unfollowed := true, recurses := true, named := ["math/bits.deBruijn64tab"], apart := false, laid := [("math/bits.deBruijn64tab", laid_math_bits_deBruijn64tab)] }
def PossibleMoreSaid : Prop := possibleMoreRow.holds Tryd.pinned (OpenSpec.ofChange possibleMoreSpec)

/-- ITS FALSE NEIGHBOUR: 'it returns false'. Refute it at one input. -/
def possibleMoreWrong : ChangeSpec := { name := "possibleMore", fn := fun _ => fun
  | [d1, d2, d3, d4, d5] => { results := [.lit (.bool false)], args := [d1, d2, d3, d4, d5] }
  | _ => none }
def PossibleMoreWrongFalsely : Prop := possibleMoreRow.holds Tryd.pinned (OpenSpec.ofChange possibleMoreWrong)

/-- 'testamurlaw30.PossibleKnown': WHATEVER THE INPUT: true; the input reads as it did. -/
def possibleKnownSpec : ChangeSpec := { name := "possibleKnown", fn := fun _ => fun
  | [d1, d2, d3, d4, d5, d6] => { results := [.lit (.bool true)], args := [d1, d2, d3, d4, d5, d6] }
  | _ => none }
def possibleKnownRow : OpenClaim := { program := "ytffmgfehaahlhaadoor", sum := "b424670cec379eb3498bfdf1379d54637594e00c25d6ad7e89474e180d18805b", func := "testamur/testamurlaw30.PossibleKnown", spec := "possibleKnown", unfollowed := true, recurses := true, named := ["math/bits.deBruijn64tab"], apart := false, laid := [("math/bits.deBruijn64tab", laid_math_bits_deBruijn64tab)] }
def PossibleKnownSaid : Prop := possibleKnownRow.holds Tryd.pinned (OpenSpec.ofChange possibleKnownSpec)

/-- ITS FALSE NEIGHBOUR: 'it returns false'. Refute it at one input. -/
def possibleKnownWrong : ChangeSpec := { name := "possibleKnown", fn := fun _ => fun
  | [d1, d2, d3, d4, d5, d6] => { results := [.lit (.bool false)], args := [d1, d2, d3, d4, d5, d6] }
  | _ => none }
def PossibleKnownWrongFalsely : Prop := possibleKnownRow.holds Tryd.pinned (OpenSpec.ofChange possibleKnownWrong)

/-- 'testamurlaw30.PossibleAlike': WHATEVER THE INPUT: true; the input reads as it did. -/
def possibleAlikeSpec : ChangeSpec := { name := "possibleAlike", fn := fun _ => fun
  | [d1, d2, d3, d4, d5] => { results := [.lit (.bool true)], args := [d1, d2, d3, d4, d5] }
  | _ => none }
def possibleAlikeRow : OpenClaim := { program := "ytffmgfehaahlhaadoor", sum := "b424670cec379eb3498bfdf1379d54637594e00c25d6ad7e89474e180d18805b", func := "testamur/testamurlaw30.PossibleAlike", spec := "possibleAlike", unfollowed := true, recurses := true, named := ["math/bits.deBruijn64tab"], apart := false, laid := [("math/bits.deBruijn64tab", laid_math_bits_deBruijn64tab)] }
def PossibleAlikeSaid : Prop := possibleAlikeRow.holds Tryd.pinned (OpenSpec.ofChange possibleAlikeSpec)

/-- ITS FALSE NEIGHBOUR: 'it returns false'. Refute it at one input. -/
def possibleAlikeWrong : ChangeSpec := { name := "possibleAlike", fn := fun _ => fun
  | [d1, d2, d3, d4, d5] => { results := [.lit (.bool false)], args := [d1, d2, d3, d4, d5] }
  | _ => none }
def PossibleAlikeWrongFalsely : Prop := possibleAlikeRow.holds Tryd.pinned (OpenSpec.ofChange possibleAlikeWrong)

/- THE SECOND FORM. 'bulk': how many values and letters a reading holds, each counted each time it is reached (what is shared counts as often as it is met; a slice's spare places count too). A statement '..UptoSaid' is the law's where the arguments, and the package variables that the reading takes, are together of bulk at most 1048576: NARROWER than '..Said'. Prove '..Said' where nothing that the law and all that it calls make is longer than what came in: it says more and counts as full. Else prove '..UptoSaid'. A law counts once. -/
mutual
def uptoBulk {H : Type} : DataW H → Nat
  | .lit (.string bytes) => bytes.length + 1
  | .lit _ => 1
  | .nil => 1
  | .ptr d => uptoBulk d + 1
  | .slice elems spare => uptoBulkAll elems + uptoBulkAll spare + 1
  | .agg parts => uptoBulkAll parts + 1
  | .iface _ d => uptoBulk d + 1
  | .map entries => uptoBulkEntries entries + 1
  | .held _ => 1
def uptoBulkAll {H : Type} : List (DataW H) → Nat
  | [] => 0
  | d :: r => uptoBulk d + uptoBulkAll r
def uptoBulkEntries {H : Type} : List (Lit × DataW H) → Nat
  | [] => 0
  | x :: r => uptoBulkEntry x + uptoBulkEntries r
def uptoBulkEntry {H : Type} : Lit × DataW H → Nat
  | (.string bytes, d) => bytes.length + uptoBulk d + 1
  | (_, d) => uptoBulk d + 1
 end
def uptoSmall : (H : Type) → List (DataW H) → Bool := fun _ ds => decide (uptoBulkAll ds ≤ 1048576)
def OpenSpec.upto (s : _root_.Go.ChangeSpec) : _root_.Go.OpenSpec := { _root_.Go.OpenSpec.ofChange s with cond := some uptoSmall }

/-- 'testamurlaw30.PossibleCheckSpec', WHERE WHAT IT READS IS OF BULK AT MOST 1048576: true; the input reads as it did. -/
def possibleCheckSpecUptoRow : OpenClaim := { program := "ytffmgfehaahlhaadoor", sum := "b424670cec379eb3498bfdf1379d54637594e00c25d6ad7e89474e180d18805b", func := "testamur/testamurlaw30.PossibleCheckSpec", spec := "possibleCheckSpec", unfollowed := true, recurses := true, named := ["math/bits.deBruijn64tab"], apart := false, laid := [("math/bits.deBruijn64tab", laid_math_bits_deBruijn64tab)], narrowed := true }
def PossibleCheckSpecUptoSaid : Prop := possibleCheckSpecUptoRow.holds Tryd.pinned (OpenSpec.upto possibleCheckSpecSpec)

/-- 'testamurlaw30.PossibleSpec', WHERE WHAT IT READS IS OF BULK AT MOST 1048576: true; the input reads as it did. -/
def possibleSpecUptoRow : OpenClaim := { program := "ytffmgfehaahlhaadoor", sum := "b424670cec379eb3498bfdf1379d54637594e00c25d6ad7e89474e180d18805b", func := "testamur/testamurlaw30.PossibleSpec", spec := "possibleSpec", unfollowed := true, recurses := true, named := ["math/bits.deBruijn64tab"], apart := false, laid := [("math/bits.deBruijn64tab", laid_math_bits_deBruijn64tab)], narrowed := true }
def PossibleSpecUptoSaid : Prop := possibleSpecUptoRow.holds Tryd.pinned (OpenSpec.upto possibleSpecSpec)

/-- 'testamurlaw30.PossibleExact', WHERE WHAT IT READS IS OF BULK AT MOST 1048576: true; the input reads as it did. -/
def possibleExactUptoRow : OpenClaim := { program := "ytffmgfehaahlhaadoor", sum := "b424670cec379eb3498bfdf1379d54637594e00c25d6ad7e89474e180d18805b", func := "testamur/testamurlaw30.PossibleExact", spec := "possibleExact", unfollowed := true, recurses := true, named := ["math/bits.deBruijn64tab"], apart := false, laid := [("math/bits.deBruijn64tab", laid_math_bits_deBruijn64tab)], narrowed := true }
def PossibleExactUptoSaid : Prop := possibleExactUptoRow.holds Tryd.pinned (OpenSpec.upto possibleExactSpec)

/-- 'testamurlaw30.PossibleWitness', WHERE WHAT IT READS IS OF BULK AT MOST 1048576: true; the input reads as it did. -/
def possibleWitnessUptoRow : OpenClaim := { program := "ytffmgfehaahlhaadoor", sum := "b424670cec379eb3498bfdf1379d54637594e00c25d6ad7e89474e180d18805b", func := "testamur/testamurlaw30.PossibleWitness", spec := "possibleWitness", unfollowed := true, recurses := true, named := ["math/bits.deBruijn64tab"], apart := false, laid := [("math/bits.deBruijn64tab", laid_math_bits_deBruijn64tab)], narrowed := true }
def PossibleWitnessUptoSaid : Prop := possibleWitnessUptoRow.holds Tryd.pinned (OpenSpec.upto possibleWitnessSpec)

/-- 'testamurlaw30.PossibleMore', WHERE WHAT IT READS IS OF BULK AT MOST 1048576: true; the input reads as it did. -/
def possibleMoreUptoRow : OpenClaim := { program := "ytffmgfehaahlhaadoor", sum := "b424670cec379eb3498bfdf1379d54637594e00c25d6ad7e89474e180d18805b", func := "testamur/testamurlaw30.PossibleMore", spec := "possibleMore", unfollowed := true, recurses := true, named := ["math/bits.deBruijn64tab"], apart := false, laid := [("math/bits.deBruijn64tab", laid_math_bits_deBruijn64tab)], narrowed := true }
def PossibleMoreUptoSaid : Prop := possibleMoreUptoRow.holds Tryd.pinned (OpenSpec.upto possibleMoreSpec)

/-- 'testamurlaw30.PossibleKnown', WHERE WHAT IT READS IS OF BULK AT MOST 1048576: true; the input reads as it did. -/
def possibleKnownUptoRow : OpenClaim := { program := "ytffmgfehaahlhaadoor", sum := "b424670cec379eb3498bfdf1379d54637594e00c25d6ad7e89474e180d18805b", func := "testamur/testamurlaw30.PossibleKnown", spec := "possibleKnown", unfollowed := true, recurses := true, named := ["math/bits.deBruijn64tab"], apart := false, laid := [("math/bits.deBruijn64tab", laid_math_bits_deBruijn64tab)], narrowed := true }
def PossibleKnownUptoSaid : Prop := possibleKnownUptoRow.holds Tryd.pinned (OpenSpec.upto possibleKnownSpec)

/-- 'testamurlaw30.PossibleAlike', WHERE WHAT IT READS IS OF BULK AT MOST 1048576: true; the input reads as it did. -/
def possibleAlikeUptoRow : OpenClaim := { program := "ytffmgfehaahlhaadoor", sum := "b424670cec379eb3498bfdf1379d54637594e00c25d6ad7e89474e180d18805b", func := "testamur/testamurlaw30.PossibleAlike", spec := "possibleAlike", unfollowed := true, recurses := true, named := ["math/bits.deBruijn64tab"], apart := false, laid := [("math/bits.deBruijn64tab", laid_math_bits_deBruijn64tab)], narrowed := true }
def PossibleAlikeUptoSaid : Prop := possibleAlikeUptoRow.holds Tryd.pinned (OpenSpec.upto possibleAlikeSpec)

end Rows
end Go.Proofs.YtffmgfehaahlhaaDoor
