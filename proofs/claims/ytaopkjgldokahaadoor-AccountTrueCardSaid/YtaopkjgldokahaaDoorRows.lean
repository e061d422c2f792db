/-
  NARROWER THAN 'FOR EVERY INPUT', by the rows' own cells (each row's printed sentence says how): AccountAnew: laid · AccountTrue: laid · AccountNarrow: laid · AccountMore: laid · AccountRound: laid.
  DERIVED. THE GIVEN ROWS OF THIS SEAT. 5 by the template 'for every input the law returns true; each argument reads behind the call as it read before'; 0 by the template 'total and deterministic' (their statements: YtaopkjgldokahaaDoorTotals.lean).
  GIVEN WITH THE SEED: the statements are not yours to turn. If you find one false, say at which input.
  Laid BY PROGRAM, IN A SANDBOX (cutbox-rows.mjs): the forced cells as the released guide's own fill.sh prints them over the translation f7b99c96be020709… (all of the seat's roots in one cut). By AI agents, Wed Nov 11 2026. No macro, syntax, notation, axiom, sorry.
-/
import Derived.Test.YtaopkjgldokahaaDoorChecked
import GoSem.Claim
import GoSem.ClaimJoined
import GoSem.ClaimMapViews
import Derived.JoinedTies
import Derived.KernelRfl
namespace Go.Proofs.YtaopkjgldokahaaDoor
/- THE CELL 'sum', in the pinned program and in every row, IS THE sha256 OF THE DUMP (.gsa) THAT YtaopkjgldokahaaDoorProg.lean LOADS. Nothing in Lean hashes anything: it is a label: what it is worth is what the hold of that sum in a sandbox is worth. -/
noncomputable def Tryd.pinned : Pinned := { name := "ytaopkjgldokahaadoor", sum := "f7b99c96be020709d76034413ef516030b4a1704e61d636dab3ccace8c47ea9a", checked := Tryd.checked }
namespace Rows
def none {H : Type} : Left H := { results := [], args := [] }

/- WHAT THE LISTED PACKAGE-LEVEL VARIABLES READ AS WHEN THE CALL BEGINS. Each datum BY PROGRAM (the guide's laid-datum.mjs) off the statement by which the dump's own 'gosem.cut.vars' lays the variable. In a bare row this is a premise. The card (YtaopkjgldokahaaDoorCards.lean) ties it to the program's text. -/
def laid_math_bits_deBruijn64tab {H : Type} : DataW H := .agg [.lit (.int .u8 0), .lit (.int .u8 1), .lit (.int .u8 56), .lit (.int .u8 2), .lit (.int .u8 57), .lit (.int .u8 49), .lit (.int .u8 28), .lit (.int .u8 3), .lit (.int .u8 61), .lit (.int .u8 58), .lit (.int .u8 42), .lit (.int .u8 50), .lit (.int .u8 38), .lit (.int .u8 29), .lit (.int .u8 17), .lit (.int .u8 4), .lit (.int .u8 62), .lit (.int .u8 47), .lit (.int .u8 59), .lit (.int .u8 36), .lit (.int .u8 45), .lit (.int .u8 43), .lit (.int .u8 51), .lit (.int .u8 22), .lit (.int .u8 53), .lit (.int .u8 39), .lit (.int .u8 33), .lit (.int .u8 30), .lit (.int .u8 24), .lit (.int .u8 18), .lit (.int .u8 12), .lit (.int .u8 5), .lit (.int .u8 63), .lit (.int .u8 55), .lit (.int .u8 48), .lit (.int .u8 27), .lit (.int .u8 60), .lit (.int .u8 41), .lit (.int .u8 37), .lit (.int .u8 16), .lit (.int .u8 46), .lit (.int .u8 35), .lit (.int .u8 44), .lit (.int .u8 21), .lit (.int .u8 52), .lit (.int .u8 32), .lit (.int .u8 23), .lit (.int .u8 11), .lit (.int .u8 54), .lit (.int .u8 26), .lit (.int .u8 40), .lit (.int .u8 15), .lit (.int .u8 34), .lit (.int .u8 20), .lit (.int .u8 31), .lit (.int .u8 10), .lit (.int .u8 25), .lit (.int .u8 14), .lit (.int .u8 19), .lit (.int .u8 9), .lit (.int .u8 13), .lit (.int .u8 8), .lit (.int .u8 7), .lit (.int .u8 6)]

/-- 'testamurlaw31.AccountAnew': WHATEVER THE INPUT: true; the input reads as it did. -/
def accountAnewSpec : ChangeSpec := { name := "accountAnew", fn := fun _ => fun
  | [d1, d2, d3] => { results := [.lit (.bool true)], args := [d1, d2, d3] }
  | _ => none }
def accountAnewRow : OpenClaim := { program := "ytaopkjgldokahaadoor", sum := "f7b99c96be020709d76034413ef516030b4a1704e61d636dab3ccace8c47ea9a", func := "testamur/testamurlaw31.AccountAnew", spec := "accountAnew", unfollowed := true, recurses := true, named := ["math/bits.deBruijn64tab"], plainKeys := false, apart := false, laid := [("math/bits.deBruijn64tab", laid_math_bits_deBruijn64tab)] }
def AccountAnewSaid : Prop := accountAnewRow.holds Tryd.pinned (OpenSpec.ofChange accountAnewSpec)

/-- ITS FALSE NEIGHBOUR: 'it returns false'. Refute it at one input. -/
def accountAnewWrong : ChangeSpec := { name := "accountAnew", fn := fun _ => fun
  | [d1, d2, d3] => { results := [.lit (.bool false)], args := [d1, d2, d3] }
  | _ => none }
def AccountAnewWrongFalsely : Prop := accountAnewRow.holds Tryd.pinned (OpenSpec.ofChange accountAnewWrong)

/-- 'testamurlaw31.AccountTrue': WHATEVER THE INPUT: true; the input reads as it did. -/
def accountTrueSpec : ChangeSpec := { name := "accountTrue", fn := fun _ => fun
  | [d1, d2, d3, d4, d5] => { results := [.lit (.bool true)], args := [d1, d2, d3, d4, d5] }
  | _ => none }
def accountTrueRow : OpenClaim := { program := "ytaopkjgldokahaadoor", sum := "f7b99c96be020709d76034413ef516030b4a1704e61d636dab3ccace8c47ea9a", func := "testamur/testamurlaw31.AccountTrue", spec := "accountTrue", unfollowed := true, recurses := true, named := ["math/bits.deBruijn64tab"], plainKeys := false, apart := false, laid := [("math/bits.deBruijn64tab", laid_math_bits_deBruijn64tab)] }
def AccountTrueSaid : Prop := accountTrueRow.holds Tryd.pinned (OpenSpec.ofChange accountTrueSpec)

/-- ITS FALSE NEIGHBOUR: 'it returns false'. Refute it at one input. -/
def accountTrueWrong : ChangeSpec := { name := "accountTrue", fn := fun _ => fun
  | [d1, d2, d3, d4, d5] => { results := [.lit (.bool false)], args := [d1, d2, d3, d4, d5] }
  | _ => none }
def AccountTrueWrongFalsely : Prop := accountTrueRow.holds Tryd.pinned (OpenSpec.ofChange accountTrueWrong)

/-- 'testamurlaw31.AccountNarrow': WHATEVER THE INPUT: true; the input reads as it did. -/
def accountNarrowSpec : ChangeSpec := { name := "accountNarrow", fn := fun _ => fun
  | [d1, d2, d3, d4] => { results := [.lit (.bool true)], args := [d1, d2, d3, d4] }
  | _ => none }
def accountNarrowRow : OpenClaim := { program := "ytaopkjgldokahaadoor", sum := "f7b99c96be020709d76034413ef516030b4a1704e61d636dab3ccace8c47ea9a", func := "testamur/testamurlaw31.AccountNarrow", spec := "accountNarrow", unfollowed := true, recurses := true, named := ["math/bits.deBruijn64tab"], plainKeys := false, apart := false, laid := [("math/bits.deBruijn64tab", laid_math_bits_deBruijn64tab)] }
def AccountNarrowSaid : Prop := accountNarrowRow.holds Tryd.pinned (OpenSpec.ofChange accountNarrowSpec)

/-- ITS FALSE NEIGHBOUR: 'it returns false'. Refute it at one input. -/
def accountNarrowWrong : ChangeSpec := { name := "accountNarrow", fn := fun _ => fun
  | [d1, d2, d3, d4] => { results := [.lit (.bool false)], args := [d1, d2, d3, d4] }
  | _ => none }
def AccountNarrowWrongFalsely : Prop := accountNarrowRow.holds Tryd.pinned (OpenSpec.ofChange accountNarrowWrong)

/-- 'testamurlaw31.AccountMore': WHATEVER THE INPUT: true; the input reads as it did. -/
def accountMoreSpec : ChangeSpec := { name := "accountMore", fn := fun _ => fun
  | [d1, d2, d3, d4] => { results := [.lit (.bool true)], args := [d1, d2, d3, d4] }
  | _ => none }
def accountMoreRow : OpenClaim := { program := "ytaopkjgldokahaadoor", sum := "f7b99c96be020709d76034413ef516030b4a1704e61d636dab3ccace8c47ea9a", func := "testamur/testamurlaw31.AccountMore", spec := "accountMore", unfollowed := true, recurses := true, named := ["math/bits.deBruijn64tab"], plainKeys := false, apart := false, laid := [("math/bits.deBruijn64tab", laid_math_bits_deBruijn64tab)] }
def AccountMoreSaid : Prop := accountMoreRow.holds Tryd.pinned (OpenSpec.ofChange accountMoreSpec)

/-- ITS FALSE NEIGHBOUR: 'it returns false'. Refute it at one input. -/
def accountMoreWrong : ChangeSpec := { name := "accountMore", fn := fun _ => fun
  | [d1, d2, d3, d4] => { results := [.lit (.bool false)], args := [d1, d2, d3, d4] }
  | _ => none }
def AccountMoreWrongFalsely : Prop := accountMoreRow.holds Tryd.pinned (OpenSpec.ofChange accountMoreWrong)

/-- 'testamurlaw31.AccountRound': WHATEVER THE INPUT: true; the input reads as it did. -/
def accountRoundSpec : ChangeSpec := { name := "accountRound", fn := fun _ => fun
  | [d1, d2, d3, d4] => { results := [.lit (.bool true)], args := [d1, d2, d3, d4] }
  | _ => none }
def accountRoundRow : OpenClaim := { program := "ytaopkjgldokahaadoor", sum := "f7b99c96be020709d76034413ef516030b4a1704e61d636dab3ccace8c47ea9a", func := "testamur/testamurlaw31.AccountRound", spec := "accountRound", unfollowed := true, recurses := true, named := ["math/bits.deBruijn64tab"], plainKeys := false, apart := false, laid := [("math/bits.deBruijn64tab", laid_math_bits_deBruijn64tab)] }
def AccountRoundSaid : Prop := accountRoundRow.holds Tryd.pinned (OpenSpec.ofChange accountRoundSpec)

/-- ITS FALSE NEIGHBOUR: 'it returns false'. Refute it at one input. -/
def accountRoundWrong : ChangeSpec := { name := "accountRound", fn := fun _ => fun
  | [d1, d2, d3, d4] => { results := [.lit (.bool false)], args := [d1, d2, d3, d4] }
  | _ => none }
def AccountRoundWrongFalsely : Prop := accountRoundRow.holds Tryd.pinned (OpenSpec.ofChange accountRoundWrong)

/- THE SECOND FORM. 'bulk': how many values and letters a reading holds, each counted each time it is reached (what is shared counts as often as it is met; a slice's spare places count too). A statement '..UptoSaid' is the law's where the arguments, and the package variables that the reading takes, are together of bulk at most 1048576: NARROWER than '..Said'. Prove '..Said' where nothing that the law and all that it calls make is longer than what came in: it says more and counts as full. Else prove '..UptoSaid'. A law counts once. -/
mutual
def uptoBulk {H : Type} : DataW H → Nat
  | .lit (.string bytes) => bytes.length + 1
  | .lit _ => 1
  | .nil => 1
  | .ptr d => uptoBulk d + 1
  | .slice elems spare => uptoBulkAll elems + uptoBulkAll spare + 1
  | .agg parts => uptoBulkAll parts + 1
  | .iface _ d => uptoBulk d + 1
  | .map entries => uptoBulkEntries entries + 1
  | .held _ => 1
def uptoBulkAll {H : Type} : List (DataW H) → Nat
  | [] => 0
  | d :: r => uptoBulk d + uptoBulkAll r
def uptoBulkEntries {H : Type} : List (Lit × DataW H) → Nat
  | [] => 0
  | x :: r => uptoBulkEntry x + uptoBulkEntries r
def uptoBulkEntry {H : Type} : Lit × DataW H → Nat
  | (.string bytes, d) => bytes.length + uptoBulk d + 1
  | (_, d) => uptoBulk d + 1
 end
def uptoSmall : (H : Type) → List (DataW H) → Bool := fun _ ds => decide (uptoBulkAll ds ≤ 1048576)
def OpenSpec.upto (s : _root_.Go.ChangeSpec) : _root_.Go.OpenSpec := { _root_.Go.OpenSpec.ofChange s with cond := some uptoSmall }

/-- 'testamurlaw31.AccountAnew', WHERE WHAT IT READS IS OF BULK AT MOST 1048576: true; the input reads as it did. -/
def accountAnewUptoRow : OpenClaim := { program := "ytaopkjgldokahaadoor", sum := "f7b99c96be020709d76034413ef516030b4a1704e61d636dab3ccace8c47ea9a", func := "testamur/testamurlaw31.AccountAnew", spec := "accountAnew", unfollowed := true, recurses := true, named := ["math/bits.deBruijn64tab"], plainKeys := false, apart := false, laid := [("math/bits.deBruijn64tab", laid_math_bits_deBruijn64tab)], narrowed := true }
def AccountAnewUptoSaid : Prop := accountAnewUptoRow.holds Tryd.pinned (OpenSpec.upto accountAnewSpec)

/-- 'testamurlaw31.AccountTrue', WHERE WHAT IT READS IS OF BULK AT MOST 1048576: true; the input reads as it did. -/
def accountTrueUptoRow : OpenClaim := { program := "ytaopkjgldokahaadoor", sum := "f7b99c96be020709d76034413ef516030b4a1704e61d636dab3ccace8c47ea9a", func := "testamur/testamurlaw31.AccountTrue", spec := "accountTrue", unfollowed := true, recurses := true, named := ["math/bits.deBruijn64tab"], plainKeys := false, apart := false, laid := [("math/bits.deBruijn64tab", laid_math_bits_deBruijn64tab)], narrowed := true }
def AccountTrueUptoSaid : Prop := accountTrueUptoRow.holds Tryd.pinned (OpenSpec.upto accountTrueSpec)

/-- 'testamurlaw31.AccountNarrow', WHERE WHAT IT READS IS OF BULK AT MOST 1048576: true; the input reads as it did. -/
def accountNarrowUptoRow : OpenClaim := { program := "ytaopkjgldokahaadoor", sum := "f7b99c96be020709d76034413ef516030b4a1704e61d636dab3ccace8c47ea9a", func := "testamur/testamurlaw31.AccountNarrow", spec := "accountNarrow", unfollowed := true, recurses := true, named := ["math/bits.deBruijn64tab"], plainKeys := false, apart := false, laid := [("math/bits.deBruijn64tab", laid_math_bits_deBruijn64tab)], narrowed := true }
def AccountNarrowUptoSaid : Prop := accountNarrowUptoRow.holds Tryd.pinned (OpenSpec.upto accountNarrowSpec)

/-- 'testamurlaw31.AccountMore', WHERE WHAT IT READS IS OF BULK AT MOST 1048576: true; the input reads as it did. -/
def accountMoreUptoRow : OpenClaim := { program := "ytaopkjgldokahaadoor", sum := "f7b99c96be020709d76034413ef516030b4a1704e61d636dab3ccace8c47ea9a", func := "testamur/testamurlaw31.AccountMore", spec := "accountMore", unfollowed := true, recurses := true, named := ["math/bits.deBruijn64tab"], plainKeys := false, apart := false, laid := [("math/bits.deBruijn64tab", laid_math_bits_deBruijn64tab)], narrowed := true }
def AccountMoreUptoSaid : Prop := accountMoreUptoRow.holds Tryd.pinned (OpenSpec.upto accountMoreSpec)

/-- 'testamurlaw31.AccountRound', WHERE WHAT IT READS IS OF BULK AT MOST 1048576: true; the input reads as it did. -/
def accountRoundUptoRow : OpenClaim := { program := "ytaopkjgldokahaadoor", sum := "f7b99c96be020709d76034413ef516030b4a1704e61d636dab3ccace8c47ea9a", func := "testamur/testamurlaw31.AccountRound", spec := "accountRound", unfollowed := true, recurses := true, named := ["math/bits.deBruijn64tab"], plainKeys := false, apart := false, laid := [("math/bits.deBruijn64tab", laid_math_bits_deBruijn64tab)], narrowed := true }
def AccountRoundUptoSaid : Prop := accountRoundUptoRow.holds Tryd.pinned (OpenSpec.upto accountRoundSpec)

end Rows
end Go.Proofs.YtaopkjgldokahaaDoor
