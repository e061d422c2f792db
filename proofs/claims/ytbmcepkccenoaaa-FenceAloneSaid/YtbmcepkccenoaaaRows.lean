/-
  No cell of these rows narrows 'for every input' (looked for: loops, veiled, ifaces, maps, wideKeys, modest, calm, conditions, laid).
  DERIVED. THE GIVEN ROWS OF THIS SEAT. 6 by the template 'for every input the law returns true; each argument reads behind the call as it read before'; 0 by the template 'total and deterministic' (their statements: YtbmcepkccenoaaaTotals.lean).
  GIVEN WITH THE SEED: the statements are not yours to turn. If you find one false, say at which input.
  Laid BY PROGRAM, IN A SANDBOX (cutbox-rows.mjs): the forced cells as the released guide's own fill.sh prints them over the translation b05ecab78b76017a… (all of the seat's roots in one cut). By AI agents, Wed Nov 11 2026. No macro, syntax, notation, axiom, sorry.
-/
import Derived.Test.YtbmcepkccenoaaaChecked
import GoSem.Claim
import GoSem.ClaimJoined
import GoSem.ClaimMapViews
import Derived.JoinedTies
import Derived.KernelRfl
namespace Go.Proofs.Ytbmcepkccenoaaa
/- THE CELL 'sum', in the pinned program and in every row, IS THE sha256 OF THE DUMP (.gsa) THAT YtbmcepkccenoaaaProg.lean LOADS. Nothing in Lean hashes anything: it is a label: what it is worth is what the hold of that sum in a sandbox is worth. -/
noncomputable def Try.pinned : Pinned := { name := "ytbmcepkccenoaaa", sum := "b05ecab78b76017a06c115e060b45bf7d598c5b6e0976101a1e0d72fbe277cdc", checked := Try.checked }
namespace Rows
def none {H : Type} : Left H := { results := [], args := [] }

/-- 'testamurlaw44.FenceVoteSpec': WHATEVER THE INPUT: true; the input reads as it did. -/
def fenceVoteSpecSpec : ChangeSpec := { name := "fenceVoteSpec", fn := fun _ => fun
  | [d1, d2, d3, d4] => { results := [.lit (.bool true)], args := [d1, d2, d3, d4] }
  | _ => none }
def fenceVoteSpecRow : OpenClaim := { program := "ytbmcepkccenoaaa", sum := "b05ecab78b76017a06c115e060b45bf7d598c5b6e0976101a1e0d72fbe277cdc", func := "testamur/testamurlaw44.FenceVoteSpec", spec := "fenceVoteSpec", unfollowed := true, recurses := true, apart := false }
def FenceVoteSpecSaid : Prop := fenceVoteSpecRow.holds Try.pinned (OpenSpec.ofChange fenceVoteSpecSpec)

/-- ITS FALSE NEIGHBOUR: 'it returns false'. Refute it at one input. -/
def fenceVoteSpecWrong : ChangeSpec := { name := "fenceVoteSpec", fn := fun _ => fun
  | [d1, d2, d3, d4] => { results := [.lit (.bool false)], args := [d1, d2, d3, d4] }
  | _ => none }
def FenceVoteSpecWrongFalsely : Prop := fenceVoteSpecRow.holds Try.pinned (OpenSpec.ofChange fenceVoteSpecWrong)

/-- 'testamurlaw44.FenceHelpSpec': WHATEVER THE INPUT: true; the input reads as it did. -/
def fenceHelpSpecSpec : ChangeSpec := { name := "fenceHelpSpec", fn := fun _ => fun
  | [d1, d2, d3, d4, d5, d6, d7, d8, d9] => { results := [.lit (.bool true)], args := [d1, d2, d3, d4, d5, d6, d7, d8, d9] }
  | _ => none }
def fenceHelpSpecRow : OpenClaim := { program := "ytbmcepkccenoaaa", sum := "b05ecab78b76017a06c115e060b45bf7d598c5b6e0976101a1e0d72fbe277cdc", func := "testamur/testamurlaw44.FenceHelpSpec", spec := "fenceHelpSpec", unfollowed := true, recurses := true, apart := false }
def FenceHelpSpecSaid : Prop := fenceHelpSpecRow.holds Try.pinned (OpenSpec.ofChange fenceHelpSpecSpec)

/-- ITS FALSE NEIGHBOUR: 'it returns false'. Refute it at one input. -/
def fenceHelpSpecWrong : ChangeSpec := { name := "fenceHelpSpec", fn := fun _ => fun
  | [d1, d2, d3, d4, d5, d6, d7, d8, d9] => { results := [.lit (.bool false)], args := [d1, d2, d3, d4, d5, d6, d7, d8, d9] }
  | _ => none }
def FenceHelpSpecWrongFalsely : Prop := fenceHelpSpecRow.holds Try.pinned (OpenSpec.ofChange fenceHelpSpecWrong)

/-- 'testamurlaw44.FenceMajority': WHATEVER THE INPUT: true; the input reads as it did. -/
def fenceMajoritySpec : ChangeSpec := { name := "fenceMajority", fn := fun _ => fun
  | [d1, d2, d3] => { results := [.lit (.bool true)], args := [d1, d2, d3] }
  | _ => none }
def fenceMajorityRow : OpenClaim := { program := "ytbmcepkccenoaaa", sum := "b05ecab78b76017a06c115e060b45bf7d598c5b6e0976101a1e0d72fbe277cdc", func := "testamur/testamurlaw44.FenceMajority", spec := "fenceMajority", unfollowed := true, recurses := true, apart := false }
def FenceMajoritySaid : Prop := fenceMajorityRow.holds Try.pinned (OpenSpec.ofChange fenceMajoritySpec)

/-- ITS FALSE NEIGHBOUR: 'it returns false'. Refute it at one input. -/
def fenceMajorityWrong : ChangeSpec := { name := "fenceMajority", fn := fun _ => fun
  | [d1, d2, d3] => { results := [.lit (.bool false)], args := [d1, d2, d3] }
  | _ => none }
def FenceMajorityWrongFalsely : Prop := fenceMajorityRow.holds Try.pinned (OpenSpec.ofChange fenceMajorityWrong)

/-- 'testamurlaw44.FenceFew': WHATEVER THE INPUT: true; the input reads as it did. -/
def fenceFewSpec : ChangeSpec := { name := "fenceFew", fn := fun _ => fun
  | [d1, d2, d3, d4, d5] => { results := [.lit (.bool true)], args := [d1, d2, d3, d4, d5] }
  | _ => none }
def fenceFewRow : OpenClaim := { program := "ytbmcepkccenoaaa", sum := "b05ecab78b76017a06c115e060b45bf7d598c5b6e0976101a1e0d72fbe277cdc", func := "testamur/testamurlaw44.FenceFew", spec := "fenceFew", unfollowed := true, recurses := true, apart := false }
def FenceFewSaid : Prop := fenceFewRow.holds Try.pinned (OpenSpec.ofChange fenceFewSpec)

/-- ITS FALSE NEIGHBOUR: 'it returns false'. Refute it at one input. -/
def fenceFewWrong : ChangeSpec := { name := "fenceFew", fn := fun _ => fun
  | [d1, d2, d3, d4, d5] => { results := [.lit (.bool false)], args := [d1, d2, d3, d4, d5] }
  | _ => none }
def FenceFewWrongFalsely : Prop := fenceFewRow.holds Try.pinned (OpenSpec.ofChange fenceFewWrong)

/-- 'testamurlaw44.FenceOrder': WHATEVER THE INPUT: true; the input reads as it did. -/
def fenceOrderSpec : ChangeSpec := { name := "fenceOrder", fn := fun _ => fun
  | [d1, d2, d3] => { results := [.lit (.bool true)], args := [d1, d2, d3] }
  | _ => none }
def fenceOrderRow : OpenClaim := { program := "ytbmcepkccenoaaa", sum := "b05ecab78b76017a06c115e060b45bf7d598c5b6e0976101a1e0d72fbe277cdc", func := "testamur/testamurlaw44.FenceOrder", spec := "fenceOrder", unfollowed := true, recurses := true, apart := false }
def FenceOrderSaid : Prop := fenceOrderRow.holds Try.pinned (OpenSpec.ofChange fenceOrderSpec)

/-- ITS FALSE NEIGHBOUR: 'it returns false'. Refute it at one input. -/
def fenceOrderWrong : ChangeSpec := { name := "fenceOrder", fn := fun _ => fun
  | [d1, d2, d3] => { results := [.lit (.bool false)], args := [d1, d2, d3] }
  | _ => none }
def FenceOrderWrongFalsely : Prop := fenceOrderRow.holds Try.pinned (OpenSpec.ofChange fenceOrderWrong)

/-- 'testamurlaw44.FenceAlone': WHATEVER THE INPUT: true; the input reads as it did. -/
def fenceAloneSpec : ChangeSpec := { name := "fenceAlone", fn := fun _ => fun
  | [d1, d2, d3, d4, d5, d6, d7] => { results := [.lit (.bool true)], args := [d1, d2, d3, d4, d5, d6, d7] }
  | _ => none }
def fenceAloneRow : OpenClaim := { program := "ytbmcepkccenoaaa", sum := "b05ecab78b76017a06c115e060b45bf7d598c5b6e0976101a1e0d72fbe277cdc", func := "testamur/testamurlaw44.FenceAlone", spec := "fenceAlone", unfollowed := true, recurses := true, apart := false }
def FenceAloneSaid : Prop := fenceAloneRow.holds Try.pinned (OpenSpec.ofChange fenceAloneSpec)

/-- ITS FALSE NEIGHBOUR: 'it returns false'. Refute it at one input. -/
def fenceAloneWrong : ChangeSpec := { name := "fenceAlone", fn := fun _ => fun
  | [d1, d2, d3, d4, d5, d6, d7] => { results := [.lit (.bool false)], args := [d1, d2, d3, d4, d5, d6, d7] }
  | _ => none }
def FenceAloneWrongFalsely : Prop := fenceAloneRow.holds Try.pinned (OpenSpec.ofChange fenceAloneWrong)

/- THE SECOND FORM. 'bulk': how many values and letters a reading holds, each counted each time it is reached (what is shared counts as often as it is met; a slice's spare places count too). A statement '..UptoSaid' is the law's where the arguments, and the package variables that the reading takes, are together of bulk at most 1048576: NARROWER than '..Said'. Prove '..Said' where nothing that the law and all that it calls make is longer than what came in: it says more and counts as full. Else prove '..UptoSaid'. A law counts once. -/
mutual
def uptoBulk {H : Type} : DataW H → Nat
  | .lit (.string bytes) => bytes.length + 1
  | .lit _ => 1
  | .nil => 1
  | .ptr d => uptoBulk d + 1
  | .slice elems spare => uptoBulkAll elems + uptoBulkAll spare + 1
  | .agg parts => uptoBulkAll parts + 1
  | .iface _ d => uptoBulk d + 1
  | .map entries => uptoBulkEntries entries + 1
  | .held _ => 1
def uptoBulkAll {H : Type} : List (DataW H) → Nat
  | [] => 0
  | d :: r => uptoBulk d + uptoBulkAll r
def uptoBulkEntries {H : Type} : List (Lit × DataW H) → Nat
  | [] => 0
  | x :: r => uptoBulkEntry x + uptoBulkEntries r
def uptoBulkEntry {H : Type} : Lit × DataW H → Nat
  | (.string bytes, d) => bytes.length + uptoBulk d + 1
  | (_, d) => uptoBulk d + 1
 end
def uptoSmall : (H : Type) → List (DataW H) → Bool := fun _ ds => decide (uptoBulkAll ds ≤ 1048576)
def OpenSpec.upto (s : _root_.Go.ChangeSpec) : _root_.Go.OpenSpec := { _root_.Go.OpenSpec.ofChange s with cond := some uptoSmall }

/-- 'testamurlaw44.FenceVoteSpec', WHERE WHAT IT READS IS OF BULK AT MOST 1048576: true; the input reads as it did. -/
def fenceVoteSpecUptoRow : OpenClaim := { program := "ytbmcepkccenoaaa", sum := "b05ecab78b76017a06c115e060b45bf7d598c5b6e0976101a1e0d72fbe277cdc", func := "testamur/testamurlaw44.FenceVoteSpec", spec := "fenceVoteSpec", unfollowed := true, recurses := true, apart := false, narrowed := true }
def FenceVoteSpecUptoSaid : Prop := fenceVoteSpecUptoRow.holds Try.pinned (OpenSpec.upto fenceVoteSpecSpec)

/-- 'testamurlaw44.FenceHelpSpec', WHERE WHAT IT READS IS OF BULK AT MOST 1048576: true; the input reads as it did. -/
def fenceHelpSpecUptoRow : OpenClaim := { program := "ytbmcepkccenoaaa", sum := "b05ecab78b76017a06c115e060b45bf7d598c5b6e0976101a1e0d72fbe277cdc", func := "testamur/testamurlaw44.FenceHelpSpec", spec := "fenceHelpSpec", unfollowed := true, recurses := true, apart := false, narrowed := true }
def FenceHelpSpecUptoSaid : Prop := fenceHelpSpecUptoRow.holds Try.pinned (OpenSpec.upto fenceHelpSpecSpec)

/-- 'testamurlaw44.FenceMajority', WHERE WHAT IT READS IS OF BULK AT MOST 1048576: true; the input reads as it did. -/
def fenceMajorityUptoRow : OpenClaim := { program := "ytbmcepkccenoaaa", sum := "b05ecab78b76017a06c115e060b45bf7d598c5b6e0976101a1e0d72fbe277cdc", func := "testamur/testamurlaw44.FenceMajority", spec := "fenceMajority", unfollowed := true, recurses := true, apart := false, narrowed := true }
def FenceMajorityUptoSaid : Prop := fenceMajorityUptoRow.holds Try.pinned (OpenSpec.upto fenceMajoritySpec)

/-- 'testamurlaw44.FenceFew', WHERE WHAT IT READS IS OF BULK AT MOST 1048576: true; the input reads as it did. -/
def fenceFewUptoRow : OpenClaim := { program := "ytbmcepkccenoaaa", sum := "b05ecab78b76017a06c115e060b45bf7d598c5b6e0976101a1e0d72fbe277cdc", func := "testamur/testamurlaw44.FenceFew", spec := "fenceFew", unfollowed := true, recurses := true, apart := false, narrowed := true }
def FenceFewUptoSaid : Prop := fenceFewUptoRow.holds Try.pinned (OpenSpec.upto fenceFewSpec)

/-- 'testamurlaw44.FenceOrder', WHERE WHAT IT READS IS OF BULK AT MOST 1048576: true; the input reads as it did. -/
def fenceOrderUptoRow : OpenClaim := { program := "ytbmcepkccenoaaa", sum := "b05ecab78b76017a06c115e060b45bf7d598c5b6e0976101a1e0d72fbe277cdc", func := "testamur/testamurlaw44.FenceOrder", spec := "fenceOrder", unfollowed := true, recurses := true, apart := false, narrowed := true }
def FenceOrderUptoSaid : Prop := fenceOrderUptoRow.holds Try.pinned (OpenSpec.upto fenceOrderSpec)

/-- 'testamurlaw44.FenceAlone', WHERE WHAT IT READS IS OF BULK AT MOST 1048576: true; the input reads as it did. -/
def fenceAloneUptoRow : OpenClaim := { program := "ytbmcepkccenoaaa", sum := "b05ecab78b76017a06c115e060b45bf7d598c5b6e0976101a1e0d72fbe277cdc", func := "testamur/testamurlaw44.FenceAlone", spec := "fenceAlone", unfollowed := true, recurses := true, apart := false, narrowed := true }
def FenceAloneUptoSaid : Prop := fenceAloneUptoRow.holds Try.pinned (OpenSpec.upto fenceAloneSpec)

end Rows
end Go.Proofs.Ytbmcepkccenoaaa
