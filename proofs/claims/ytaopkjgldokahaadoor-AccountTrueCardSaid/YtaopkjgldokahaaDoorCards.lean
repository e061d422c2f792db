/-
  DERIVED. GIVEN WITH THE SEED: THE CARDS: each row of YtaopkjgldokahaaDoorRows.lean that lists a variable, with what it lists TIED to the program's text (the seventh form; the later family's looks); each row that meets fmt, with fmt's text TOLD by the authors' own Lean function (tested against real Go, not proved from fmt's source: count such statements apart). THE CARD IS WHAT COUNTS. Prove the row's statement (the work); the ties are given (YtaopkjgldokahaaDoorTie.lean); close each card by the builder's one call (the guide's Derived/Test/ToyasCard.lean, 'card_holds'). Laid BY PROGRAM, IN A SANDBOX (cutbox-door.mjs). By AI agents, Wed Nov 11 2026. No macro, syntax, notation, axiom, sorry.
-/
import Derived.Test.YtaopkjgldokahaaDoorRows
import GoSem.ClaimSeven
namespace Go.Proofs.YtaopkjgldokahaaDoor
namespace Rows

/-- THE TIED CARD OF 'testamurlaw31.AccountAnew'. -/
def accountAnewCard : Claim7 := { stood := { row := accountAnewRow, standIns := [], harness := (true, "b72b32de743d826df5b2873f23d602c53803940e87d116771b5e76fb27b1ffe5"), looks := false }, kinds := [], alts := [], laidByText := true, laidKinds := [.data], laidTests := true, laidLooks := .later }
def AccountAnewCardSaid : Prop := Claim7.holds Tryd.pinned (.plain (OpenSpec.ofChange accountAnewSpec)) accountAnewCard

/-- THE TIED CARD OF 'testamurlaw31.AccountTrue'. -/
def accountTrueCard : Claim7 := { stood := { row := accountTrueRow, standIns := [], harness := (true, "b72b32de743d826df5b2873f23d602c53803940e87d116771b5e76fb27b1ffe5"), looks := false }, kinds := [], alts := [], laidByText := true, laidKinds := [.data], laidTests := true, laidLooks := .later }
def AccountTrueCardSaid : Prop := Claim7.holds Tryd.pinned (.plain (OpenSpec.ofChange accountTrueSpec)) accountTrueCard

/-- THE TIED CARD OF 'testamurlaw31.AccountNarrow'. -/
def accountNarrowCard : Claim7 := { stood := { row := accountNarrowRow, standIns := [], harness := (true, "b72b32de743d826df5b2873f23d602c53803940e87d116771b5e76fb27b1ffe5"), looks := false }, kinds := [], alts := [], laidByText := true, laidKinds := [.data], laidTests := true, laidLooks := .later }
def AccountNarrowCardSaid : Prop := Claim7.holds Tryd.pinned (.plain (OpenSpec.ofChange accountNarrowSpec)) accountNarrowCard

/-- THE TIED CARD OF 'testamurlaw31.AccountMore'. -/
def accountMoreCard : Claim7 := { stood := { row := accountMoreRow, standIns := [], harness := (true, "b72b32de743d826df5b2873f23d602c53803940e87d116771b5e76fb27b1ffe5"), looks := false }, kinds := [], alts := [], laidByText := true, laidKinds := [.data], laidTests := true, laidLooks := .later }
def AccountMoreCardSaid : Prop := Claim7.holds Tryd.pinned (.plain (OpenSpec.ofChange accountMoreSpec)) accountMoreCard

/-- THE TIED CARD OF 'testamurlaw31.AccountRound'. -/
def accountRoundCard : Claim7 := { stood := { row := accountRoundRow, standIns := [], harness := (true, "b72b32de743d826df5b2873f23d602c53803940e87d116771b5e76fb27b1ffe5"), looks := false }, kinds := [], alts := [], laidByText := true, laidKinds := [.data], laidTests := true, laidLooks := .later }
def AccountRoundCardSaid : Prop := Claim7.holds Tryd.pinned (.plain (OpenSpec.ofChange accountRoundSpec)) accountRoundCard

/-- THE SECOND FORM's CARD OF 'testamurlaw31.AccountAnew'. -/
def accountAnewUptoCard : Claim7 := { stood := { row := accountAnewUptoRow, standIns := [], harness := (true, "b72b32de743d826df5b2873f23d602c53803940e87d116771b5e76fb27b1ffe5"), looks := false }, kinds := [], alts := [], laidByText := true, laidKinds := [.data], laidTests := true, laidLooks := .later }
def AccountAnewUptoCardSaid : Prop := Claim7.holds Tryd.pinned (.plain (OpenSpec.upto accountAnewSpec)) accountAnewUptoCard

/-- THE SECOND FORM's CARD OF 'testamurlaw31.AccountTrue'. -/
def accountTrueUptoCard : Claim7 := { stood := { row := accountTrueUptoRow, standIns := [], harness := (true, "b72b32de743d826df5b2873f23d602c53803940e87d116771b5e76fb27b1ffe5"), looks := false }, kinds := [], alts := [], laidByText := true, laidKinds := [.data], laidTests := true, laidLooks := .later }
def AccountTrueUptoCardSaid : Prop := Claim7.holds Tryd.pinned (.plain (OpenSpec.upto accountTrueSpec)) accountTrueUptoCard

/-- THE SECOND FORM's CARD OF 'testamurlaw31.AccountNarrow'. -/
def accountNarrowUptoCard : Claim7 := { stood := { row := accountNarrowUptoRow, standIns := [], harness := (true, "b72b32de743d826df5b2873f23d602c53803940e87d116771b5e76fb27b1ffe5"), looks := false }, kinds := [], alts := [], laidByText := true, laidKinds := [.data], laidTests := true, laidLooks := .later }
def AccountNarrowUptoCardSaid : Prop := Claim7.holds Tryd.pinned (.plain (OpenSpec.upto accountNarrowSpec)) accountNarrowUptoCard

/-- THE SECOND FORM's CARD OF 'testamurlaw31.AccountMore'. -/
def accountMoreUptoCard : Claim7 := { stood := { row := accountMoreUptoRow, standIns := [], harness := (true, "b72b32de743d826df5b2873f23d602c53803940e87d116771b5e76fb27b1ffe5"), looks := false }, kinds := [], alts := [], laidByText := true, laidKinds := [.data], laidTests := true, laidLooks := .later }
def AccountMoreUptoCardSaid : Prop := Claim7.holds Tryd.pinned (.plain (OpenSpec.upto accountMoreSpec)) accountMoreUptoCard

/-- THE SECOND FORM's CARD OF 'testamurlaw31.AccountRound'. -/
def accountRoundUptoCard : Claim7 := { stood := { row := accountRoundUptoRow, standIns := [], harness := (true, "b72b32de743d826df5b2873f23d602c53803940e87d116771b5e76fb27b1ffe5"), looks := false }, kinds := [], alts := [], laidByText := true, laidKinds := [.data], laidTests := true, laidLooks := .later }
def AccountRoundUptoCardSaid : Prop := Claim7.holds Tryd.pinned (.plain (OpenSpec.upto accountRoundSpec)) accountRoundUptoCard
end Rows
end Go.Proofs.YtaopkjgldokahaaDoor
