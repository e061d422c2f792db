/-
  DERIVED. GIVEN WITH THE SEED: THE CARDS: each row of YtaopkjgldokahaaGreatDoorRows.lean that lists a variable, with what it lists TIED to the program's text (the seventh form; the later family's looks); each row that meets fmt, with fmt's text TOLD by the authors' own Lean function (tested against real Go, not proved from fmt's source: count such statements apart). THE CARD IS WHAT COUNTS. Prove the row's statement (the work); the ties are given (YtaopkjgldokahaaGreatDoorTie.lean); close each card by the builder's one call (the guide's Derived/Test/ToyasCard.lean, 'card_holds'). Laid BY PROGRAM, IN A SANDBOX (cutbox-door.mjs). By AI agents, Wed Nov 11 2026. No macro, syntax, notation, axiom, sorry.
-/
import Derived.Test.YtaopkjgldokahaaGreatDoorRows
import GoSem.ClaimSeven
namespace Go.Proofs.YtaopkjgldokahaaGreatDoor
namespace Rows

/-- THE TIED CARD OF 'testamurlaw31.AccountAddSpec'. -/
def accountAddSpecCard : Claim7 := { stood := { row := accountAddSpecRow, standIns := [], harness := (true, "e3215ff07f36fd82d29b001a642a137cc2cdfbaa3f6c570a3ea52fe3b696adc5"), looks := false }, kinds := [], alts := [], laidByText := true, laidKinds := [.data], laidTests := true, laidLooks := .later }
def AccountAddSpecCardSaid : Prop := Claim7.holds Tryz.pinned (.plain (OpenSpec.ofChange accountAddSpecSpec)) accountAddSpecCard

/-- THE TIED CARD OF 'testamurlaw31.AccountLeastSpec'. -/
def accountLeastSpecCard : Claim7 := { stood := { row := accountLeastSpecRow, standIns := [], harness := (true, "e3215ff07f36fd82d29b001a642a137cc2cdfbaa3f6c570a3ea52fe3b696adc5"), looks := false }, kinds := [], alts := [], laidByText := true, laidKinds := [.data], laidTests := true, laidLooks := .later }
def AccountLeastSpecCardSaid : Prop := Claim7.holds Tryz.pinned (.plain (OpenSpec.ofChange accountLeastSpecSpec)) accountLeastSpecCard

/-- THE SECOND FORM's CARD OF 'testamurlaw31.AccountAddSpec'. -/
def accountAddSpecUptoCard : Claim7 := { stood := { row := accountAddSpecUptoRow, standIns := [], harness := (true, "e3215ff07f36fd82d29b001a642a137cc2cdfbaa3f6c570a3ea52fe3b696adc5"), looks := false }, kinds := [], alts := [], laidByText := true, laidKinds := [.data], laidTests := true, laidLooks := .later }
def AccountAddSpecUptoCardSaid : Prop := Claim7.holds Tryz.pinned (.plain (OpenSpec.upto accountAddSpecSpec)) accountAddSpecUptoCard

/-- THE SECOND FORM's CARD OF 'testamurlaw31.AccountLeastSpec'. -/
def accountLeastSpecUptoCard : Claim7 := { stood := { row := accountLeastSpecUptoRow, standIns := [], harness := (true, "e3215ff07f36fd82d29b001a642a137cc2cdfbaa3f6c570a3ea52fe3b696adc5"), looks := false }, kinds := [], alts := [], laidByText := true, laidKinds := [.data], laidTests := true, laidLooks := .later }
def AccountLeastSpecUptoCardSaid : Prop := Claim7.holds Tryz.pinned (.plain (OpenSpec.upto accountLeastSpecSpec)) accountLeastSpecUptoCard
end Rows
end Go.Proofs.YtaopkjgldokahaaGreatDoor
