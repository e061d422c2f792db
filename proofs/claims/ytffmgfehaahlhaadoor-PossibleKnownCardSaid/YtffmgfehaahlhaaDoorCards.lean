/-
  DERIVED. GIVEN WITH THE SEED: THE CARDS: each row of YtffmgfehaahlhaaDoorRows.lean that lists a variable, with what it lists TIED to the program's text (the seventh form; the later family's looks); each row that meets fmt, with fmt's text TOLD by the authors' own Lean function (tested against real Go, not proved from fmt's source: count such statements apart). THE CARD IS WHAT COUNTS. Prove the row's statement (the work); the ties are given (YtffmgfehaahlhaaDoorTie.lean); close each card by the builder's one call (the guide's Derived/Test/ToyasCard.lean, 'card_holds'). Laid BY PROGRAM, IN A SANDBOX (cutbox-door.mjs). By AI agents, Wed Nov 11 2026. No macro, syntax, notation, axiom, sorry.
-/
import Derived.Test.YtffmgfehaahlhaaDoorRows
import GoSem.ClaimSeven
namespace Go.Proofs.YtffmgfehaahlhaaDoor
namespace Rows

/-- THE TIED CARD OF 'testamurlaw30.PossibleCheckSpec'. -/
def possibleCheckSpecCard : Claim7 := { stood := { row := possibleCheckSpecRow, standIns := [], harness := (true, "0ba69c9015ec36225fad3d349e9e33d8c719f02d1fa742a6aef5915b5d7b3d20"), looks := false }, kinds := [], alts := [], laidByText := true, laidKinds := [.data], laidTests := true, laidLooks := .later }
def PossibleCheckSpecCardSaid : Prop := Claim7.holds Tryd.pinned (.plain (OpenSpec.ofChange possibleCheckSpecSpec)) possibleCheckSpecCard

/-- THE TIED CARD OF 'testamurlaw30.PossibleSpec'. -/
def possibleSpecCard : Claim7 := { stood := { row := possibleSpecRow, standIns := [], harness := (true, "0ba69c9015ec36225fad3d349e9e33d8c719f02d1fa742a6aef5915b5d7b3d20"), looks := false }, kinds := [], alts := [], laidByText := true, laidKinds := [.data], laidTests := true, laidLooks := .later }
def PossibleSpecCardSaid : Prop := Claim7.holds Tryd.pinned (.plain (OpenSpec.ofChange possibleSpecSpec)) possibleSpecCard

/-- THE TIED CARD OF 'testamurlaw30.PossibleExact'. -/
def possibleExactCard : Claim7 := { stood := { row := possibleExactRow, standIns := [], harness := (true, "0ba69c9015ec36225fad3d349e9e33d8c719f02d1fa742a6aef5915b5d7b3d20"), looks := false }, kinds := [], alts := [], laidByText := true, laidKinds := [.data], laidTests := true, laidLooks := .later }
def PossibleExactCardSaid : Prop := Claim7.holds Tryd.pinned (.plain (OpenSpec.ofChange possibleExactSpec)) possibleExactCard

/-- THE TIED CARD OF 'testamurlaw30.PossibleWitness'. -/
def possibleWitnessCard : Claim7 := { stood := { row := possibleWitnessRow, standIns := [], harness := (true, "0ba69c9015ec36225fad3d349e9e33d8c719f02d1fa742a6aef5915b5d7b3d20"), looks := false }, kinds := [], alts := [], laidByText := true, laidKinds := [.data], laidTests := true, laidLooks := .later }
def PossibleWitnessCardSaid : Prop := Claim7.holds Tryd.pinned (.plain (OpenSpec.ofChange possibleWitnessSpec)) possibleWitnessCard

/-- THE TIED CARD OF 'testamurlaw30.PossibleMore'. -/
def possibleMoreCard : Claim7 := { stood := { row := possibleMoreRow, standIns := [], harness := (true, "0ba69c9015ec36225fad3d349e9e33d8c719f02d1fa742a6aef5915b5d7b3d20"), looks := false }, kinds := [], alts := [], laidByText := true, laidKinds := [.data], laidTests := true, laidLooks := .later }
def PossibleMoreCardSaid : Prop := Claim7.holds Tryd.pinned (.plain (OpenSpec.ofChange possibleMoreSpec)) possibleMoreCard

/-- THE TIED CARD OF 'testamurlaw30.PossibleKnown'. -/
def possibleKnownCard : Claim7 := { stood := { row := possibleKnownRow, standIns := [], harness := (true, "0ba69c9015ec36225fad3d349e9e33d8c719f02d1fa742a6aef5915b5d7b3d20"), looks := false }, kinds := [], alts := [], laidByText := true, laidKinds := [.data], laidTests := true, laidLooks := .later }
def PossibleKnownCardSaid : Prop := Claim7.holds Tryd.pinned (.plain (OpenSpec.ofChange possibleKnownSpec)) possibleKnownCard

/-- THE TIED CARD OF 'testamurlaw30.PossibleAlike'. -/
def possibleAlikeCard : Claim7 := { stood := { row := possibleAlikeRow, standIns := [], harness := (true, "0ba69c9015ec36225fad3d349e9e33d8c719f02d1fa742a6aef5915b5d7b3d20"), looks := false }, kinds := [], alts := [], laidByText := true, laidKinds := [.data], laidTests := true, laidLooks := .later }
def PossibleAlikeCardSaid : Prop := Claim7.holds Tryd.pinned (.plain (OpenSpec.ofChange possibleAlikeSpec)) possibleAlikeCard

/-- THE SECOND FORM's CARD OF 'testamurlaw30.PossibleCheckSpec'. -/
def possibleCheckSpecUptoCard : Claim7 := { stood := { row := possibleCheckSpecUptoRow, standIns := [], harness := (true, "0ba69c9015ec36225fad3d349e9e33d8c719f02d1fa742a6aef5915b5d7b3d20"), looks := false }, kinds := [], alts := [], laidByText := true, laidKinds := [.data], laidTests := true, laidLooks := .later }
def PossibleCheckSpecUptoCardSaid : Prop := Claim7.holds Tryd.pinned (.plain (OpenSpec.upto possibleCheckSpecSpec)) possibleCheckSpecUptoCard

/-- THE SECOND FORM's CARD OF 'testamurlaw30.PossibleSpec'. -/
def possibleSpecUptoCard : Claim7 := { stood := { row := possibleSpecUptoRow, standIns := [], harness := (true, "0ba69c9015ec36225fad3d349e9e33d8c719f02d1fa742a6aef5915b5d7b3d20"), looks := false }, kinds := [], alts := [], laidByText := true, laidKinds := [.data], laidTests := true, laidLooks := .later }
def PossibleSpecUptoCardSaid : Prop := Claim7.holds Tryd.pinned (.plain (OpenSpec.upto possibleSpecSpec)) possibleSpecUptoCard

/-- THE SECOND FORM's CARD OF 'testamurlaw30.PossibleExact'. -/
def possibleExactUptoCard : Claim7 := { stood := { row := possibleExactUptoRow, standIns := [], harness := (true, "0ba69c9015ec36225fad3d349e9e33d8c719f02d1fa742a6aef5915b5d7b3d20"), looks := false }, kinds := [], alts := [], laidByText := true, laidKinds := [.data], laidTests := true, laidLooks := .later }
def PossibleExactUptoCardSaid : Prop := Claim7.holds Tryd.pinned (.plain (OpenSpec.upto possibleExactSpec)) possibleExactUptoCard

/-- THE SECOND FORM's CARD OF 'testamurlaw30.PossibleWitness'. -/
def possibleWitnessUptoCard : Claim7 := { stood := { row := possibleWitnessUptoRow, standIns := [], harness := (true, "0ba69c9015ec36225fad3d349e9e33d8c719f02d1fa742a6aef5915b5d7b3d20"), looks := false }, kinds := [], alts := [], laidByText := true, laidKinds := [.data], laidTests := true, laidLooks := .later }
def PossibleWitnessUptoCardSaid : Prop := Claim7.holds Tryd.pinned (.plain (OpenSpec.upto possibleWitnessSpec)) possibleWitnessUptoCard

/-- THE SECOND FORM's CARD OF 'testamurlaw30.PossibleMore'. -/
def possibleMoreUptoCard : Claim7 := { stood := { row := possibleMoreUptoRow, standIns := [], harness := (true, "0ba69c9015ec36225fad3d349e9e33d8c719f02d1fa742a6aef5915b5d7b3d20"), looks := false }, kinds := [], alts := [], laidByText := true, laidKinds := [.data], laidTests := true, laidLooks := .later }
def PossibleMoreUptoCardSaid : Prop := Claim7.holds Tryd.pinned (.plain (OpenSpec.upto possibleMoreSpec)) possibleMoreUptoCard

/-- THE SECOND FORM's CARD OF 'testamurlaw30.PossibleKnown'. -/
def possibleKnownUptoCard : Claim7 := { stood := { row := possibleKnownUptoRow, standIns := [], harness := (true, "0ba69c9015ec36225fad3d349e9e33d8c719f02d1fa742a6aef5915b5d7b3d20"), looks := false }, kinds := [], alts := [], laidByText := true, laidKinds := [.data], laidTests := true, laidLooks := .later }
def PossibleKnownUptoCardSaid : Prop := Claim7.holds Tryd.pinned (.plain (OpenSpec.upto possibleKnownSpec)) possibleKnownUptoCard

/-- THE SECOND FORM's CARD OF 'testamurlaw30.PossibleAlike'. -/
def possibleAlikeUptoCard : Claim7 := { stood := { row := possibleAlikeUptoRow, standIns := [], harness := (true, "0ba69c9015ec36225fad3d349e9e33d8c719f02d1fa742a6aef5915b5d7b3d20"), looks := false }, kinds := [], alts := [], laidByText := true, laidKinds := [.data], laidTests := true, laidLooks := .later }
def PossibleAlikeUptoCardSaid : Prop := Claim7.holds Tryd.pinned (.plain (OpenSpec.upto possibleAlikeSpec)) possibleAlikeUptoCard
end Rows
end Go.Proofs.YtffmgfehaahlhaaDoor
