/-
  DERIVED. GIVEN WITH THE SEED: THE CARDS: each row of YtplfjjgkbnolhaaGreatDoorRows.lean that lists a variable, with what it lists TIED to the program's text (the seventh form; the later family's looks); each row that meets fmt, with fmt's text TOLD by the authors' own Lean function (tested against real Go, not proved from fmt's source: count such statements apart). THE CARD IS WHAT COUNTS. Prove the row's statement (the work); the ties are given (YtplfjjgkbnolhaaGreatDoorTie.lean); close each card by the builder's one call (the guide's Derived/Test/ToyasCard.lean, 'card_holds'). Laid BY PROGRAM, IN A SANDBOX (cutbox-door.mjs). By AI agents, Wed Nov 11 2026. No macro, syntax, notation, axiom, sorry.
-/
import Derived.Test.YtplfjjgkbnolhaaGreatDoorRows
import GoSem.ClaimSeven
namespace Go.Proofs.YtplfjjgkbnolhaaGreatDoor
namespace Rows

/-- THE TIED CARD OF 'wireloomlaw09.SyntaxMatchesReference'. -/
def syntaxMatchesReferenceCard : Claim7 := { stood := { row := syntaxMatchesReferenceRow, standIns := [], harness := (true, "415a2752c97c208b60879d37bb74c06387b46dafddcbe37e27d33e8976973eff"), looks := true }, kinds := [], alts := [], laidByText := true, laidKinds := [.data, .data, .data, .sentinel, .sentinel, .mapped, .mapped], laidTests := true, laidLooks := .later }
def SyntaxMatchesReferenceCardSaid : Prop := Claim7.holds Tryz.pinned (.plain (OpenSpec.ofChange syntaxMatchesReferenceSpec)) syntaxMatchesReferenceCard

/-- THE TIED CARD OF 'wireloomlaw09.SyntaxRoundTrip'. -/
def syntaxRoundTripCard : Claim7 := { stood := { row := syntaxRoundTripRow, standIns := [], harness := (true, "415a2752c97c208b60879d37bb74c06387b46dafddcbe37e27d33e8976973eff"), looks := true }, kinds := [], alts := [], laidByText := true, laidKinds := [.data, .data, .data, .sentinel, .sentinel, .mapped, .mapped], laidTests := true, laidLooks := .later }
def SyntaxRoundTripCardSaid : Prop := Claim7.holds Tryz.pinned (.plain (OpenSpec.ofChange syntaxRoundTripSpec)) syntaxRoundTripCard

/-- THE TIED CARD OF 'wireloomlaw09.SyntaxTokens'. -/
def syntaxTokensCard : Claim7 := { stood := { row := syntaxTokensRow, standIns := [], harness := (true, "415a2752c97c208b60879d37bb74c06387b46dafddcbe37e27d33e8976973eff"), looks := true }, kinds := [], alts := [], laidByText := true, laidKinds := [.data, .data, .data, .sentinel, .sentinel, .mapped, .mapped], laidTests := true, laidLooks := .later }
def SyntaxTokensCardSaid : Prop := Claim7.holds Tryz.pinned (.plain (OpenSpec.ofChange syntaxTokensSpec)) syntaxTokensCard

/-- THE TIED CARD OF 'wireloomlaw09.SyntaxRefuses'. -/
def syntaxRefusesCard : Claim7 := { stood := { row := syntaxRefusesRow, standIns := [], harness := (true, "415a2752c97c208b60879d37bb74c06387b46dafddcbe37e27d33e8976973eff"), looks := true }, kinds := [], alts := [], laidByText := true, laidKinds := [.data, .data, .data, .sentinel, .sentinel, .mapped, .mapped], laidTests := true, laidLooks := .later }
def SyntaxRefusesCardSaid : Prop := Claim7.holds Tryz.pinned (.plain (OpenSpec.ofChange syntaxRefusesSpec)) syntaxRefusesCard

/-- THE TIED CARD OF 'wireloomlaw09.SyntaxBlanks'. -/
def syntaxBlanksCard : Claim7 := { stood := { row := syntaxBlanksRow, standIns := [], harness := (true, "415a2752c97c208b60879d37bb74c06387b46dafddcbe37e27d33e8976973eff"), looks := true }, kinds := [], alts := [], laidByText := true, laidKinds := [.data, .data, .data, .sentinel, .sentinel, .mapped, .mapped], laidTests := true, laidLooks := .later }
def SyntaxBlanksCardSaid : Prop := Claim7.holds Tryz.pinned (.plain (OpenSpec.ofChange syntaxBlanksSpec)) syntaxBlanksCard

/-- THE TIED CARD OF 'wireloomlaw09.SyntaxPrefixes'. -/
def syntaxPrefixesCard : Claim7 := { stood := { row := syntaxPrefixesRow, standIns := [], harness := (true, "415a2752c97c208b60879d37bb74c06387b46dafddcbe37e27d33e8976973eff"), looks := true }, kinds := [], alts := [], laidByText := true, laidKinds := [.data, .data, .data, .sentinel, .sentinel, .mapped, .mapped], laidTests := true, laidLooks := .later }
def SyntaxPrefixesCardSaid : Prop := Claim7.holds Tryz.pinned (.plain (OpenSpec.ofChange syntaxPrefixesSpec)) syntaxPrefixesCard

/-- THE TIED CARD OF 'wireloomlaw18.ObjectsMatchesReference'. -/
def objectsMatchesReferenceCard : Claim7 := { stood := { row := objectsMatchesReferenceRow, standIns := [], harness := (true, "415a2752c97c208b60879d37bb74c06387b46dafddcbe37e27d33e8976973eff"), looks := true }, kinds := [], alts := [], laidByText := true, laidKinds := [.data, .data, .data, .sentinel, .sentinel, .mapped, .mapped], laidTests := true, laidLooks := .later }
def ObjectsMatchesReferenceCardSaid : Prop := Claim7.holds Tryz.pinned (.plain (OpenSpec.ofChange objectsMatchesReferenceSpec)) objectsMatchesReferenceCard

/-- THE TIED CARD OF 'wireloomlaw18.ObjectsAddresses'. -/
def objectsAddressesCard : Claim7 := { stood := { row := objectsAddressesRow, standIns := [], harness := (true, "415a2752c97c208b60879d37bb74c06387b46dafddcbe37e27d33e8976973eff"), looks := true }, kinds := [], alts := [], laidByText := true, laidKinds := [.data, .data, .data, .sentinel, .sentinel, .mapped, .mapped], laidTests := true, laidLooks := .later }
def ObjectsAddressesCardSaid : Prop := Claim7.holds Tryz.pinned (.plain (OpenSpec.ofChange objectsAddressesSpec)) objectsAddressesCard

/-- THE TIED CARD OF 'wireloomlaw18.ObjectsDamage'. -/
def objectsDamageCard : Claim7 := { stood := { row := objectsDamageRow, standIns := [], harness := (true, "415a2752c97c208b60879d37bb74c06387b46dafddcbe37e27d33e8976973eff"), looks := true }, kinds := [], alts := [], laidByText := true, laidKinds := [.data, .data, .data, .sentinel, .sentinel, .mapped, .mapped], laidTests := true, laidLooks := .later }
def ObjectsDamageCardSaid : Prop := Claim7.holds Tryz.pinned (.plain (OpenSpec.ofChange objectsDamageSpec)) objectsDamageCard

/-- THE TIED CARD OF 'wireloomlaw18.ObjectsUnion'. -/
def objectsUnionCard : Claim7 := { stood := { row := objectsUnionRow, standIns := [], harness := (true, "415a2752c97c208b60879d37bb74c06387b46dafddcbe37e27d33e8976973eff"), looks := true }, kinds := [], alts := [], laidByText := true, laidKinds := [.data, .data, .data, .sentinel, .sentinel, .mapped, .mapped], laidTests := true, laidLooks := .later }
def ObjectsUnionCardSaid : Prop := Claim7.holds Tryz.pinned (.plain (OpenSpec.ofChange objectsUnionSpec)) objectsUnionCard

/-- THE TIED CARD OF 'wireloomlaw18.ObjectsKeep'. -/
def objectsKeepCard : Claim7 := { stood := { row := objectsKeepRow, standIns := [], harness := (true, "415a2752c97c208b60879d37bb74c06387b46dafddcbe37e27d33e8976973eff"), looks := true }, kinds := [], alts := [], laidByText := true, laidKinds := [.data, .data, .data, .sentinel, .sentinel, .mapped, .mapped], laidTests := true, laidLooks := .later }
def ObjectsKeepCardSaid : Prop := Claim7.holds Tryz.pinned (.plain (OpenSpec.ofChange objectsKeepSpec)) objectsKeepCard

/-- THE TIED CARD OF 'wireloomlaw18.ObjectsFiles'. -/
def objectsFilesCard : Claim7 := { stood := { row := objectsFilesRow, standIns := [], harness := (true, "415a2752c97c208b60879d37bb74c06387b46dafddcbe37e27d33e8976973eff"), looks := true }, kinds := [], alts := [], laidByText := true, laidKinds := [.data, .data, .data, .sentinel, .sentinel, .mapped, .mapped], laidTests := true, laidLooks := .later }
def ObjectsFilesCardSaid : Prop := Claim7.holds Tryz.pinned (.plain (OpenSpec.ofChange objectsFilesSpec)) objectsFilesCard

/-- THE SECOND FORM's CARD OF 'wireloomlaw09.SyntaxMatchesReference'. -/
def syntaxMatchesReferenceUptoCard : Claim7 := { stood := { row := syntaxMatchesReferenceUptoRow, standIns := [], harness := (true, "415a2752c97c208b60879d37bb74c06387b46dafddcbe37e27d33e8976973eff"), looks := true }, kinds := [], alts := [], laidByText := true, laidKinds := [.data, .data, .data, .sentinel, .sentinel, .mapped, .mapped], laidTests := true, laidLooks := .later }
def SyntaxMatchesReferenceUptoCardSaid : Prop := Claim7.holds Tryz.pinned (.plain (OpenSpec.upto syntaxMatchesReferenceSpec)) syntaxMatchesReferenceUptoCard

/-- THE SECOND FORM's CARD OF 'wireloomlaw09.SyntaxRoundTrip'. -/
def syntaxRoundTripUptoCard : Claim7 := { stood := { row := syntaxRoundTripUptoRow, standIns := [], harness := (true, "415a2752c97c208b60879d37bb74c06387b46dafddcbe37e27d33e8976973eff"), looks := true }, kinds := [], alts := [], laidByText := true, laidKinds := [.data, .data, .data, .sentinel, .sentinel, .mapped, .mapped], laidTests := true, laidLooks := .later }
def SyntaxRoundTripUptoCardSaid : Prop := Claim7.holds Tryz.pinned (.plain (OpenSpec.upto syntaxRoundTripSpec)) syntaxRoundTripUptoCard

/-- THE SECOND FORM's CARD OF 'wireloomlaw09.SyntaxTokens'. -/
def syntaxTokensUptoCard : Claim7 := { stood := { row := syntaxTokensUptoRow, standIns := [], harness := (true, "415a2752c97c208b60879d37bb74c06387b46dafddcbe37e27d33e8976973eff"), looks := true }, kinds := [], alts := [], laidByText := true, laidKinds := [.data, .data, .data, .sentinel, .sentinel, .mapped, .mapped], laidTests := true, laidLooks := .later }
def SyntaxTokensUptoCardSaid : Prop := Claim7.holds Tryz.pinned (.plain (OpenSpec.upto syntaxTokensSpec)) syntaxTokensUptoCard

/-- THE SECOND FORM's CARD OF 'wireloomlaw09.SyntaxRefuses'. -/
def syntaxRefusesUptoCard : Claim7 := { stood := { row := syntaxRefusesUptoRow, standIns := [], harness := (true, "415a2752c97c208b60879d37bb74c06387b46dafddcbe37e27d33e8976973eff"), looks := true }, kinds := [], alts := [], laidByText := true, laidKinds := [.data, .data, .data, .sentinel, .sentinel, .mapped, .mapped], laidTests := true, laidLooks := .later }
def SyntaxRefusesUptoCardSaid : Prop := Claim7.holds Tryz.pinned (.plain (OpenSpec.upto syntaxRefusesSpec)) syntaxRefusesUptoCard

/-- THE SECOND FORM's CARD OF 'wireloomlaw09.SyntaxBlanks'. -/
def syntaxBlanksUptoCard : Claim7 := { stood := { row := syntaxBlanksUptoRow, standIns := [], harness := (true, "415a2752c97c208b60879d37bb74c06387b46dafddcbe37e27d33e8976973eff"), looks := true }, kinds := [], alts := [], laidByText := true, laidKinds := [.data, .data, .data, .sentinel, .sentinel, .mapped, .mapped], laidTests := true, laidLooks := .later }
def SyntaxBlanksUptoCardSaid : Prop := Claim7.holds Tryz.pinned (.plain (OpenSpec.upto syntaxBlanksSpec)) syntaxBlanksUptoCard

/-- THE SECOND FORM's CARD OF 'wireloomlaw09.SyntaxPrefixes'. -/
def syntaxPrefixesUptoCard : Claim7 := { stood := { row := syntaxPrefixesUptoRow, standIns := [], harness := (true, "415a2752c97c208b60879d37bb74c06387b46dafddcbe37e27d33e8976973eff"), looks := true }, kinds := [], alts := [], laidByText := true, laidKinds := [.data, .data, .data, .sentinel, .sentinel, .mapped, .mapped], laidTests := true, laidLooks := .later }
def SyntaxPrefixesUptoCardSaid : Prop := Claim7.holds Tryz.pinned (.plain (OpenSpec.upto syntaxPrefixesSpec)) syntaxPrefixesUptoCard

/-- THE SECOND FORM's CARD OF 'wireloomlaw18.ObjectsMatchesReference'. -/
def objectsMatchesReferenceUptoCard : Claim7 := { stood := { row := objectsMatchesReferenceUptoRow, standIns := [], harness := (true, "415a2752c97c208b60879d37bb74c06387b46dafddcbe37e27d33e8976973eff"), looks := true }, kinds := [], alts := [], laidByText := true, laidKinds := [.data, .data, .data, .sentinel, .sentinel, .mapped, .mapped], laidTests := true, laidLooks := .later }
def ObjectsMatchesReferenceUptoCardSaid : Prop := Claim7.holds Tryz.pinned (.plain (OpenSpec.upto objectsMatchesReferenceSpec)) objectsMatchesReferenceUptoCard

/-- THE SECOND FORM's CARD OF 'wireloomlaw18.ObjectsAddresses'. -/
def objectsAddressesUptoCard : Claim7 := { stood := { row := objectsAddressesUptoRow, standIns := [], harness := (true, "415a2752c97c208b60879d37bb74c06387b46dafddcbe37e27d33e8976973eff"), looks := true }, kinds := [], alts := [], laidByText := true, laidKinds := [.data, .data, .data, .sentinel, .sentinel, .mapped, .mapped], laidTests := true, laidLooks := .later }
def ObjectsAddressesUptoCardSaid : Prop := Claim7.holds Tryz.pinned (.plain (OpenSpec.upto objectsAddressesSpec)) objectsAddressesUptoCard

/-- THE SECOND FORM's CARD OF 'wireloomlaw18.ObjectsDamage'. -/
def objectsDamageUptoCard : Claim7 := { stood := { row := objectsDamageUptoRow, standIns := [], harness := (true, "415a2752c97c208b60879d37bb74c06387b46dafddcbe37e27d33e8976973eff"), looks := true }, kinds := [], alts := [], laidByText := true, laidKinds := [.data, .data, .data, .sentinel, .sentinel, .mapped, .mapped], laidTests := true, laidLooks := .later }
def ObjectsDamageUptoCardSaid : Prop := Claim7.holds Tryz.pinned (.plain (OpenSpec.upto objectsDamageSpec)) objectsDamageUptoCard

/-- THE SECOND FORM's CARD OF 'wireloomlaw18.ObjectsUnion'. -/
def objectsUnionUptoCard : Claim7 := { stood := { row := objectsUnionUptoRow, standIns := [], harness := (true, "415a2752c97c208b60879d37bb74c06387b46dafddcbe37e27d33e8976973eff"), looks := true }, kinds := [], alts := [], laidByText := true, laidKinds := [.data, .data, .data, .sentinel, .sentinel, .mapped, .mapped], laidTests := true, laidLooks := .later }
def ObjectsUnionUptoCardSaid : Prop := Claim7.holds Tryz.pinned (.plain (OpenSpec.upto objectsUnionSpec)) objectsUnionUptoCard

/-- THE SECOND FORM's CARD OF 'wireloomlaw18.ObjectsKeep'. -/
def objectsKeepUptoCard : Claim7 := { stood := { row := objectsKeepUptoRow, standIns := [], harness := (true, "415a2752c97c208b60879d37bb74c06387b46dafddcbe37e27d33e8976973eff"), looks := true }, kinds := [], alts := [], laidByText := true, laidKinds := [.data, .data, .data, .sentinel, .sentinel, .mapped, .mapped], laidTests := true, laidLooks := .later }
def ObjectsKeepUptoCardSaid : Prop := Claim7.holds Tryz.pinned (.plain (OpenSpec.upto objectsKeepSpec)) objectsKeepUptoCard

/-- THE SECOND FORM's CARD OF 'wireloomlaw18.ObjectsFiles'. -/
def objectsFilesUptoCard : Claim7 := { stood := { row := objectsFilesUptoRow, standIns := [], harness := (true, "415a2752c97c208b60879d37bb74c06387b46dafddcbe37e27d33e8976973eff"), looks := true }, kinds := [], alts := [], laidByText := true, laidKinds := [.data, .data, .data, .sentinel, .sentinel, .mapped, .mapped], laidTests := true, laidLooks := .later }
def ObjectsFilesUptoCardSaid : Prop := Claim7.holds Tryz.pinned (.plain (OpenSpec.upto objectsFilesSpec)) objectsFilesUptoCard
end Rows
end Go.Proofs.YtplfjjgkbnolhaaGreatDoor
