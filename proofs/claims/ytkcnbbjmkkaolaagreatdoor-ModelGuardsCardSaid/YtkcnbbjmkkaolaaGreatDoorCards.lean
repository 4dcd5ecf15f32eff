/-
  DERIVED. GIVEN WITH THE SEED: THE CARDS: each row of YtkcnbbjmkkaolaaGreatDoorRows.lean that lists a variable, with what it lists TIED to the program's text (the seventh form; the later family's looks); each row that meets fmt, with fmt's text TOLD by the authors' own Lean function (tested against real Go, not proved from fmt's source: count such statements apart). THE CARD IS WHAT COUNTS. Prove the row's statement (the work); the ties are given (YtkcnbbjmkkaolaaGreatDoorTie.lean); close each card by the builder's one call (the guide's Derived/Test/ToyasCard.lean, 'card_holds'). Laid BY PROGRAM, IN A SANDBOX (cutbox-door.mjs). By AI agents, Wed Nov 11 2026. No macro, syntax, notation, axiom, sorry.
-/
import Derived.Test.YtkcnbbjmkkaolaaGreatDoorRows
import GoSem.ClaimSeven
namespace Go.Proofs.YtkcnbbjmkkaolaaGreatDoor
namespace Rows

/-- THE TIED CARD OF 'cofferlaw18.ModelPlays'. -/
def modelPlaysCard : Claim7 := { stood := { row := modelPlaysRow, standIns := [], harness := (true, "f6f4574ac64259450ed22459ac194a873acd752fb6e36a404676176bb898f2a3"), looks := false }, kinds := [], alts := [], laidByText := true, laidKinds := [.data, .pinned], laidTests := true, laidLooks := .later }
def ModelPlaysCardSaid : Prop := Claim7.holds Tryz.pinned (.plain (OpenSpec.ofChange modelPlaysSpec)) modelPlaysCard

/-- THE TIED CARD OF 'cofferlaw18.ModelTree'. -/
def modelTreeCard : Claim7 := { stood := { row := modelTreeRow, standIns := [], harness := (true, "f6f4574ac64259450ed22459ac194a873acd752fb6e36a404676176bb898f2a3"), looks := false }, kinds := [], alts := [], laidByText := true, laidKinds := [.data, .pinned], laidTests := true, laidLooks := .later }
def ModelTreeCardSaid : Prop := Claim7.holds Tryz.pinned (.plain (OpenSpec.ofChange modelTreeSpec)) modelTreeCard

/-- THE TIED CARD OF 'cofferlaw18.ModelGuards'. -/
def modelGuardsCard : Claim7 := { stood := { row := modelGuardsRow, standIns := [], harness := (true, "f6f4574ac64259450ed22459ac194a873acd752fb6e36a404676176bb898f2a3"), looks := false }, kinds := [], alts := [], laidByText := true, laidKinds := [.data, .pinned], laidTests := true, laidLooks := .later }
def ModelGuardsCardSaid : Prop := Claim7.holds Tryz.pinned (.plain (OpenSpec.ofChange modelGuardsSpec)) modelGuardsCard

/-- THE TIED CARD OF 'cofferlaw18.ModelKeeps'. -/
def modelKeepsCard : Claim7 := { stood := { row := modelKeepsRow, standIns := [], harness := (true, "f6f4574ac64259450ed22459ac194a873acd752fb6e36a404676176bb898f2a3"), looks := false }, kinds := [], alts := [], laidByText := true, laidKinds := [.data, .pinned], laidTests := true, laidLooks := .later }
def ModelKeepsCardSaid : Prop := Claim7.holds Tryz.pinned (.plain (OpenSpec.ofChange modelKeepsSpec)) modelKeepsCard

/-- THE TIED CARD OF 'cofferlaw18.ModelNone'. -/
def modelNoneCard : Claim7 := { stood := { row := modelNoneRow, standIns := [], harness := (true, "f6f4574ac64259450ed22459ac194a873acd752fb6e36a404676176bb898f2a3"), looks := false }, kinds := [], alts := [], laidByText := true, laidKinds := [.data, .pinned], laidTests := true, laidLooks := .later }
def ModelNoneCardSaid : Prop := Claim7.holds Tryz.pinned (.plain (OpenSpec.ofChange modelNoneSpec)) modelNoneCard

/-- THE SECOND FORM's CARD OF 'cofferlaw18.ModelPlays'. -/
def modelPlaysUptoCard : Claim7 := { stood := { row := modelPlaysUptoRow, standIns := [], harness := (true, "f6f4574ac64259450ed22459ac194a873acd752fb6e36a404676176bb898f2a3"), looks := false }, kinds := [], alts := [], laidByText := true, laidKinds := [.data, .pinned], laidTests := true, laidLooks := .later }
def ModelPlaysUptoCardSaid : Prop := Claim7.holds Tryz.pinned (.plain (OpenSpec.upto modelPlaysSpec)) modelPlaysUptoCard

/-- THE SECOND FORM's CARD OF 'cofferlaw18.ModelTree'. -/
def modelTreeUptoCard : Claim7 := { stood := { row := modelTreeUptoRow, standIns := [], harness := (true, "f6f4574ac64259450ed22459ac194a873acd752fb6e36a404676176bb898f2a3"), looks := false }, kinds := [], alts := [], laidByText := true, laidKinds := [.data, .pinned], laidTests := true, laidLooks := .later }
def ModelTreeUptoCardSaid : Prop := Claim7.holds Tryz.pinned (.plain (OpenSpec.upto modelTreeSpec)) modelTreeUptoCard

/-- THE SECOND FORM's CARD OF 'cofferlaw18.ModelGuards'. -/
def modelGuardsUptoCard : Claim7 := { stood := { row := modelGuardsUptoRow, standIns := [], harness := (true, "f6f4574ac64259450ed22459ac194a873acd752fb6e36a404676176bb898f2a3"), looks := false }, kinds := [], alts := [], laidByText := true, laidKinds := [.data, .pinned], laidTests := true, laidLooks := .later }
def ModelGuardsUptoCardSaid : Prop := Claim7.holds Tryz.pinned (.plain (OpenSpec.upto modelGuardsSpec)) modelGuardsUptoCard

/-- THE SECOND FORM's CARD OF 'cofferlaw18.ModelKeeps'. -/
def modelKeepsUptoCard : Claim7 := { stood := { row := modelKeepsUptoRow, standIns := [], harness := (true, "f6f4574ac64259450ed22459ac194a873acd752fb6e36a404676176bb898f2a3"), looks := false }, kinds := [], alts := [], laidByText := true, laidKinds := [.data, .pinned], laidTests := true, laidLooks := .later }
def ModelKeepsUptoCardSaid : Prop := Claim7.holds Tryz.pinned (.plain (OpenSpec.upto modelKeepsSpec)) modelKeepsUptoCard

/-- THE SECOND FORM's CARD OF 'cofferlaw18.ModelNone'. -/
def modelNoneUptoCard : Claim7 := { stood := { row := modelNoneUptoRow, standIns := [], harness := (true, "f6f4574ac64259450ed22459ac194a873acd752fb6e36a404676176bb898f2a3"), looks := false }, kinds := [], alts := [], laidByText := true, laidKinds := [.data, .pinned], laidTests := true, laidLooks := .later }
def ModelNoneUptoCardSaid : Prop := Claim7.holds Tryz.pinned (.plain (OpenSpec.upto modelNoneSpec)) modelNoneUptoCard
end Rows
end Go.Proofs.YtkcnbbjmkkaolaaGreatDoor
