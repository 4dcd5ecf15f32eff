/-
  DERIVED. GIVEN WITH THE SEED: THE CARDS: each row of YtfkmfllhlhefdaaDoorRows.lean that lists a variable, with what it lists TIED to the program's text (the seventh form; the later family's looks); each row that meets fmt, with fmt's text TOLD by the authors' own Lean function (tested against real Go, not proved from fmt's source: count such statements apart). THE CARD IS WHAT COUNTS. Prove the row's statement (the work); the ties are given (YtfkmfllhlhefdaaDoorTie.lean); close each card by the builder's one call (the guide's Derived/Test/ToyasCard.lean, 'card_holds'). Laid BY PROGRAM, IN A SANDBOX (cutbox-door.mjs). By AI agents, Wed Nov 11 2026. No macro, syntax, notation, axiom, sorry.
-/
import Derived.Test.YtfkmfllhlhefdaaDoorRows
import GoSem.ClaimSeven
namespace Go.Proofs.YtfkmfllhlhefdaaDoor
namespace Rows

/-- THE TIED CARD OF 'cofferlaw17.DirShape'. -/
def dirShapeCard : Claim7 := { stood := { row := dirShapeRow, standIns := [], harness := (true, "67b92133683c6ece50fdaa6ce9b498d57ddb0f28c7f6dfe5a40ee77b233c1a73"), looks := false }, kinds := [], alts := [], laidByText := true, laidKinds := [.data, .pinned], laidTests := true, laidLooks := .later }
def DirShapeCardSaid : Prop := Claim7.holds Tryd.pinned (.plain (OpenSpec.ofChange dirShapeSpec)) dirShapeCard

/-- THE TIED CARD OF 'cofferlaw17.DirFull'. -/
def dirFullCard : Claim7 := { stood := { row := dirFullRow, standIns := [], harness := (true, "67b92133683c6ece50fdaa6ce9b498d57ddb0f28c7f6dfe5a40ee77b233c1a73"), looks := false }, kinds := [], alts := [], laidByText := true, laidKinds := [.data, .pinned], laidTests := true, laidLooks := .later }
def DirFullCardSaid : Prop := Claim7.holds Tryd.pinned (.plain (OpenSpec.ofChange dirFullSpec)) dirFullCard

/-- THE TIED CARD OF 'cofferlaw17.DirTells'. -/
def dirTellsCard : Claim7 := { stood := { row := dirTellsRow, standIns := [], harness := (true, "67b92133683c6ece50fdaa6ce9b498d57ddb0f28c7f6dfe5a40ee77b233c1a73"), looks := false }, kinds := [], alts := [], laidByText := true, laidKinds := [.data, .pinned], laidTests := true, laidLooks := .later }
def DirTellsCardSaid : Prop := Claim7.holds Tryd.pinned (.plain (OpenSpec.ofChange dirTellsSpec)) dirTellsCard

/-- THE TIED CARD OF 'cofferlaw17.DirChanges'. -/
def dirChangesCard : Claim7 := { stood := { row := dirChangesRow, standIns := [], harness := (true, "67b92133683c6ece50fdaa6ce9b498d57ddb0f28c7f6dfe5a40ee77b233c1a73"), looks := false }, kinds := [], alts := [], laidByText := true, laidKinds := [.data, .pinned], laidTests := true, laidLooks := .later }
def DirChangesCardSaid : Prop := Claim7.holds Tryd.pinned (.plain (OpenSpec.ofChange dirChangesSpec)) dirChangesCard

/-- THE TIED CARD OF 'cofferlaw17.DirKeeps'. -/
def dirKeepsCard : Claim7 := { stood := { row := dirKeepsRow, standIns := [], harness := (true, "67b92133683c6ece50fdaa6ce9b498d57ddb0f28c7f6dfe5a40ee77b233c1a73"), looks := false }, kinds := [], alts := [], laidByText := true, laidKinds := [.data, .pinned], laidTests := true, laidLooks := .later }
def DirKeepsCardSaid : Prop := Claim7.holds Tryd.pinned (.plain (OpenSpec.ofChange dirKeepsSpec)) dirKeepsCard

/-- THE SECOND FORM's CARD OF 'cofferlaw17.DirShape'. -/
def dirShapeUptoCard : Claim7 := { stood := { row := dirShapeUptoRow, standIns := [], harness := (true, "67b92133683c6ece50fdaa6ce9b498d57ddb0f28c7f6dfe5a40ee77b233c1a73"), looks := false }, kinds := [], alts := [], laidByText := true, laidKinds := [.data, .pinned], laidTests := true, laidLooks := .later }
def DirShapeUptoCardSaid : Prop := Claim7.holds Tryd.pinned (.plain (OpenSpec.upto dirShapeSpec)) dirShapeUptoCard

/-- THE SECOND FORM's CARD OF 'cofferlaw17.DirFull'. -/
def dirFullUptoCard : Claim7 := { stood := { row := dirFullUptoRow, standIns := [], harness := (true, "67b92133683c6ece50fdaa6ce9b498d57ddb0f28c7f6dfe5a40ee77b233c1a73"), looks := false }, kinds := [], alts := [], laidByText := true, laidKinds := [.data, .pinned], laidTests := true, laidLooks := .later }
def DirFullUptoCardSaid : Prop := Claim7.holds Tryd.pinned (.plain (OpenSpec.upto dirFullSpec)) dirFullUptoCard

/-- THE SECOND FORM's CARD OF 'cofferlaw17.DirTells'. -/
def dirTellsUptoCard : Claim7 := { stood := { row := dirTellsUptoRow, standIns := [], harness := (true, "67b92133683c6ece50fdaa6ce9b498d57ddb0f28c7f6dfe5a40ee77b233c1a73"), looks := false }, kinds := [], alts := [], laidByText := true, laidKinds := [.data, .pinned], laidTests := true, laidLooks := .later }
def DirTellsUptoCardSaid : Prop := Claim7.holds Tryd.pinned (.plain (OpenSpec.upto dirTellsSpec)) dirTellsUptoCard

/-- THE SECOND FORM's CARD OF 'cofferlaw17.DirChanges'. -/
def dirChangesUptoCard : Claim7 := { stood := { row := dirChangesUptoRow, standIns := [], harness := (true, "67b92133683c6ece50fdaa6ce9b498d57ddb0f28c7f6dfe5a40ee77b233c1a73"), looks := false }, kinds := [], alts := [], laidByText := true, laidKinds := [.data, .pinned], laidTests := true, laidLooks := .later }
def DirChangesUptoCardSaid : Prop := Claim7.holds Tryd.pinned (.plain (OpenSpec.upto dirChangesSpec)) dirChangesUptoCard

/-- THE SECOND FORM's CARD OF 'cofferlaw17.DirKeeps'. -/
def dirKeepsUptoCard : Claim7 := { stood := { row := dirKeepsUptoRow, standIns := [], harness := (true, "67b92133683c6ece50fdaa6ce9b498d57ddb0f28c7f6dfe5a40ee77b233c1a73"), looks := false }, kinds := [], alts := [], laidByText := true, laidKinds := [.data, .pinned], laidTests := true, laidLooks := .later }
def DirKeepsUptoCardSaid : Prop := Claim7.holds Tryd.pinned (.plain (OpenSpec.upto dirKeepsSpec)) dirKeepsUptoCard
end Rows
end Go.Proofs.YtfkmfllhlhefdaaDoor
