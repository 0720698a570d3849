/-
  DERIVED. GIVEN WITH THE SEED: THE CARDS: each row of YtefdjahaimnndaaGreatDoorRows.lean that lists a variable, with what it lists TIED to the program's text (the seventh form; the later family's looks); each row that meets fmt, with fmt's text TOLD by the authors' own Lean function (tested against real Go, not proved from fmt's source: count such statements apart). THE CARD IS WHAT COUNTS. Prove the row's statement (the work); the ties are given (YtefdjahaimnndaaGreatDoorTie.lean); close each card by the builder's one call (the guide's Derived/Test/ToyasCard.lean, 'card_holds'). Laid BY PROGRAM, IN A SANDBOX (cutbox-door.mjs). By AI agents, Wed Nov 11 2026. No macro, syntax, notation, axiom, sorry.
-/
import Derived.Test.YtefdjahaimnndaaGreatDoorRows
import GoSem.ClaimSeven
namespace Go.Proofs.YtefdjahaimnndaaGreatDoor
namespace Rows

/-- THE TIED CARD OF 'laws.FnDiskLines'. -/
def fnDiskLinesCard : Claim7 := { stood := { row := fnDiskLinesRow, standIns := [], harness := (true, "08faa81b121941ab30ac8573486d67bd8150e167242a98d6d1278e3ae0008994"), looks := false }, kinds := [], alts := [], laidByText := true, laidKinds := [.data, .data, .data, .data, .pinned], laidTests := true, laidLooks := .later }
def FnDiskLinesCardSaid : Prop := Claim7.holds Tryz.pinned (.plain (OpenSpec.ofChange fnDiskLinesSpec)) fnDiskLinesCard

/-- THE TIED CARD OF 'laws.FnExactDiskLine'. -/
def fnExactDiskLineCard : Claim7 := { stood := { row := fnExactDiskLineRow, standIns := [], harness := (true, "08faa81b121941ab30ac8573486d67bd8150e167242a98d6d1278e3ae0008994"), looks := false }, kinds := [], alts := [], laidByText := true, laidKinds := [.data, .data, .data, .data, .pinned], laidTests := true, laidLooks := .later }
def FnExactDiskLineCardSaid : Prop := Claim7.holds Tryz.pinned (.plain (OpenSpec.ofChange fnExactDiskLineSpec)) fnExactDiskLineCard

/-- THE TIED CARD OF 'laws.FnExactDiskLines'. -/
def fnExactDiskLinesCard : Claim7 := { stood := { row := fnExactDiskLinesRow, standIns := [], harness := (true, "08faa81b121941ab30ac8573486d67bd8150e167242a98d6d1278e3ae0008994"), looks := false }, kinds := [], alts := [], laidByText := true, laidKinds := [.data, .data, .data, .data, .pinned], laidTests := true, laidLooks := .later }
def FnExactDiskLinesCardSaid : Prop := Claim7.holds Tryz.pinned (.plain (OpenSpec.ofChange fnExactDiskLinesSpec)) fnExactDiskLinesCard

/-- THE TIED CARD OF 'laws.FnDiskLine'. -/
def fnDiskLineCard : Claim7 := { stood := { row := fnDiskLineRow, standIns := [], harness := (true, "08faa81b121941ab30ac8573486d67bd8150e167242a98d6d1278e3ae0008994"), looks := false }, kinds := [], alts := [], laidByText := true, laidKinds := [.data, .data, .data, .data, .pinned], laidTests := true, laidLooks := .later }
def FnDiskLineCardSaid : Prop := Claim7.holds Tryz.pinned (.plain (OpenSpec.ofChange fnDiskLineSpec)) fnDiskLineCard

/-- THE SECOND FORM's CARD OF 'laws.FnDiskLines'. -/
def fnDiskLinesUptoCard : Claim7 := { stood := { row := fnDiskLinesUptoRow, standIns := [], harness := (true, "08faa81b121941ab30ac8573486d67bd8150e167242a98d6d1278e3ae0008994"), looks := false }, kinds := [], alts := [], laidByText := true, laidKinds := [.data, .data, .data, .data, .pinned], laidTests := true, laidLooks := .later }
def FnDiskLinesUptoCardSaid : Prop := Claim7.holds Tryz.pinned (.plain (OpenSpec.upto fnDiskLinesSpec)) fnDiskLinesUptoCard

/-- THE SECOND FORM's CARD OF 'laws.FnExactDiskLine'. -/
def fnExactDiskLineUptoCard : Claim7 := { stood := { row := fnExactDiskLineUptoRow, standIns := [], harness := (true, "08faa81b121941ab30ac8573486d67bd8150e167242a98d6d1278e3ae0008994"), looks := false }, kinds := [], alts := [], laidByText := true, laidKinds := [.data, .data, .data, .data, .pinned], laidTests := true, laidLooks := .later }
def FnExactDiskLineUptoCardSaid : Prop := Claim7.holds Tryz.pinned (.plain (OpenSpec.upto fnExactDiskLineSpec)) fnExactDiskLineUptoCard

/-- THE SECOND FORM's CARD OF 'laws.FnExactDiskLines'. -/
def fnExactDiskLinesUptoCard : Claim7 := { stood := { row := fnExactDiskLinesUptoRow, standIns := [], harness := (true, "08faa81b121941ab30ac8573486d67bd8150e167242a98d6d1278e3ae0008994"), looks := false }, kinds := [], alts := [], laidByText := true, laidKinds := [.data, .data, .data, .data, .pinned], laidTests := true, laidLooks := .later }
def FnExactDiskLinesUptoCardSaid : Prop := Claim7.holds Tryz.pinned (.plain (OpenSpec.upto fnExactDiskLinesSpec)) fnExactDiskLinesUptoCard

/-- THE SECOND FORM's CARD OF 'laws.FnDiskLine'. -/
def fnDiskLineUptoCard : Claim7 := { stood := { row := fnDiskLineUptoRow, standIns := [], harness := (true, "08faa81b121941ab30ac8573486d67bd8150e167242a98d6d1278e3ae0008994"), looks := false }, kinds := [], alts := [], laidByText := true, laidKinds := [.data, .data, .data, .data, .pinned], laidTests := true, laidLooks := .later }
def FnDiskLineUptoCardSaid : Prop := Claim7.holds Tryz.pinned (.plain (OpenSpec.upto fnDiskLineSpec)) fnDiskLineUptoCard
end Rows
end Go.Proofs.YtefdjahaimnndaaGreatDoor
