/-
  DERIVED. GIVEN WITH THE SEED: THE CARDS: each row of YtkmbhhgibgocpaaDoorRows.lean that lists a variable, with what it lists TIED to the program's text (the seventh form; the later family's looks); each row that meets fmt, with fmt's text TOLD by the authors' own Lean function (tested against real Go, not proved from fmt's source: count such statements apart). THE CARD IS WHAT COUNTS. Prove the row's statement (the work); the ties are given (YtkmbhhgibgocpaaDoorTie.lean); close each card by the builder's one call (the guide's Derived/Test/ToyasCard.lean, 'card_holds'). Laid BY PROGRAM, IN A SANDBOX (cutbox-door.mjs). By AI agents, Wed Nov 11 2026. No macro, syntax, notation, axiom, sorry.
-/
import Derived.Test.YtkmbhhgibgocpaaDoorRows
import GoSem.ClaimSeven
namespace Go.Proofs.YtkmbhhgibgocpaaDoor
namespace Rows

/-- THE TIED CARD OF 'laws.FnExactFaultName'. -/
def fnExactFaultNameCard : Claim7 := { stood := { row := fnExactFaultNameRow, standIns := [], harness := (true, "44a8389a309f62535d22aa98dd3a4a8ead58901576e98f34b471d16254e86d42"), looks := false }, kinds := [], alts := [], laidByText := true, laidKinds := [.data, .data, .data, .data], laidTests := true, laidLooks := .later }
def FnExactFaultNameCardSaid : Prop := Claim7.holds Tryd.pinned (.plain (OpenSpec.ofChange fnExactFaultNameSpec)) fnExactFaultNameCard

/-- THE TIED CARD OF 'laws.FnExactReadFault'. -/
def fnExactReadFaultCard : Claim7 := { stood := { row := fnExactReadFaultRow, standIns := [], harness := (true, "44a8389a309f62535d22aa98dd3a4a8ead58901576e98f34b471d16254e86d42"), looks := false }, kinds := [], alts := [], laidByText := true, laidKinds := [.data, .data, .data, .data], laidTests := true, laidLooks := .later }
def FnExactReadFaultCardSaid : Prop := Claim7.holds Tryd.pinned (.plain (OpenSpec.ofChange fnExactReadFaultSpec)) fnExactReadFaultCard

/-- THE TIED CARD OF 'laws.FnExactCausesText'. -/
def fnExactCausesTextCard : Claim7 := { stood := { row := fnExactCausesTextRow, standIns := [], harness := (true, "44a8389a309f62535d22aa98dd3a4a8ead58901576e98f34b471d16254e86d42"), looks := false }, kinds := [], alts := [], laidByText := true, laidKinds := [.data, .data, .data, .data], laidTests := true, laidLooks := .later }
def FnExactCausesTextCardSaid : Prop := Claim7.holds Tryd.pinned (.plain (OpenSpec.ofChange fnExactCausesTextSpec)) fnExactCausesTextCard

/-- THE SECOND FORM's CARD OF 'laws.FnExactFaultName'. -/
def fnExactFaultNameUptoCard : Claim7 := { stood := { row := fnExactFaultNameUptoRow, standIns := [], harness := (true, "44a8389a309f62535d22aa98dd3a4a8ead58901576e98f34b471d16254e86d42"), looks := false }, kinds := [], alts := [], laidByText := true, laidKinds := [.data, .data, .data, .data], laidTests := true, laidLooks := .later }
def FnExactFaultNameUptoCardSaid : Prop := Claim7.holds Tryd.pinned (.plain (OpenSpec.upto fnExactFaultNameSpec)) fnExactFaultNameUptoCard

/-- THE SECOND FORM's CARD OF 'laws.FnExactReadFault'. -/
def fnExactReadFaultUptoCard : Claim7 := { stood := { row := fnExactReadFaultUptoRow, standIns := [], harness := (true, "44a8389a309f62535d22aa98dd3a4a8ead58901576e98f34b471d16254e86d42"), looks := false }, kinds := [], alts := [], laidByText := true, laidKinds := [.data, .data, .data, .data], laidTests := true, laidLooks := .later }
def FnExactReadFaultUptoCardSaid : Prop := Claim7.holds Tryd.pinned (.plain (OpenSpec.upto fnExactReadFaultSpec)) fnExactReadFaultUptoCard

/-- THE SECOND FORM's CARD OF 'laws.FnExactCausesText'. -/
def fnExactCausesTextUptoCard : Claim7 := { stood := { row := fnExactCausesTextUptoRow, standIns := [], harness := (true, "44a8389a309f62535d22aa98dd3a4a8ead58901576e98f34b471d16254e86d42"), looks := false }, kinds := [], alts := [], laidByText := true, laidKinds := [.data, .data, .data, .data], laidTests := true, laidLooks := .later }
def FnExactCausesTextUptoCardSaid : Prop := Claim7.holds Tryd.pinned (.plain (OpenSpec.upto fnExactCausesTextSpec)) fnExactCausesTextUptoCard
end Rows
end Go.Proofs.YtkmbhhgibgocpaaDoor
