/-
  DERIVED. GIVEN WITH THE SEED: THE CARDS: each row of YtglkedenkcpcbaaGreatDoorRows.lean that lists a variable, with what it lists TIED to the program's text (the seventh form; the later family's looks); each row that meets fmt, with fmt's text TOLD by the authors' own Lean function (tested against real Go, not proved from fmt's source: count such statements apart). THE CARD IS WHAT COUNTS. Prove the row's statement (the work); the ties are given (YtglkedenkcpcbaaGreatDoorTie.lean); close each card by the builder's one call (the guide's Derived/Test/ToyasCard.lean, 'card_holds'). Laid BY PROGRAM, IN A SANDBOX (cutbox-door.mjs). By AI agents, Wed Nov 11 2026. No macro, syntax, notation, axiom, sorry.
-/
import Derived.Test.YtglkedenkcpcbaaGreatDoorRows
import GoSem.ClaimSeven
namespace Go.Proofs.YtglkedenkcpcbaaGreatDoor
namespace Rows

/-- THE TIED CARD OF 'laws.FnSuspects'. -/
def fnSuspectsCard : Claim7 := { stood := { row := fnSuspectsRow, standIns := [], harness := (true, "a4b2bd8622a81ec6cffe7c76afafd3e0c8a69c632bd37b73bb3180abba2e9f77"), looks := false }, kinds := [], alts := [], laidByText := true, laidKinds := [.data, .data, .data, .data], laidTests := true, laidLooks := .later }
def FnSuspectsCardSaid : Prop := Claim7.holds Tryz.pinned (.plain (OpenSpec.ofChange fnSuspectsSpec)) fnSuspectsCard

/-- THE TIED CARD OF 'laws.FnSeenFaults'. -/
def fnSeenFaultsCard : Claim7 := { stood := { row := fnSeenFaultsRow, standIns := [], harness := (true, "a4b2bd8622a81ec6cffe7c76afafd3e0c8a69c632bd37b73bb3180abba2e9f77"), looks := false }, kinds := [], alts := [], laidByText := true, laidKinds := [.data, .data, .data, .data], laidTests := true, laidLooks := .later }
def FnSeenFaultsCardSaid : Prop := Claim7.holds Tryz.pinned (.plain (OpenSpec.ofChange fnSeenFaultsSpec)) fnSeenFaultsCard

/-- THE SECOND FORM's CARD OF 'laws.FnSuspects'. -/
def fnSuspectsUptoCard : Claim7 := { stood := { row := fnSuspectsUptoRow, standIns := [], harness := (true, "a4b2bd8622a81ec6cffe7c76afafd3e0c8a69c632bd37b73bb3180abba2e9f77"), looks := false }, kinds := [], alts := [], laidByText := true, laidKinds := [.data, .data, .data, .data], laidTests := true, laidLooks := .later }
def FnSuspectsUptoCardSaid : Prop := Claim7.holds Tryz.pinned (.plain (OpenSpec.upto fnSuspectsSpec)) fnSuspectsUptoCard

/-- THE SECOND FORM's CARD OF 'laws.FnSeenFaults'. -/
def fnSeenFaultsUptoCard : Claim7 := { stood := { row := fnSeenFaultsUptoRow, standIns := [], harness := (true, "a4b2bd8622a81ec6cffe7c76afafd3e0c8a69c632bd37b73bb3180abba2e9f77"), looks := false }, kinds := [], alts := [], laidByText := true, laidKinds := [.data, .data, .data, .data], laidTests := true, laidLooks := .later }
def FnSeenFaultsUptoCardSaid : Prop := Claim7.holds Tryz.pinned (.plain (OpenSpec.upto fnSeenFaultsSpec)) fnSeenFaultsUptoCard
end Rows
end Go.Proofs.YtglkedenkcpcbaaGreatDoor
