/-
  DERIVED. GIVEN WITH THE SEED: THE CARDS: each row of YtabihdhgonnihaaDoorRows.lean that lists a variable, with what it lists TIED to the program's text (the seventh form; the later family's looks); each row that meets fmt, with fmt's text TOLD by the authors' own Lean function (tested against real Go, not proved from fmt's source: count such statements apart). THE CARD IS WHAT COUNTS. Prove the row's statement (the work); the ties are given (YtabihdhgonnihaaDoorTie.lean); close each card by the builder's one call (the guide's Derived/Test/ToyasCard.lean, 'card_holds'). Laid BY PROGRAM, IN A SANDBOX (cutbox-door.mjs). By AI agents, Wed Nov 11 2026. No macro, syntax, notation, axiom, sorry.
-/
import Derived.Test.YtabihdhgonnihaaDoorRows
import GoSem.ClaimSeven
namespace Go.Proofs.YtabihdhgonnihaaDoor
namespace Rows

/-- THE TIED CARD OF 'seepagelaw39.ConfigOrder'. -/
def configOrderCard : Claim7 := { stood := { row := configOrderRow, standIns := [], harness := (true, "57aa769a766de8a81f37f5acf0b50d3dca2f7af431ab8f30c3ae7a11fcec5698"), looks := true }, kinds := [], alts := [], laidByText := true, laidKinds := [.data, .data, .data, .data, .sentinel, .sentinel, .data, .pinned, .pinned], laidTests := true, laidLooks := .later }
def ConfigOrderCardSaid : Prop := Claim7.holds Tryd.pinned (.plain (OpenSpec.ofChange configOrderSpec)) configOrderCard

/-- THE TIED CARD OF 'seepagelaw39.ConfigReads'. -/
def configReadsCard : Claim7 := { stood := { row := configReadsRow, standIns := [], harness := (true, "57aa769a766de8a81f37f5acf0b50d3dca2f7af431ab8f30c3ae7a11fcec5698"), looks := true }, kinds := [], alts := [], laidByText := true, laidKinds := [.data, .data, .data, .sentinel, .sentinel, .data], laidTests := true, laidLooks := .later }
def ConfigReadsCardSaid : Prop := Claim7.holds Tryd.pinned (.plain (OpenSpec.ofChange configReadsSpec)) configReadsCard

/-- THE TIED CARD OF 'seepagelaw39.ConfigLast'. -/
def configLastCard : Claim7 := { stood := { row := configLastRow, standIns := [], harness := (true, "57aa769a766de8a81f37f5acf0b50d3dca2f7af431ab8f30c3ae7a11fcec5698"), looks := true }, kinds := [], alts := [], laidByText := true, laidKinds := [.data, .data, .data, .sentinel, .sentinel, .data], laidTests := true, laidLooks := .later }
def ConfigLastCardSaid : Prop := Claim7.holds Tryd.pinned (.plain (OpenSpec.ofChange configLastSpec)) configLastCard

/-- THE TIED CARD OF 'seepagelaw39.ConfigGets'. -/
def configGetsCard : Claim7 := { stood := { row := configGetsRow, standIns := [], harness := (true, "57aa769a766de8a81f37f5acf0b50d3dca2f7af431ab8f30c3ae7a11fcec5698"), looks := true }, kinds := [], alts := [], laidByText := true, laidKinds := [.data, .data, .data, .sentinel, .sentinel, .data], laidTests := true, laidLooks := .later }
def ConfigGetsCardSaid : Prop := Claim7.holds Tryd.pinned (.plain (OpenSpec.ofChange configGetsSpec)) configGetsCard

/-- THE TIED CARD OF 'seepagelaw39.ConfigClamps'. -/
def configClampsCard : Claim7 := { stood := { row := configClampsRow, standIns := [], harness := (true, "57aa769a766de8a81f37f5acf0b50d3dca2f7af431ab8f30c3ae7a11fcec5698"), looks := true }, kinds := [], alts := [], laidByText := true, laidKinds := [.data, .data, .data, .sentinel, .sentinel, .data], laidTests := true, laidLooks := .later }
def ConfigClampsCardSaid : Prop := Claim7.holds Tryd.pinned (.plain (OpenSpec.ofChange configClampsSpec)) configClampsCard

/-- THE TIED CARD OF 'seepagelaw39.ConfigFirst'. -/
def configFirstCard : Claim7 := { stood := { row := configFirstRow, standIns := [], harness := (true, "57aa769a766de8a81f37f5acf0b50d3dca2f7af431ab8f30c3ae7a11fcec5698"), looks := true }, kinds := [], alts := [], laidByText := true, laidKinds := [.data, .data, .data, .sentinel, .sentinel, .data], laidTests := true, laidLooks := .later }
def ConfigFirstCardSaid : Prop := Claim7.holds Tryd.pinned (.plain (OpenSpec.ofChange configFirstSpec)) configFirstCard

/-- THE TIED CARD OF 'seepagelaw39.ConfigShort'. -/
def configShortCard : Claim7 := { stood := { row := configShortRow, standIns := [], harness := (true, "57aa769a766de8a81f37f5acf0b50d3dca2f7af431ab8f30c3ae7a11fcec5698"), looks := true }, kinds := [], alts := [], laidByText := true, laidKinds := [.data, .data, .data, .sentinel, .sentinel, .data], laidTests := true, laidLooks := .later }
def ConfigShortCardSaid : Prop := Claim7.holds Tryd.pinned (.plain (OpenSpec.ofChange configShortSpec)) configShortCard

/-- THE TIED CARD OF 'seepagelaw39.ConfigChecks'. -/
def configChecksCard : Claim7 := { stood := { row := configChecksRow, standIns := [], harness := (true, "57aa769a766de8a81f37f5acf0b50d3dca2f7af431ab8f30c3ae7a11fcec5698"), looks := true }, kinds := [], alts := [], laidByText := true, laidKinds := [.data, .data, .data, .sentinel, .sentinel, .data], laidTests := true, laidLooks := .later }
def ConfigChecksCardSaid : Prop := Claim7.holds Tryd.pinned (.plain (OpenSpec.ofChange configChecksSpec)) configChecksCard

/-- THE TIED CARD OF 'seepagelaw39.ConfigBack'. -/
def configBackCard : Claim7 := { stood := { row := configBackRow, standIns := [], harness := (true, "57aa769a766de8a81f37f5acf0b50d3dca2f7af431ab8f30c3ae7a11fcec5698"), looks := true }, kinds := [], alts := [], laidByText := true, laidKinds := [.data, .data, .data, .sentinel, .sentinel, .data], laidTests := true, laidLooks := .later }
def ConfigBackCardSaid : Prop := Claim7.holds Tryd.pinned (.plain (OpenSpec.ofChange configBackSpec)) configBackCard

/-- THE TIED CARD OF 'seepagelaw39.ConfigAgain'. -/
def configAgainCard : Claim7 := { stood := { row := configAgainRow, standIns := [], harness := (true, "57aa769a766de8a81f37f5acf0b50d3dca2f7af431ab8f30c3ae7a11fcec5698"), looks := true }, kinds := [], alts := [], laidByText := true, laidKinds := [.data, .data, .data, .data, .sentinel, .sentinel, .data, .pinned], laidTests := true, laidLooks := .later }
def ConfigAgainCardSaid : Prop := Claim7.holds Tryd.pinned (.plain (OpenSpec.ofChange configAgainSpec)) configAgainCard

/-- THE SECOND FORM's CARD OF 'seepagelaw39.ConfigOrder'. -/
def configOrderUptoCard : Claim7 := { stood := { row := configOrderUptoRow, standIns := [], harness := (true, "57aa769a766de8a81f37f5acf0b50d3dca2f7af431ab8f30c3ae7a11fcec5698"), looks := true }, kinds := [], alts := [], laidByText := true, laidKinds := [.data, .data, .data, .data, .sentinel, .sentinel, .data, .pinned, .pinned], laidTests := true, laidLooks := .later }
def ConfigOrderUptoCardSaid : Prop := Claim7.holds Tryd.pinned (.plain (OpenSpec.upto configOrderSpec)) configOrderUptoCard

/-- THE SECOND FORM's CARD OF 'seepagelaw39.ConfigReads'. -/
def configReadsUptoCard : Claim7 := { stood := { row := configReadsUptoRow, standIns := [], harness := (true, "57aa769a766de8a81f37f5acf0b50d3dca2f7af431ab8f30c3ae7a11fcec5698"), looks := true }, kinds := [], alts := [], laidByText := true, laidKinds := [.data, .data, .data, .sentinel, .sentinel, .data], laidTests := true, laidLooks := .later }
def ConfigReadsUptoCardSaid : Prop := Claim7.holds Tryd.pinned (.plain (OpenSpec.upto configReadsSpec)) configReadsUptoCard

/-- THE SECOND FORM's CARD OF 'seepagelaw39.ConfigLast'. -/
def configLastUptoCard : Claim7 := { stood := { row := configLastUptoRow, standIns := [], harness := (true, "57aa769a766de8a81f37f5acf0b50d3dca2f7af431ab8f30c3ae7a11fcec5698"), looks := true }, kinds := [], alts := [], laidByText := true, laidKinds := [.data, .data, .data, .sentinel, .sentinel, .data], laidTests := true, laidLooks := .later }
def ConfigLastUptoCardSaid : Prop := Claim7.holds Tryd.pinned (.plain (OpenSpec.upto configLastSpec)) configLastUptoCard

/-- THE SECOND FORM's CARD OF 'seepagelaw39.ConfigGets'. -/
def configGetsUptoCard : Claim7 := { stood := { row := configGetsUptoRow, standIns := [], harness := (true, "57aa769a766de8a81f37f5acf0b50d3dca2f7af431ab8f30c3ae7a11fcec5698"), looks := true }, kinds := [], alts := [], laidByText := true, laidKinds := [.data, .data, .data, .sentinel, .sentinel, .data], laidTests := true, laidLooks := .later }
def ConfigGetsUptoCardSaid : Prop := Claim7.holds Tryd.pinned (.plain (OpenSpec.upto configGetsSpec)) configGetsUptoCard

/-- THE SECOND FORM's CARD OF 'seepagelaw39.ConfigClamps'. -/
def configClampsUptoCard : Claim7 := { stood := { row := configClampsUptoRow, standIns := [], harness := (true, "57aa769a766de8a81f37f5acf0b50d3dca2f7af431ab8f30c3ae7a11fcec5698"), looks := true }, kinds := [], alts := [], laidByText := true, laidKinds := [.data, .data, .data, .sentinel, .sentinel, .data], laidTests := true, laidLooks := .later }
def ConfigClampsUptoCardSaid : Prop := Claim7.holds Tryd.pinned (.plain (OpenSpec.upto configClampsSpec)) configClampsUptoCard

/-- THE SECOND FORM's CARD OF 'seepagelaw39.ConfigFirst'. -/
def configFirstUptoCard : Claim7 := { stood := { row := configFirstUptoRow, standIns := [], harness := (true, "57aa769a766de8a81f37f5acf0b50d3dca2f7af431ab8f30c3ae7a11fcec5698"), looks := true }, kinds := [], alts := [], laidByText := true, laidKinds := [.data, .data, .data, .sentinel, .sentinel, .data], laidTests := true, laidLooks := .later }
def ConfigFirstUptoCardSaid : Prop := Claim7.holds Tryd.pinned (.plain (OpenSpec.upto configFirstSpec)) configFirstUptoCard

/-- THE SECOND FORM's CARD OF 'seepagelaw39.ConfigShort'. -/
def configShortUptoCard : Claim7 := { stood := { row := configShortUptoRow, standIns := [], harness := (true, "57aa769a766de8a81f37f5acf0b50d3dca2f7af431ab8f30c3ae7a11fcec5698"), looks := true }, kinds := [], alts := [], laidByText := true, laidKinds := [.data, .data, .data, .sentinel, .sentinel, .data], laidTests := true, laidLooks := .later }
def ConfigShortUptoCardSaid : Prop := Claim7.holds Tryd.pinned (.plain (OpenSpec.upto configShortSpec)) configShortUptoCard

/-- THE SECOND FORM's CARD OF 'seepagelaw39.ConfigChecks'. -/
def configChecksUptoCard : Claim7 := { stood := { row := configChecksUptoRow, standIns := [], harness := (true, "57aa769a766de8a81f37f5acf0b50d3dca2f7af431ab8f30c3ae7a11fcec5698"), looks := true }, kinds := [], alts := [], laidByText := true, laidKinds := [.data, .data, .data, .sentinel, .sentinel, .data], laidTests := true, laidLooks := .later }
def ConfigChecksUptoCardSaid : Prop := Claim7.holds Tryd.pinned (.plain (OpenSpec.upto configChecksSpec)) configChecksUptoCard

/-- THE SECOND FORM's CARD OF 'seepagelaw39.ConfigBack'. -/
def configBackUptoCard : Claim7 := { stood := { row := configBackUptoRow, standIns := [], harness := (true, "57aa769a766de8a81f37f5acf0b50d3dca2f7af431ab8f30c3ae7a11fcec5698"), looks := true }, kinds := [], alts := [], laidByText := true, laidKinds := [.data, .data, .data, .sentinel, .sentinel, .data], laidTests := true, laidLooks := .later }
def ConfigBackUptoCardSaid : Prop := Claim7.holds Tryd.pinned (.plain (OpenSpec.upto configBackSpec)) configBackUptoCard

/-- THE SECOND FORM's CARD OF 'seepagelaw39.ConfigAgain'. -/
def configAgainUptoCard : Claim7 := { stood := { row := configAgainUptoRow, standIns := [], harness := (true, "57aa769a766de8a81f37f5acf0b50d3dca2f7af431ab8f30c3ae7a11fcec5698"), looks := true }, kinds := [], alts := [], laidByText := true, laidKinds := [.data, .data, .data, .data, .sentinel, .sentinel, .data, .pinned], laidTests := true, laidLooks := .later }
def ConfigAgainUptoCardSaid : Prop := Claim7.holds Tryd.pinned (.plain (OpenSpec.upto configAgainSpec)) configAgainUptoCard
end Rows
end Go.Proofs.YtabihdhgonnihaaDoor
