/-
  DERIVED. GIVEN WITH THE SEED: THE CARDS: each row of YtlmdkcpiimpniaaDoorRows.lean that lists a variable, with what it lists TIED to the program's text (the seventh form; the later family's looks); each row that meets fmt, with fmt's text TOLD by the authors' own Lean function (tested against real Go, not proved from fmt's source: count such statements apart). THE CARD IS WHAT COUNTS. Prove the row's statement (the work); the ties are given (YtlmdkcpiimpniaaDoorTie.lean); close each card by the builder's one call (the guide's Derived/Test/ToyasCard.lean, 'card_holds'). Laid BY PROGRAM, IN A SANDBOX (cutbox-door.mjs). By AI agents, Wed Nov 11 2026. No macro, syntax, notation, axiom, sorry.
-/
import Derived.Test.YtlmdkcpiimpniaaDoorRows
import GoSem.ClaimSeven
namespace Go.Proofs.YtlmdkcpiimpniaaDoor
namespace Rows

/-- THE TIED CARD OF 'seepagelaw41.ReplyKnown'. -/
def replyKnownCard : Claim7 := { stood := { row := replyKnownRow, standIns := [], harness := (true, "affc6e0d43edcf258ede94411b1883fdbddba278a53e2280190da99f40f0a4d0"), looks := true }, kinds := [], alts := [], laidByText := true, laidKinds := [.data, .data, .data, .data, .sentinel, .sentinel, .widerDeep, .pinned], laidTests := true, laidLooks := .later }
def ReplyKnownCardSaid : Prop := Claim7.holds Tryd.pinned (.plain (OpenSpec.ofChange replyKnownSpec)) replyKnownCard

/-- THE TIED CARD OF 'seepagelaw41.ReplyChecks'. -/
def replyChecksCard : Claim7 := { stood := { row := replyChecksRow, standIns := [], harness := (true, "affc6e0d43edcf258ede94411b1883fdbddba278a53e2280190da99f40f0a4d0"), looks := true }, kinds := [], alts := [], laidByText := true, laidKinds := [.data, .data, .data, .data, .sentinel, .sentinel, .widerDeep, .pinned], laidTests := true, laidLooks := .later }
def ReplyChecksCardSaid : Prop := Claim7.holds Tryd.pinned (.plain (OpenSpec.ofChange replyChecksSpec)) replyChecksCard

/-- THE TIED CARD OF 'seepagelaw41.ReplyPuts'. -/
def replyPutsCard : Claim7 := { stood := { row := replyPutsRow, standIns := [], harness := (true, "affc6e0d43edcf258ede94411b1883fdbddba278a53e2280190da99f40f0a4d0"), looks := true }, kinds := [], alts := [], laidByText := true, laidKinds := [.data, .data, .data, .data, .sentinel, .sentinel, .widerDeep, .pinned], laidTests := true, laidLooks := .later }
def ReplyPutsCardSaid : Prop := Claim7.holds Tryd.pinned (.plain (OpenSpec.ofChange replyPutsSpec)) replyPutsCard

/-- THE TIED CARD OF 'seepagelaw41.ReplyParses'. -/
def replyParsesCard : Claim7 := { stood := { row := replyParsesRow, standIns := [], harness := (true, "affc6e0d43edcf258ede94411b1883fdbddba278a53e2280190da99f40f0a4d0"), looks := true }, kinds := [], alts := [], laidByText := true, laidKinds := [.data, .data, .data, .data, .sentinel, .sentinel, .widerDeep, .pinned], laidTests := true, laidLooks := .later }
def ReplyParsesCardSaid : Prop := Claim7.holds Tryd.pinned (.plain (OpenSpec.ofChange replyParsesSpec)) replyParsesCard

/-- THE TIED CARD OF 'seepagelaw41.ReplySames'. -/
def replySamesCard : Claim7 := { stood := { row := replySamesRow, standIns := [], harness := (true, "affc6e0d43edcf258ede94411b1883fdbddba278a53e2280190da99f40f0a4d0"), looks := true }, kinds := [], alts := [], laidByText := true, laidKinds := [.data, .data, .data, .data, .sentinel, .sentinel, .widerDeep, .pinned], laidTests := true, laidLooks := .later }
def ReplySamesCardSaid : Prop := Claim7.holds Tryd.pinned (.plain (OpenSpec.ofChange replySamesSpec)) replySamesCard

/-- THE TIED CARD OF 'seepagelaw41.ReplyCanons'. -/
def replyCanonsCard : Claim7 := { stood := { row := replyCanonsRow, standIns := [], harness := (true, "affc6e0d43edcf258ede94411b1883fdbddba278a53e2280190da99f40f0a4d0"), looks := true }, kinds := [], alts := [], laidByText := true, laidKinds := [.data, .data, .data, .data, .sentinel, .sentinel, .widerDeep, .pinned], laidTests := true, laidLooks := .later }
def ReplyCanonsCardSaid : Prop := Claim7.holds Tryd.pinned (.plain (OpenSpec.ofChange replyCanonsSpec)) replyCanonsCard

/-- THE TIED CARD OF 'seepagelaw41.ReplyGets'. -/
def replyGetsCard : Claim7 := { stood := { row := replyGetsRow, standIns := [], harness := (true, "affc6e0d43edcf258ede94411b1883fdbddba278a53e2280190da99f40f0a4d0"), looks := true }, kinds := [], alts := [], laidByText := true, laidKinds := [.data, .data, .data, .data, .sentinel, .sentinel, .widerDeep, .pinned], laidTests := true, laidLooks := .later }
def ReplyGetsCardSaid : Prop := Claim7.holds Tryd.pinned (.plain (OpenSpec.ofChange replyGetsSpec)) replyGetsCard

/-- THE TIED CARD OF 'seepagelaw41.ReplyReturns'. -/
def replyReturnsCard : Claim7 := { stood := { row := replyReturnsRow, standIns := [], harness := (true, "affc6e0d43edcf258ede94411b1883fdbddba278a53e2280190da99f40f0a4d0"), looks := true }, kinds := [], alts := [], laidByText := true, laidKinds := [.data, .data, .data, .data, .sentinel, .sentinel, .widerDeep, .pinned], laidTests := true, laidLooks := .later }
def ReplyReturnsCardSaid : Prop := Claim7.holds Tryd.pinned (.plain (OpenSpec.ofChange replyReturnsSpec)) replyReturnsCard

/-- THE TIED CARD OF 'seepagelaw41.ReplyChains'. -/
def replyChainsCard : Claim7 := { stood := { row := replyChainsRow, standIns := [], harness := (true, "affc6e0d43edcf258ede94411b1883fdbddba278a53e2280190da99f40f0a4d0"), looks := true }, kinds := [], alts := [], laidByText := true, laidKinds := [.data, .data, .data, .data, .sentinel, .sentinel, .widerDeep, .pinned], laidTests := true, laidLooks := .later }
def ReplyChainsCardSaid : Prop := Claim7.holds Tryd.pinned (.plain (OpenSpec.ofChange replyChainsSpec)) replyChainsCard

/-- THE SECOND FORM's CARD OF 'seepagelaw41.ReplyKnown'. -/
def replyKnownUptoCard : Claim7 := { stood := { row := replyKnownUptoRow, standIns := [], harness := (true, "affc6e0d43edcf258ede94411b1883fdbddba278a53e2280190da99f40f0a4d0"), looks := true }, kinds := [], alts := [], laidByText := true, laidKinds := [.data, .data, .data, .data, .sentinel, .sentinel, .widerDeep, .pinned], laidTests := true, laidLooks := .later }
def ReplyKnownUptoCardSaid : Prop := Claim7.holds Tryd.pinned (.plain (OpenSpec.upto replyKnownSpec)) replyKnownUptoCard

/-- THE SECOND FORM's CARD OF 'seepagelaw41.ReplyChecks'. -/
def replyChecksUptoCard : Claim7 := { stood := { row := replyChecksUptoRow, standIns := [], harness := (true, "affc6e0d43edcf258ede94411b1883fdbddba278a53e2280190da99f40f0a4d0"), looks := true }, kinds := [], alts := [], laidByText := true, laidKinds := [.data, .data, .data, .data, .sentinel, .sentinel, .widerDeep, .pinned], laidTests := true, laidLooks := .later }
def ReplyChecksUptoCardSaid : Prop := Claim7.holds Tryd.pinned (.plain (OpenSpec.upto replyChecksSpec)) replyChecksUptoCard

/-- THE SECOND FORM's CARD OF 'seepagelaw41.ReplyPuts'. -/
def replyPutsUptoCard : Claim7 := { stood := { row := replyPutsUptoRow, standIns := [], harness := (true, "affc6e0d43edcf258ede94411b1883fdbddba278a53e2280190da99f40f0a4d0"), looks := true }, kinds := [], alts := [], laidByText := true, laidKinds := [.data, .data, .data, .data, .sentinel, .sentinel, .widerDeep, .pinned], laidTests := true, laidLooks := .later }
def ReplyPutsUptoCardSaid : Prop := Claim7.holds Tryd.pinned (.plain (OpenSpec.upto replyPutsSpec)) replyPutsUptoCard

/-- THE SECOND FORM's CARD OF 'seepagelaw41.ReplyParses'. -/
def replyParsesUptoCard : Claim7 := { stood := { row := replyParsesUptoRow, standIns := [], harness := (true, "affc6e0d43edcf258ede94411b1883fdbddba278a53e2280190da99f40f0a4d0"), looks := true }, kinds := [], alts := [], laidByText := true, laidKinds := [.data, .data, .data, .data, .sentinel, .sentinel, .widerDeep, .pinned], laidTests := true, laidLooks := .later }
def ReplyParsesUptoCardSaid : Prop := Claim7.holds Tryd.pinned (.plain (OpenSpec.upto replyParsesSpec)) replyParsesUptoCard

/-- THE SECOND FORM's CARD OF 'seepagelaw41.ReplySames'. -/
def replySamesUptoCard : Claim7 := { stood := { row := replySamesUptoRow, standIns := [], harness := (true, "affc6e0d43edcf258ede94411b1883fdbddba278a53e2280190da99f40f0a4d0"), looks := true }, kinds := [], alts := [], laidByText := true, laidKinds := [.data, .data, .data, .data, .sentinel, .sentinel, .widerDeep, .pinned], laidTests := true, laidLooks := .later }
def ReplySamesUptoCardSaid : Prop := Claim7.holds Tryd.pinned (.plain (OpenSpec.upto replySamesSpec)) replySamesUptoCard

/-- THE SECOND FORM's CARD OF 'seepagelaw41.ReplyCanons'. -/
def replyCanonsUptoCard : Claim7 := { stood := { row := replyCanonsUptoRow, standIns := [], harness := (true, "affc6e0d43edcf258ede94411b1883fdbddba278a53e2280190da99f40f0a4d0"), looks := true }, kinds := [], alts := [], laidByText := true, laidKinds := [.data, .data, .data, .data, .sentinel, .sentinel, .widerDeep, .pinned], laidTests := true, laidLooks := .later }
def ReplyCanonsUptoCardSaid : Prop := Claim7.holds Tryd.pinned (.plain (OpenSpec.upto replyCanonsSpec)) replyCanonsUptoCard

/-- THE SECOND FORM's CARD OF 'seepagelaw41.ReplyGets'. -/
def replyGetsUptoCard : Claim7 := { stood := { row := replyGetsUptoRow, standIns := [], harness := (true, "affc6e0d43edcf258ede94411b1883fdbddba278a53e2280190da99f40f0a4d0"), looks := true }, kinds := [], alts := [], laidByText := true, laidKinds := [.data, .data, .data, .data, .sentinel, .sentinel, .widerDeep, .pinned], laidTests := true, laidLooks := .later }
def ReplyGetsUptoCardSaid : Prop := Claim7.holds Tryd.pinned (.plain (OpenSpec.upto replyGetsSpec)) replyGetsUptoCard

/-- THE SECOND FORM's CARD OF 'seepagelaw41.ReplyReturns'. -/
def replyReturnsUptoCard : Claim7 := { stood := { row := replyReturnsUptoRow, standIns := [], harness := (true, "affc6e0d43edcf258ede94411b1883fdbddba278a53e2280190da99f40f0a4d0"), looks := true }, kinds := [], alts := [], laidByText := true, laidKinds := [.data, .data, .data, .data, .sentinel, .sentinel, .widerDeep, .pinned], laidTests := true, laidLooks := .later }
def ReplyReturnsUptoCardSaid : Prop := Claim7.holds Tryd.pinned (.plain (OpenSpec.upto replyReturnsSpec)) replyReturnsUptoCard

/-- THE SECOND FORM's CARD OF 'seepagelaw41.ReplyChains'. -/
def replyChainsUptoCard : Claim7 := { stood := { row := replyChainsUptoRow, standIns := [], harness := (true, "affc6e0d43edcf258ede94411b1883fdbddba278a53e2280190da99f40f0a4d0"), looks := true }, kinds := [], alts := [], laidByText := true, laidKinds := [.data, .data, .data, .data, .sentinel, .sentinel, .widerDeep, .pinned], laidTests := true, laidLooks := .later }
def ReplyChainsUptoCardSaid : Prop := Claim7.holds Tryd.pinned (.plain (OpenSpec.upto replyChainsSpec)) replyChainsUptoCard
end Rows
end Go.Proofs.YtlmdkcpiimpniaaDoor
