/-
  DERIVED. GIVEN WITH THE SEED: THE CARDS: each row of YtejleobpohpdpaaDoorRows.lean that lists a variable, with what it lists TIED to the program's text (the seventh form; the later family's looks); each row that meets fmt, with fmt's text TOLD by the authors' own Lean function (tested against real Go, not proved from fmt's source: count such statements apart). THE CARD IS WHAT COUNTS. Prove the row's statement (the work); the ties are given (YtejleobpohpdpaaDoorTie.lean); close each card by the builder's one call (the guide's Derived/Test/ToyasCard.lean, 'card_holds'). Laid BY PROGRAM, IN A SANDBOX (cutbox-door.mjs). By AI agents, Wed Nov 11 2026. No macro, syntax, notation, axiom, sorry.
-/
import Derived.Test.YtejleobpohpdpaaDoorRows
import GoSem.ClaimSeven
namespace Go.Proofs.YtejleobpohpdpaaDoor
namespace Rows

/-- THE TIED CARD OF 'seepagelaw26.ShuffleDraws'. -/
def shuffleDrawsCard : Claim7 := { stood := { row := shuffleDrawsRow, standIns := [], harness := (true, "5c522a6fe735ddade14f4afb0d7cfd0d3be04f5eceea01155f91f02ffc5af6aa"), looks := false }, kinds := [], alts := [], laidByText := true, laidKinds := [.data], laidTests := true, laidLooks := .later }
def ShuffleDrawsCardSaid : Prop := Claim7.holds Tryd.pinned (.plain (OpenSpec.ofChange shuffleDrawsSpec)) shuffleDrawsCard

/-- THE TIED CARD OF 'seepagelaw26.ShuffleUnranks'. -/
def shuffleUnranksCard : Claim7 := { stood := { row := shuffleUnranksRow, standIns := [], harness := (true, "5c522a6fe735ddade14f4afb0d7cfd0d3be04f5eceea01155f91f02ffc5af6aa"), looks := false }, kinds := [], alts := [], laidByText := true, laidKinds := [.data], laidTests := true, laidLooks := .later }
def ShuffleUnranksCardSaid : Prop := Claim7.holds Tryd.pinned (.plain (OpenSpec.ofChange shuffleUnranksSpec)) shuffleUnranksCard

/-- THE TIED CARD OF 'seepagelaw26.ShuffleBack'. -/
def shuffleBackCard : Claim7 := { stood := { row := shuffleBackRow, standIns := [], harness := (true, "5c522a6fe735ddade14f4afb0d7cfd0d3be04f5eceea01155f91f02ffc5af6aa"), looks := false }, kinds := [], alts := [], laidByText := true, laidKinds := [.data], laidTests := true, laidLooks := .later }
def ShuffleBackCardSaid : Prop := Claim7.holds Tryd.pinned (.plain (OpenSpec.ofChange shuffleBackSpec)) shuffleBackCard

/-- THE TIED CARD OF 'seepagelaw26.ShuffleRanks'. -/
def shuffleRanksCard : Claim7 := { stood := { row := shuffleRanksRow, standIns := [], harness := (true, "5c522a6fe735ddade14f4afb0d7cfd0d3be04f5eceea01155f91f02ffc5af6aa"), looks := false }, kinds := [], alts := [], laidByText := true, laidKinds := [.data], laidTests := true, laidLooks := .later }
def ShuffleRanksCardSaid : Prop := Claim7.holds Tryd.pinned (.plain (OpenSpec.ofChange shuffleRanksSpec)) shuffleRanksCard

/-- THE TIED CARD OF 'seepagelaw26.ShuffleCycles'. -/
def shuffleCyclesCard : Claim7 := { stood := { row := shuffleCyclesRow, standIns := [], harness := (true, "5c522a6fe735ddade14f4afb0d7cfd0d3be04f5eceea01155f91f02ffc5af6aa"), looks := false }, kinds := [], alts := [], laidByText := true, laidKinds := [.data], laidTests := true, laidLooks := .later }
def ShuffleCyclesCardSaid : Prop := Claim7.holds Tryd.pinned (.plain (OpenSpec.ofChange shuffleCyclesSpec)) shuffleCyclesCard

/-- THE TIED CARD OF 'seepagelaw26.ShuffleExtra'. -/
def shuffleExtraCard : Claim7 := { stood := { row := shuffleExtraRow, standIns := [], harness := (true, "5c522a6fe735ddade14f4afb0d7cfd0d3be04f5eceea01155f91f02ffc5af6aa"), looks := false }, kinds := [], alts := [], laidByText := true, laidKinds := [.data], laidTests := true, laidLooks := .later }
def ShuffleExtraCardSaid : Prop := Claim7.holds Tryd.pinned (.plain (OpenSpec.ofChange shuffleExtraSpec)) shuffleExtraCard

/-- THE TIED CARD OF 'seepagelaw26.ShuffleComposes'. -/
def shuffleComposesCard : Claim7 := { stood := { row := shuffleComposesRow, standIns := [], harness := (true, "5c522a6fe735ddade14f4afb0d7cfd0d3be04f5eceea01155f91f02ffc5af6aa"), looks := false }, kinds := [], alts := [], laidByText := true, laidKinds := [.data], laidTests := true, laidLooks := .later }
def ShuffleComposesCardSaid : Prop := Claim7.holds Tryd.pinned (.plain (OpenSpec.ofChange shuffleComposesSpec)) shuffleComposesCard

/-- THE TIED CARD OF 'seepagelaw26.ShuffleTells'. -/
def shuffleTellsCard : Claim7 := { stood := { row := shuffleTellsRow, standIns := [], harness := (true, "5c522a6fe735ddade14f4afb0d7cfd0d3be04f5eceea01155f91f02ffc5af6aa"), looks := false }, kinds := [], alts := [], laidByText := true, laidKinds := [.data], laidTests := true, laidLooks := .later }
def ShuffleTellsCardSaid : Prop := Claim7.holds Tryd.pinned (.plain (OpenSpec.ofChange shuffleTellsSpec)) shuffleTellsCard

/-- THE TIED CARD OF 'seepagelaw26.ShuffleLong'. -/
def shuffleLongCard : Claim7 := { stood := { row := shuffleLongRow, standIns := [], harness := (true, "5c522a6fe735ddade14f4afb0d7cfd0d3be04f5eceea01155f91f02ffc5af6aa"), looks := false }, kinds := [], alts := [], laidByText := true, laidKinds := [.data], laidTests := true, laidLooks := .later }
def ShuffleLongCardSaid : Prop := Claim7.holds Tryd.pinned (.plain (OpenSpec.ofChange shuffleLongSpec)) shuffleLongCard

/-- THE TIED CARD OF 'seepagelaw26.ShuffleInverse'. -/
def shuffleInverseCard : Claim7 := { stood := { row := shuffleInverseRow, standIns := [], harness := (true, "5c522a6fe735ddade14f4afb0d7cfd0d3be04f5eceea01155f91f02ffc5af6aa"), looks := false }, kinds := [], alts := [], laidByText := true, laidKinds := [.data], laidTests := true, laidLooks := .later }
def ShuffleInverseCardSaid : Prop := Claim7.holds Tryd.pinned (.plain (OpenSpec.ofChange shuffleInverseSpec)) shuffleInverseCard

/-- THE TIED CARD OF 'seepagelaw26.ShuffleGroup'. -/
def shuffleGroupCard : Claim7 := { stood := { row := shuffleGroupRow, standIns := [], harness := (true, "5c522a6fe735ddade14f4afb0d7cfd0d3be04f5eceea01155f91f02ffc5af6aa"), looks := false }, kinds := [], alts := [], laidByText := true, laidKinds := [.data], laidTests := true, laidLooks := .later }
def ShuffleGroupCardSaid : Prop := Claim7.holds Tryd.pinned (.plain (OpenSpec.ofChange shuffleGroupSpec)) shuffleGroupCard

/-- THE SECOND FORM's CARD OF 'seepagelaw26.ShuffleDraws'. -/
def shuffleDrawsUptoCard : Claim7 := { stood := { row := shuffleDrawsUptoRow, standIns := [], harness := (true, "5c522a6fe735ddade14f4afb0d7cfd0d3be04f5eceea01155f91f02ffc5af6aa"), looks := false }, kinds := [], alts := [], laidByText := true, laidKinds := [.data], laidTests := true, laidLooks := .later }
def ShuffleDrawsUptoCardSaid : Prop := Claim7.holds Tryd.pinned (.plain (OpenSpec.upto shuffleDrawsSpec)) shuffleDrawsUptoCard

/-- THE SECOND FORM's CARD OF 'seepagelaw26.ShuffleUnranks'. -/
def shuffleUnranksUptoCard : Claim7 := { stood := { row := shuffleUnranksUptoRow, standIns := [], harness := (true, "5c522a6fe735ddade14f4afb0d7cfd0d3be04f5eceea01155f91f02ffc5af6aa"), looks := false }, kinds := [], alts := [], laidByText := true, laidKinds := [.data], laidTests := true, laidLooks := .later }
def ShuffleUnranksUptoCardSaid : Prop := Claim7.holds Tryd.pinned (.plain (OpenSpec.upto shuffleUnranksSpec)) shuffleUnranksUptoCard

/-- THE SECOND FORM's CARD OF 'seepagelaw26.ShuffleBack'. -/
def shuffleBackUptoCard : Claim7 := { stood := { row := shuffleBackUptoRow, standIns := [], harness := (true, "5c522a6fe735ddade14f4afb0d7cfd0d3be04f5eceea01155f91f02ffc5af6aa"), looks := false }, kinds := [], alts := [], laidByText := true, laidKinds := [.data], laidTests := true, laidLooks := .later }
def ShuffleBackUptoCardSaid : Prop := Claim7.holds Tryd.pinned (.plain (OpenSpec.upto shuffleBackSpec)) shuffleBackUptoCard

/-- THE SECOND FORM's CARD OF 'seepagelaw26.ShuffleRanks'. -/
def shuffleRanksUptoCard : Claim7 := { stood := { row := shuffleRanksUptoRow, standIns := [], harness := (true, "5c522a6fe735ddade14f4afb0d7cfd0d3be04f5eceea01155f91f02ffc5af6aa"), looks := false }, kinds := [], alts := [], laidByText := true, laidKinds := [.data], laidTests := true, laidLooks := .later }
def ShuffleRanksUptoCardSaid : Prop := Claim7.holds Tryd.pinned (.plain (OpenSpec.upto shuffleRanksSpec)) shuffleRanksUptoCard

/-- THE SECOND FORM's CARD OF 'seepagelaw26.ShuffleCycles'. -/
def shuffleCyclesUptoCard : Claim7 := { stood := { row := shuffleCyclesUptoRow, standIns := [], harness := (true, "5c522a6fe735ddade14f4afb0d7cfd0d3be04f5eceea01155f91f02ffc5af6aa"), looks := false }, kinds := [], alts := [], laidByText := true, laidKinds := [.data], laidTests := true, laidLooks := .later }
def ShuffleCyclesUptoCardSaid : Prop := Claim7.holds Tryd.pinned (.plain (OpenSpec.upto shuffleCyclesSpec)) shuffleCyclesUptoCard

/-- THE SECOND FORM's CARD OF 'seepagelaw26.ShuffleExtra'. -/
def shuffleExtraUptoCard : Claim7 := { stood := { row := shuffleExtraUptoRow, standIns := [], harness := (true, "5c522a6fe735ddade14f4afb0d7cfd0d3be04f5eceea01155f91f02ffc5af6aa"), looks := false }, kinds := [], alts := [], laidByText := true, laidKinds := [.data], laidTests := true, laidLooks := .later }
def ShuffleExtraUptoCardSaid : Prop := Claim7.holds Tryd.pinned (.plain (OpenSpec.upto shuffleExtraSpec)) shuffleExtraUptoCard

/-- THE SECOND FORM's CARD OF 'seepagelaw26.ShuffleComposes'. -/
def shuffleComposesUptoCard : Claim7 := { stood := { row := shuffleComposesUptoRow, standIns := [], harness := (true, "5c522a6fe735ddade14f4afb0d7cfd0d3be04f5eceea01155f91f02ffc5af6aa"), looks := false }, kinds := [], alts := [], laidByText := true, laidKinds := [.data], laidTests := true, laidLooks := .later }
def ShuffleComposesUptoCardSaid : Prop := Claim7.holds Tryd.pinned (.plain (OpenSpec.upto shuffleComposesSpec)) shuffleComposesUptoCard

/-- THE SECOND FORM's CARD OF 'seepagelaw26.ShuffleTells'. -/
def shuffleTellsUptoCard : Claim7 := { stood := { row := shuffleTellsUptoRow, standIns := [], harness := (true, "5c522a6fe735ddade14f4afb0d7cfd0d3be04f5eceea01155f91f02ffc5af6aa"), looks := false }, kinds := [], alts := [], laidByText := true, laidKinds := [.data], laidTests := true, laidLooks := .later }
def ShuffleTellsUptoCardSaid : Prop := Claim7.holds Tryd.pinned (.plain (OpenSpec.upto shuffleTellsSpec)) shuffleTellsUptoCard

/-- THE SECOND FORM's CARD OF 'seepagelaw26.ShuffleLong'. -/
def shuffleLongUptoCard : Claim7 := { stood := { row := shuffleLongUptoRow, standIns := [], harness := (true, "5c522a6fe735ddade14f4afb0d7cfd0d3be04f5eceea01155f91f02ffc5af6aa"), looks := false }, kinds := [], alts := [], laidByText := true, laidKinds := [.data], laidTests := true, laidLooks := .later }
def ShuffleLongUptoCardSaid : Prop := Claim7.holds Tryd.pinned (.plain (OpenSpec.upto shuffleLongSpec)) shuffleLongUptoCard

/-- THE SECOND FORM's CARD OF 'seepagelaw26.ShuffleInverse'. -/
def shuffleInverseUptoCard : Claim7 := { stood := { row := shuffleInverseUptoRow, standIns := [], harness := (true, "5c522a6fe735ddade14f4afb0d7cfd0d3be04f5eceea01155f91f02ffc5af6aa"), looks := false }, kinds := [], alts := [], laidByText := true, laidKinds := [.data], laidTests := true, laidLooks := .later }
def ShuffleInverseUptoCardSaid : Prop := Claim7.holds Tryd.pinned (.plain (OpenSpec.upto shuffleInverseSpec)) shuffleInverseUptoCard

/-- THE SECOND FORM's CARD OF 'seepagelaw26.ShuffleGroup'. -/
def shuffleGroupUptoCard : Claim7 := { stood := { row := shuffleGroupUptoRow, standIns := [], harness := (true, "5c522a6fe735ddade14f4afb0d7cfd0d3be04f5eceea01155f91f02ffc5af6aa"), looks := false }, kinds := [], alts := [], laidByText := true, laidKinds := [.data], laidTests := true, laidLooks := .later }
def ShuffleGroupUptoCardSaid : Prop := Claim7.holds Tryd.pinned (.plain (OpenSpec.upto shuffleGroupSpec)) shuffleGroupUptoCard
end Rows
end Go.Proofs.YtejleobpohpdpaaDoor
