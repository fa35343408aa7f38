/-
  NARROWER THAN 'FOR EVERY INPUT', by the rows' own cells (each row's printed sentence says how): ShuffleDraws: laid · ShuffleUnranks: laid · ShuffleBack: laid · ShuffleRanks: laid · ShuffleCycles: laid · ShuffleExtra: laid · ShuffleComposes: laid · ShuffleTells: laid · ShuffleLong: laid · ShuffleInverse: laid · ShuffleGroup: laid.
  DERIVED. THE GIVEN ROWS OF THIS SEAT. 11 by the template 'for every input the law returns true; each argument reads behind the call as it read before'; 0 by the template 'total and deterministic' (their statements: YtejleobpohpdpaaDoorTotals.lean).
  GIVEN WITH THE SEED: the statements are not yours to turn. If you find one false, say at which input.
  Laid BY PROGRAM, IN A SANDBOX (cutbox-rows.mjs): the forced cells as the released guide's own fill.sh prints them over the translation 9a26a7e6ce56d796… (all of the seat's roots in one cut). By AI agents, Wed Nov 11 2026. No macro, syntax, notation, axiom, sorry.
-/
import Derived.Test.YtejleobpohpdpaaDoorChecked
import GoSem.Claim
import GoSem.ClaimJoined
import GoSem.ClaimMapViews
import Derived.JoinedTies
import Derived.KernelRfl
namespace Go.Proofs.YtejleobpohpdpaaDoor
/- THE CELL 'sum', in the pinned program and in every row, IS THE sha256 OF THE DUMP (.gsa) THAT YtejleobpohpdpaaDoorProg.lean LOADS. Nothing in Lean hashes anything: it is a label: what it is worth is what the hold of that sum in a sandbox is worth. -/
noncomputable def Tryd.pinned : Pinned := { name := "ytejleobpohpdpaadoor", sum := "9a26a7e6ce56d7964133198c1bb110e5c9b38f436aa43756a362adb0a695f712", checked := Tryd.checked }
namespace Rows
def none {H : Type} : Left H := { results := [], args := [] }

/- WHAT THE LISTED PACKAGE-LEVEL VARIABLES READ AS WHEN THE CALL BEGINS. Each datum BY PROGRAM (the guide's laid-datum.mjs) off the statement by which the dump's own 'gosem.cut.vars' lays the variable. In a bare row this is a premise. The card (YtejleobpohpdpaaDoorCards.lean) ties it to the program's text. -/
def laid_seepage_shuffle_factorials {H : Type} : DataW H := .agg [.lit (.int .u64 1), .lit (.int .u64 1), .lit (.int .u64 2), .lit (.int .u64 6), .lit (.int .u64 24), .lit (.int .u64 120), .lit (.int .u64 720), .lit (.int .u64 5040), .lit (.int .u64 40320), .lit (.int .u64 362880), .lit (.int .u64 3628800), .lit (.int .u64 39916800), .lit (.int .u64 479001600), .lit (.int .u64 6227020800), .lit (.int .u64 87178291200), .lit (.int .u64 1307674368000), .lit (.int .u64 20922789888000), .lit (.int .u64 355687428096000), .lit (.int .u64 6402373705728000), .lit (.int .u64 121645100408832000), .lit (.int .u64 2432902008176640000)]

/-- 'seepagelaw26.ShuffleDraws': WHATEVER THE INPUT: true; the input reads as it did. -/
def shuffleDrawsSpec : ChangeSpec := { name := "shuffleDraws", fn := fun _ => fun
  | [d1, d2] => { results := [.lit (.bool true)], args := [d1, d2] }
  | _ => none }
def shuffleDrawsRow : OpenClaim := { program := "ytejleobpohpdpaadoor", sum := "9a26a7e6ce56d7964133198c1bb110e5c9b38f436aa43756a362adb0a695f712", func := "seepage/seepagelaw26.ShuffleDraws", spec := "shuffleDraws", unfollowed := true, recurses := true, named := ["seepage/shuffle.factorials"], apart := false, laid := [("seepage/shuffle.factorials", laid_seepage_shuffle_factorials)] }
def ShuffleDrawsSaid : Prop := shuffleDrawsRow.holds Tryd.pinned (OpenSpec.ofChange shuffleDrawsSpec)

/-- ITS FALSE NEIGHBOUR: 'it returns false'. Refute it at one input. -/
def shuffleDrawsWrong : ChangeSpec := { name := "shuffleDraws", fn := fun _ => fun
  | [d1, d2] => { results := [.lit (.bool false)], args := [d1, d2] }
  | _ => none }
def ShuffleDrawsWrongFalsely : Prop := shuffleDrawsRow.holds Tryd.pinned (OpenSpec.ofChange shuffleDrawsWrong)

/-- 'seepagelaw26.ShuffleUnranks': WHATEVER THE INPUT: true; the input reads as it did. -/
def shuffleUnranksSpec : ChangeSpec := { name := "shuffleUnranks", fn := fun _ => fun
  | [d1, d2] => { results := [.lit (.bool true)], args := [d1, d2] }
  | _ => none }
def shuffleUnranksRow : OpenClaim := { program := "ytejleobpohpdpaadoor", sum := "9a26a7e6ce56d7964133198c1bb110e5c9b38f436aa43756a362adb0a695f712", func := "seepage/seepagelaw26.ShuffleUnranks", spec := "shuffleUnranks", unfollowed := true, recurses := true, named := ["seepage/shuffle.factorials"], apart := false, laid := [("seepage/shuffle.factorials", laid_seepage_shuffle_factorials)] }
def ShuffleUnranksSaid : Prop := shuffleUnranksRow.holds Tryd.pinned (OpenSpec.ofChange shuffleUnranksSpec)

/-- ITS FALSE NEIGHBOUR: 'it returns false'. Refute it at one input. -/
def shuffleUnranksWrong : ChangeSpec := { name := "shuffleUnranks", fn := fun _ => fun
  | [d1, d2] => { results := [.lit (.bool false)], args := [d1, d2] }
  | _ => none }
def ShuffleUnranksWrongFalsely : Prop := shuffleUnranksRow.holds Tryd.pinned (OpenSpec.ofChange shuffleUnranksWrong)

/-- 'seepagelaw26.ShuffleBack': WHATEVER THE INPUT: true; the input reads as it did. -/
def shuffleBackSpec : ChangeSpec := { name := "shuffleBack", fn := fun _ => fun
  | [d1, d2] => { results := [.lit (.bool true)], args := [d1, d2] }
  | _ => none }
def shuffleBackRow : OpenClaim := { program := "ytejleobpohpdpaadoor", sum := "9a26a7e6ce56d7964133198c1bb110e5c9b38f436aa43756a362adb0a695f712", func := "seepage/seepagelaw26.ShuffleBack", spec := "shuffleBack", unfollowed := true, recurses := true, named := ["seepage/shuffle.factorials"], apart := false, laid := [("seepage/shuffle.factorials", laid_seepage_shuffle_factorials)] }
def ShuffleBackSaid : Prop := shuffleBackRow.holds Tryd.pinned (OpenSpec.ofChange shuffleBackSpec)

/-- ITS FALSE NEIGHBOUR: 'it returns false'. Refute it at one input. -/
def shuffleBackWrong : ChangeSpec := { name := "shuffleBack", fn := fun _ => fun
  | [d1, d2] => { results := [.lit (.bool false)], args := [d1, d2] }
  | _ => none }
def ShuffleBackWrongFalsely : Prop := shuffleBackRow.holds Tryd.pinned (OpenSpec.ofChange shuffleBackWrong)

/-- 'seepagelaw26.ShuffleRanks': WHATEVER THE INPUT: true; the input reads as it did. -/
def shuffleRanksSpec : ChangeSpec := { name := "shuffleRanks", fn := fun _ => fun
  | [d1, d2] => { results := [.lit (.bool true)], args := [d1, d2] }
  | _ => none }
def shuffleRanksRow : OpenClaim := { program := "ytejleobpohpdpaadoor", sum := "9a26a7e6ce56d7964133198c1bb110e5c9b38f436aa43756a362adb0a695f712", func := "seepage/seepagelaw26.ShuffleRanks", spec := "shuffleRanks", unfollowed := true, recurses := true, named := ["seepage/shuffle.factorials"], apart := false, laid := [("seepage/shuffle.factorials", laid_seepage_shuffle_factorials)] }
def ShuffleRanksSaid : Prop := shuffleRanksRow.holds Tryd.pinned (OpenSpec.ofChange shuffleRanksSpec)

/-- ITS FALSE NEIGHBOUR: 'it returns false'. Refute it at one input. -/
def shuffleRanksWrong : ChangeSpec := { name := "shuffleRanks", fn := fun _ => fun
  | [d1, d2] => { results := [.lit (.bool false)], args := [d1, d2] }
  | _ => none }
def ShuffleRanksWrongFalsely : Prop := shuffleRanksRow.holds Tryd.pinned (OpenSpec.ofChange shuffleRanksWrong)

/-- 'seepagelaw26.ShuffleCycles': WHATEVER THE INPUT: true; the input reads as it did. -/
def shuffleCyclesSpec : ChangeSpec := { name := "shuffleCycles", fn := fun _ => fun
  | [d1, d2] => { results := [.lit (.bool true)], args := [d1, d2] }
  | _ => none }
def shuffleCyclesRow : OpenClaim := { program := "ytejleobpohpdpaadoor", sum := "9a26a7e6ce56d7964133198c1bb110e5c9b38f436aa43756a362adb0a695f712", func := "seepage/seepagelaw26.ShuffleCycles", spec := "shuffleCycles", unfollowed := true, recurses := true, named := ["seepage/shuffle.factorials"], apart := false, laid := [("seepage/shuffle.factorials", laid_seepage_shuffle_factorials)] }
def ShuffleCyclesSaid : Prop := shuffleCyclesRow.holds Tryd.pinned (OpenSpec.ofChange shuffleCyclesSpec)

/-- ITS FALSE NEIGHBOUR: 'it returns false'. Refute it at one input. -/
def shuffleCyclesWrong : ChangeSpec := { name := "shuffleCycles", fn := fun _ => fun
  | [d1, d2] => { results := [.lit (.bool false)], args := [d1, d2] }
  | _ => none }
def ShuffleCyclesWrongFalsely : Prop := shuffleCyclesRow.holds Tryd.pinned (OpenSpec.ofChange shuffleCyclesWrong)

/-- 'seepagelaw26.ShuffleExtra': WHATEVER THE INPUT: true; the input reads as it did. -/
def shuffleExtraSpec : ChangeSpec := { name := "shuffleExtra", fn := fun _ => fun
  | [d1, d2, d3] => { results := [.lit (.bool true)], args := [d1, d2, d3] }
  | _ => none }
def shuffleExtraRow : OpenClaim := { program := "ytejleobpohpdpaadoor", sum := "9a26a7e6ce56d7964133198c1bb110e5c9b38f436aa43756a362adb0a695f712", func := "seepage/seepagelaw26.ShuffleExtra", spec := "shuffleExtra", unfollowed := true, recurses := true, named := ["seepage/shuffle.factorials"], apart := false, laid := [("seepage/shuffle.factorials", laid_seepage_shuffle_factorials)] }
def ShuffleExtraSaid : Prop := shuffleExtraRow.holds Tryd.pinned (OpenSpec.ofChange shuffleExtraSpec)

/-- ITS FALSE NEIGHBOUR: 'it returns false'. Refute it at one input. -/
def shuffleExtraWrong : ChangeSpec := { name := "shuffleExtra", fn := fun _ => fun
  | [d1, d2, d3] => { results := [.lit (.bool false)], args := [d1, d2, d3] }
  | _ => none }
def ShuffleExtraWrongFalsely : Prop := shuffleExtraRow.holds Tryd.pinned (OpenSpec.ofChange shuffleExtraWrong)

/-- 'seepagelaw26.ShuffleComposes': WHATEVER THE INPUT: true; the input reads as it did. -/
def shuffleComposesSpec : ChangeSpec := { name := "shuffleComposes", fn := fun _ => fun
  | [d1, d2] => { results := [.lit (.bool true)], args := [d1, d2] }
  | _ => none }
def shuffleComposesRow : OpenClaim := { program := "ytejleobpohpdpaadoor", sum := "9a26a7e6ce56d7964133198c1bb110e5c9b38f436aa43756a362adb0a695f712", func := "seepage/seepagelaw26.ShuffleComposes", spec := "shuffleComposes", unfollowed := true, recurses := true, named := ["seepage/shuffle.factorials"], apart := false, laid := [("seepage/shuffle.factorials", laid_seepage_shuffle_factorials)] }
def ShuffleComposesSaid : Prop := shuffleComposesRow.holds Tryd.pinned (OpenSpec.ofChange shuffleComposesSpec)

/-- ITS FALSE NEIGHBOUR: 'it returns false'. Refute it at one input. -/
def shuffleComposesWrong : ChangeSpec := { name := "shuffleComposes", fn := fun _ => fun
  | [d1, d2] => { results := [.lit (.bool false)], args := [d1, d2] }
  | _ => none }
def ShuffleComposesWrongFalsely : Prop := shuffleComposesRow.holds Tryd.pinned (OpenSpec.ofChange shuffleComposesWrong)

/-- 'seepagelaw26.ShuffleTells': WHATEVER THE INPUT: true; the input reads as it did. -/
def shuffleTellsSpec : ChangeSpec := { name := "shuffleTells", fn := fun _ => fun
  | [d] => { results := [.lit (.bool true)], args := [d] }
  | _ => none }
def shuffleTellsRow : OpenClaim := { program := "ytejleobpohpdpaadoor", sum := "9a26a7e6ce56d7964133198c1bb110e5c9b38f436aa43756a362adb0a695f712", func := "seepage/seepagelaw26.ShuffleTells", spec := "shuffleTells", unfollowed := true, recurses := true, named := ["seepage/shuffle.factorials"], apart := false, laid := [("seepage/shuffle.factorials", laid_seepage_shuffle_factorials)] }
def ShuffleTellsSaid : Prop := shuffleTellsRow.holds Tryd.pinned (OpenSpec.ofChange shuffleTellsSpec)

/-- ITS FALSE NEIGHBOUR: 'it returns false'. Refute it at one input. -/
def shuffleTellsWrong : ChangeSpec := { name := "shuffleTells", fn := fun _ => fun
  | [d] => { results := [.lit (.bool false)], args := [d] }
  | _ => none }
def ShuffleTellsWrongFalsely : Prop := shuffleTellsRow.holds Tryd.pinned (OpenSpec.ofChange shuffleTellsWrong)

/-- 'seepagelaw26.ShuffleLong': WHATEVER THE INPUT: true; the input reads as it did. -/
def shuffleLongSpec : ChangeSpec := { name := "shuffleLong", fn := fun _ => fun
  | [] => { results := [.lit (.bool true)], args := [] }
  | _ => none }
def shuffleLongRow : OpenClaim := { program := "ytejleobpohpdpaadoor", sum := "9a26a7e6ce56d7964133198c1bb110e5c9b38f436aa43756a362adb0a695f712", func := "seepage/seepagelaw26.ShuffleLong", spec := "shuffleLong", unfollowed := true, recurses := true, named := ["seepage/shuffle.factorials"], apart := false, laid := [("seepage/shuffle.factorials", laid_seepage_shuffle_factorials)] }
def ShuffleLongSaid : Prop := shuffleLongRow.holds Tryd.pinned (OpenSpec.ofChange shuffleLongSpec)

/-- ITS FALSE NEIGHBOUR: 'it returns false'. Refute it at one input. -/
def shuffleLongWrong : ChangeSpec := { name := "shuffleLong", fn := fun _ => fun
  | [] => { results := [.lit (.bool false)], args := [] }
  | _ => none }
def ShuffleLongWrongFalsely : Prop := shuffleLongRow.holds Tryd.pinned (OpenSpec.ofChange shuffleLongWrong)

/-- 'seepagelaw26.ShuffleInverse': WHATEVER THE INPUT: true; the input reads as it did. -/
def shuffleInverseSpec : ChangeSpec := { name := "shuffleInverse", fn := fun _ => fun
  | [d1, d2] => { results := [.lit (.bool true)], args := [d1, d2] }
  | _ => none }
def shuffleInverseRow : OpenClaim := { program := "ytejleobpohpdpaadoor", sum := "9a26a7e6ce56d7964133198c1bb110e5c9b38f436aa43756a362adb0a695f712", func := "seepage/seepagelaw26.ShuffleInverse", spec := "shuffleInverse", unfollowed := true, recurses := true, named := ["seepage/shuffle.factorials"], apart := false, laid := [("seepage/shuffle.factorials", laid_seepage_shuffle_factorials)] }
def ShuffleInverseSaid : Prop := shuffleInverseRow.holds Tryd.pinned (OpenSpec.ofChange shuffleInverseSpec)

/-- ITS FALSE NEIGHBOUR: 'it returns false'. Refute it at one input. -/
def shuffleInverseWrong : ChangeSpec := { name := "shuffleInverse", fn := fun _ => fun
  | [d1, d2] => { results := [.lit (.bool false)], args := [d1, d2] }
  | _ => none }
def ShuffleInverseWrongFalsely : Prop := shuffleInverseRow.holds Tryd.pinned (OpenSpec.ofChange shuffleInverseWrong)

/-- 'seepagelaw26.ShuffleGroup': WHATEVER THE INPUT: true; the input reads as it did. -/
def shuffleGroupSpec : ChangeSpec := { name := "shuffleGroup", fn := fun _ => fun
  | [d1, d2, d3, d4] => { results := [.lit (.bool true)], args := [d1, d2, d3, d4] }
  | _ => none }
def shuffleGroupRow : OpenClaim := { program := "ytejleobpohpdpaadoor", sum := "9a26a7e6ce56d7964133198c1bb110e5c9b38f436aa43756a362adb0a695f712", func := "seepage/seepagelaw26.ShuffleGroup", spec := "shuffleGroup", unfollowed := true, recurses := true, named := ["seepage/shuffle.factorials"], apart := false, laid := [("seepage/shuffle.factorials", laid_seepage_shuffle_factorials)] }
def ShuffleGroupSaid : Prop := shuffleGroupRow.holds Tryd.pinned (OpenSpec.ofChange shuffleGroupSpec)

/-- ITS FALSE NEIGHBOUR: 'it returns false'. Refute it at one input. -/
def shuffleGroupWrong : ChangeSpec := { name := "shuffleGroup", fn := fun _ => fun
  | [d1, d2, d3, d4] => { results := [.lit (.bool false)], args := [d1, d2, d3, d4] }
  | _ => none }
def ShuffleGroupWrongFalsely : Prop := shuffleGroupRow.holds Tryd.pinned (OpenSpec.ofChange shuffleGroupWrong)

/- THE SECOND FORM. 'bulk': how many values and letters a reading holds, each counted each time it is reached (what is shared counts as often as it is met; a slice's spare places count too). A statement '..UptoSaid' is the law's where the arguments, and the package variables that the reading takes, are together of bulk at most 1048576: NARROWER than '..Said'. Prove '..Said' where nothing that the law and all that it calls make is longer than what came in: it says more and counts as full. Else prove '..UptoSaid'. A law counts once. -/
mutual
def uptoBulk {H : Type} : DataW H → Nat
  | .lit (.string bytes) => bytes.length + 1
  | .lit _ => 1
  | .nil => 1
  | .ptr d => uptoBulk d + 1
  | .slice elems spare => uptoBulkAll elems + uptoBulkAll spare + 1
  | .agg parts => uptoBulkAll parts + 1
  | .iface _ d => uptoBulk d + 1
  | .map entries => uptoBulkEntries entries + 1
  | .held _ => 1
def uptoBulkAll {H : Type} : List (DataW H) → Nat
  | [] => 0
  | d :: r => uptoBulk d + uptoBulkAll r
def uptoBulkEntries {H : Type} : List (Lit × DataW H) → Nat
  | [] => 0
  | x :: r => uptoBulkEntry x + uptoBulkEntries r
def uptoBulkEntry {H : Type} : Lit × DataW H → Nat
  | (.string bytes, d) => bytes.length + uptoBulk d + 1
  | (_, d) => uptoBulk d + 1
 end
def uptoSmall : (H : Type) → List (DataW H) → Bool := fun _ ds => decide (uptoBulkAll ds ≤ 1048576)
def OpenSpec.upto (s : _root_.Go.ChangeSpec) : _root_.Go.OpenSpec := { _root_.Go.OpenSpec.ofChange s with cond := some uptoSmall }

/-- 'seepagelaw26.ShuffleDraws', WHERE WHAT IT READS IS OF BULK AT MOST 1048576: true; the input reads as it did. -/
def shuffleDrawsUptoRow : OpenClaim := { program := "ytejleobpohpdpaadoor", sum := "9a26a7e6ce56d7964133198c1bb110e5c9b38f436aa43756a362adb0a695f712", func := "seepage/seepagelaw26.ShuffleDraws", spec := "shuffleDraws", unfollowed := true, recurses := true, named := ["seepage/shuffle.factorials"], apart := false, laid := [("seepage/shuffle.factorials", laid_seepage_shuffle_factorials)], narrowed := true }
def ShuffleDrawsUptoSaid : Prop := shuffleDrawsUptoRow.holds Tryd.pinned (OpenSpec.upto shuffleDrawsSpec)

/-- 'seepagelaw26.ShuffleUnranks', WHERE WHAT IT READS IS OF BULK AT MOST 1048576: true; the input reads as it did. -/
def shuffleUnranksUptoRow : OpenClaim := { program := "ytejleobpohpdpaadoor", sum := "9a26a7e6ce56d7964133198c1bb110e5c9b38f436aa43756a362adb0a695f712", func := "seepage/seepagelaw26.ShuffleUnranks", spec := "shuffleUnranks", unfollowed := true, recurses := true, named := ["seepage/shuffle.factorials"], apart := false, laid := [("seepage/shuffle.factorials", laid_seepage_shuffle_factorials)], narrowed := true }
def ShuffleUnranksUptoSaid : Prop := shuffleUnranksUptoRow.holds Tryd.pinned (OpenSpec.upto shuffleUnranksSpec)

/-- 'seepagelaw26.ShuffleBack', WHERE WHAT IT READS IS OF BULK AT MOST 1048576: true; the input reads as it did. -/
def shuffleBackUptoRow : OpenClaim := { program := "ytejleobpohpdpaadoor", sum := "9a26a7e6ce56d7964133198c1bb110e5c9b38f436aa43756a362adb0a695f712", func := "seepage/seepagelaw26.ShuffleBack", spec := "shuffleBack", unfollowed := true, recurses := true, named := ["seepage/shuffle.factorials"], apart := false, laid := [("seepage/shuffle.factorials", laid_seepage_shuffle_factorials)], narrowed := true }
def ShuffleBackUptoSaid : Prop := shuffleBackUptoRow.holds Tryd.pinned (OpenSpec.upto shuffleBackSpec)

/-- 'seepagelaw26.ShuffleRanks', WHERE WHAT IT READS IS OF BULK AT MOST 1048576: true; the input reads as it did. -/
def shuffleRanksUptoRow : OpenClaim := { program := "ytejleobpohpdpaadoor", sum := "9a26a7e6ce56d7964133198c1bb110e5c9b38f436aa43756a362adb0a695f712", func := "seepage/seepagelaw26.ShuffleRanks", spec := "shuffleRanks", unfollowed := true, recurses := true, named := ["seepage/shuffle.factorials"], apart := false, laid := [("seepage/shuffle.factorials", laid_seepage_shuffle_factorials)], narrowed := true }
def ShuffleRanksUptoSaid : Prop := shuffleRanksUptoRow.holds Tryd.pinned (OpenSpec.upto shuffleRanksSpec)

/-- 'seepagelaw26.ShuffleCycles', WHERE WHAT IT READS IS OF BULK AT MOST 1048576: true; the input reads as it did. -/
def shuffleCyclesUptoRow : OpenClaim := { program := "ytejleobpohpdpaadoor", sum := "9a26a7e6ce56d7964133198c1bb110e5c9b38f436aa43756a362adb0a695f712", func := "seepage/seepagelaw26.ShuffleCycles", spec := "shuffleCycles", unfollowed := true, recurses := true, named := ["seepage/shuffle.factorials"], apart := false, laid := [("seepage/shuffle.factorials", laid_seepage_shuffle_factorials)], narrowed := true }
def ShuffleCyclesUptoSaid : Prop := shuffleCyclesUptoRow.holds Tryd.pinned (OpenSpec.upto shuffleCyclesSpec)

/-- 'seepagelaw26.ShuffleExtra', WHERE WHAT IT READS IS OF BULK AT MOST 1048576: true; the input reads as it did. -/
def shuffleExtraUptoRow : OpenClaim := { program := "ytejleobpohpdpaadoor", sum := "9a26a7e6ce56d7964133198c1bb110e5c9b38f436aa43756a362adb0a695f712", func := "seepage/seepagelaw26.ShuffleExtra", spec := "shuffleExtra", unfollowed := true, recurses := true, named := ["seepage/shuffle.factorials"], apart := false, laid := [("seepage/shuffle.factorials", laid_seepage_shuffle_factorials)], narrowed := true }
def ShuffleExtraUptoSaid : Prop := shuffleExtraUptoRow.holds Tryd.pinned (OpenSpec.upto shuffleExtraSpec)

/-- 'seepagelaw26.ShuffleComposes', WHERE WHAT IT READS IS OF BULK AT MOST 1048576: true; the input reads as it did. -/
def shuffleComposesUptoRow : OpenClaim := { program := "ytejleobpohpdpaadoor", sum := "9a26a7e6ce56d7964133198c1bb110e5c9b38f436aa43756a362adb0a695f712", func := "seepage/seepagelaw26.ShuffleComposes", spec := "shuffleComposes", unfollowed := true, recurses := true, named := ["seepage/shuffle.factorials"], apart := false, laid := [("seepage/shuffle.factorials", laid_seepage_shuffle_factorials)], narrowed := true }
def ShuffleComposesUptoSaid : Prop := shuffleComposesUptoRow.holds Tryd.pinned (OpenSpec.upto shuffleComposesSpec)

/-- 'seepagelaw26.ShuffleTells', WHERE WHAT IT READS IS OF BULK AT MOST 1048576: true; the input reads as it did. -/
def shuffleTellsUptoRow : OpenClaim := { program := "ytejleobpohpdpaadoor", sum := "9a26a7e6ce56d7964133198c1bb110e5c9b38f436aa43756a362adb0a695f712", func := "seepage/seepagelaw26.ShuffleTells", spec := "shuffleTells", unfollowed := true, recurses := true, named := ["seepage/shuffle.factorials"], apart := false, laid := [("seepage/shuffle.factorials", laid_seepage_shuffle_factorials)], narrowed := true }
def ShuffleTellsUptoSaid : Prop := shuffleTellsUptoRow.holds Tryd.pinned (OpenSpec.upto shuffleTellsSpec)

/-- 'seepagelaw26.ShuffleLong', WHERE WHAT IT READS IS OF BULK AT MOST 1048576: true; the input reads as it did. -/
def shuffleLongUptoRow : OpenClaim := { program := "ytejleobpohpdpaadoor", sum := "9a26a7e6ce56d7964133198c1bb110e5c9b38f436aa43756a362adb0a695f712", func := "seepage/seepagelaw26.ShuffleLong", spec := "shuffleLong", unfollowed := true, recurses := true, named := ["seepage/shuffle.factorials"], apart := false, laid := [("seepage/shuffle.factorials", laid_seepage_shuffle_factorials)], narrowed := true }
def ShuffleLongUptoSaid : Prop := shuffleLongUptoRow.holds Tryd.pinned (OpenSpec.upto shuffleLongSpec)

/-- 'seepagelaw26.ShuffleInverse', WHERE WHAT IT READS IS OF BULK AT MOST 1048576: true; the input reads as it did. -/
def shuffleInverseUptoRow : OpenClaim := { program := "ytejleobpohpdpaadoor", sum := "9a26a7e6ce56d7964133198c1bb110e5c9b38f436aa43756a362adb0a695f712", func := "seepage/seepagelaw26.ShuffleInverse", spec := "shuffleInverse", unfollowed := true, recurses := true, named := ["seepage/shuffle.factorials"], apart := false, laid := [("seepage/shuffle.factorials", laid_seepage_shuffle_factorials)], narrowed := true }
def ShuffleInverseUptoSaid : Prop := shuffleInverseUptoRow.holds Tryd.pinned (OpenSpec.upto shuffleInverseSpec)

/-- 'seepagelaw26.ShuffleGroup', WHERE WHAT IT READS IS OF BULK AT MOST 1048576: true; the input reads as it did. -/
def shuffleGroupUptoRow : OpenClaim := { program := "ytejleobpohpdpaadoor", sum := "9a26a7e6ce56d7964133198c1bb110e5c9b38f436aa43756a362adb0a695f712", func := "seepage/seepagelaw26.ShuffleGroup", spec := "shuffleGroup", unfollowed := true, recurses := true, named := ["seepage/shuffle.factorials"], apart := false, laid := [("seepage/shuffle.factorials", laid_seepage_shuffle_factorials)], narrowed := true }
def ShuffleGroupUptoSaid : Prop := shuffleGroupUptoRow.holds Tryd.pinned (OpenSpec.upto shuffleGroupSpec)

end Rows
end Go.Proofs.YtejleobpohpdpaaDoor
