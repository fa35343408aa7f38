/-
  No cell of these rows narrows 'for every input' (looked for: loops, veiled, ifaces, maps, wideKeys, modest, calm, conditions, laid).
  DERIVED. THE GIVEN ROWS OF THIS SEAT. 9 by the template 'for every input the law returns true; each argument reads behind the call as it read before'; 0 by the template 'total and deterministic' (their statements: YtmholiddejgccaaTotals.lean).
  GIVEN WITH THE SEED: the statements are not yours to turn. If you find one false, say at which input.
  Laid BY PROGRAM, IN A SANDBOX (cutbox-rows.mjs): the forced cells as the released guide's own fill.sh prints them over the translation 39dcf9674923cdba… (all of the seat's roots in one cut). By AI agents, Wed Nov 11 2026. No macro, syntax, notation, axiom, sorry.
-/
import Derived.Test.YtmholiddejgccaaChecked
import GoSem.Claim
import GoSem.ClaimJoined
import GoSem.ClaimMapViews
import Derived.JoinedTies
import Derived.KernelRfl
namespace Go.Proofs.Ytmholiddejgccaa
/- THE CELL 'sum', in the pinned program and in every row, IS THE sha256 OF THE DUMP (.gsa) THAT YtmholiddejgccaaProg.lean LOADS. Nothing in Lean hashes anything: it is a label: what it is worth is what the hold of that sum in a sandbox is worth. -/
noncomputable def Try.pinned : Pinned := { name := "ytmholiddejgccaa", sum := "39dcf9674923cdba204124997577472c643755c3607893266a2ade775bf76338", checked := Try.checked }
namespace Rows
def none {H : Type} : Left H := { results := [], args := [] }

/-- 'seepagelaw05.MsortLess': WHATEVER THE INPUT: true; the input reads as it did. -/
def msortLessSpec : ChangeSpec := { name := "msortLess", fn := fun _ => fun
  | [d1, d2, d3] => { results := [.lit (.bool true)], args := [d1, d2, d3] }
  | _ => none }
def msortLessRow : OpenClaim := { program := "ytmholiddejgccaa", sum := "39dcf9674923cdba204124997577472c643755c3607893266a2ade775bf76338", func := "seepage/seepagelaw05.MsortLess", spec := "msortLess", unfollowed := true, recurses := true, apart := false }
def MsortLessSaid : Prop := msortLessRow.holds Try.pinned (OpenSpec.ofChange msortLessSpec)

/-- ITS FALSE NEIGHBOUR: 'it returns false'. Refute it at one input. -/
def msortLessWrong : ChangeSpec := { name := "msortLess", fn := fun _ => fun
  | [d1, d2, d3] => { results := [.lit (.bool false)], args := [d1, d2, d3] }
  | _ => none }
def MsortLessWrongFalsely : Prop := msortLessRow.holds Try.pinned (OpenSpec.ofChange msortLessWrong)

/-- 'seepagelaw05.MsortSorts': WHATEVER THE INPUT: true; the input reads as it did. -/
def msortSortsSpec : ChangeSpec := { name := "msortSorts", fn := fun _ => fun
  | [d1, d2] => { results := [.lit (.bool true)], args := [d1, d2] }
  | _ => none }
def msortSortsRow : OpenClaim := { program := "ytmholiddejgccaa", sum := "39dcf9674923cdba204124997577472c643755c3607893266a2ade775bf76338", func := "seepage/seepagelaw05.MsortSorts", spec := "msortSorts", unfollowed := true, recurses := true, apart := false }
def MsortSortsSaid : Prop := msortSortsRow.holds Try.pinned (OpenSpec.ofChange msortSortsSpec)

/-- ITS FALSE NEIGHBOUR: 'it returns false'. Refute it at one input. -/
def msortSortsWrong : ChangeSpec := { name := "msortSorts", fn := fun _ => fun
  | [d1, d2] => { results := [.lit (.bool false)], args := [d1, d2] }
  | _ => none }
def MsortSortsWrongFalsely : Prop := msortSortsRow.holds Try.pinned (OpenSpec.ofChange msortSortsWrong)

/-- 'seepagelaw05.MsortChecks': WHATEVER THE INPUT: true; the input reads as it did. -/
def msortChecksSpec : ChangeSpec := { name := "msortChecks", fn := fun _ => fun
  | [d1, d2] => { results := [.lit (.bool true)], args := [d1, d2] }
  | _ => none }
def msortChecksRow : OpenClaim := { program := "ytmholiddejgccaa", sum := "39dcf9674923cdba204124997577472c643755c3607893266a2ade775bf76338", func := "seepage/seepagelaw05.MsortChecks", spec := "msortChecks", unfollowed := true, recurses := true, apart := false }
def MsortChecksSaid : Prop := msortChecksRow.holds Try.pinned (OpenSpec.ofChange msortChecksSpec)

/-- ITS FALSE NEIGHBOUR: 'it returns false'. Refute it at one input. -/
def msortChecksWrong : ChangeSpec := { name := "msortChecks", fn := fun _ => fun
  | [d1, d2] => { results := [.lit (.bool false)], args := [d1, d2] }
  | _ => none }
def MsortChecksWrongFalsely : Prop := msortChecksRow.holds Try.pinned (OpenSpec.ofChange msortChecksWrong)

/-- 'seepagelaw05.MsortStays': WHATEVER THE INPUT: true; the input reads as it did. -/
def msortStaysSpec : ChangeSpec := { name := "msortStays", fn := fun _ => fun
  | [d1, d2] => { results := [.lit (.bool true)], args := [d1, d2] }
  | _ => none }
def msortStaysRow : OpenClaim := { program := "ytmholiddejgccaa", sum := "39dcf9674923cdba204124997577472c643755c3607893266a2ade775bf76338", func := "seepage/seepagelaw05.MsortStays", spec := "msortStays", unfollowed := true, recurses := true, apart := false }
def MsortStaysSaid : Prop := msortStaysRow.holds Try.pinned (OpenSpec.ofChange msortStaysSpec)

/-- ITS FALSE NEIGHBOUR: 'it returns false'. Refute it at one input. -/
def msortStaysWrong : ChangeSpec := { name := "msortStays", fn := fun _ => fun
  | [d1, d2] => { results := [.lit (.bool false)], args := [d1, d2] }
  | _ => none }
def MsortStaysWrongFalsely : Prop := msortStaysRow.holds Try.pinned (OpenSpec.ofChange msortStaysWrong)

/-- 'seepagelaw05.MsortMerges': WHATEVER THE INPUT: true; the input reads as it did. -/
def msortMergesSpec : ChangeSpec := { name := "msortMerges", fn := fun _ => fun
  | [d1, d2, d3, d4] => { results := [.lit (.bool true)], args := [d1, d2, d3, d4] }
  | _ => none }
def msortMergesRow : OpenClaim := { program := "ytmholiddejgccaa", sum := "39dcf9674923cdba204124997577472c643755c3607893266a2ade775bf76338", func := "seepage/seepagelaw05.MsortMerges", spec := "msortMerges", unfollowed := true, recurses := true, apart := false }
def MsortMergesSaid : Prop := msortMergesRow.holds Try.pinned (OpenSpec.ofChange msortMergesSpec)

/-- ITS FALSE NEIGHBOUR: 'it returns false'. Refute it at one input. -/
def msortMergesWrong : ChangeSpec := { name := "msortMerges", fn := fun _ => fun
  | [d1, d2, d3, d4] => { results := [.lit (.bool false)], args := [d1, d2, d3, d4] }
  | _ => none }
def MsortMergesWrongFalsely : Prop := msortMergesRow.holds Try.pinned (OpenSpec.ofChange msortMergesWrong)

/-- 'seepagelaw05.MsortCounts': WHATEVER THE INPUT: true; the input reads as it did. -/
def msortCountsSpec : ChangeSpec := { name := "msortCounts", fn := fun _ => fun
  | [d1, d2, d3] => { results := [.lit (.bool true)], args := [d1, d2, d3] }
  | _ => none }
def msortCountsRow : OpenClaim := { program := "ytmholiddejgccaa", sum := "39dcf9674923cdba204124997577472c643755c3607893266a2ade775bf76338", func := "seepage/seepagelaw05.MsortCounts", spec := "msortCounts", unfollowed := true, recurses := true, apart := false }
def MsortCountsSaid : Prop := msortCountsRow.holds Try.pinned (OpenSpec.ofChange msortCountsSpec)

/-- ITS FALSE NEIGHBOUR: 'it returns false'. Refute it at one input. -/
def msortCountsWrong : ChangeSpec := { name := "msortCounts", fn := fun _ => fun
  | [d1, d2, d3] => { results := [.lit (.bool false)], args := [d1, d2, d3] }
  | _ => none }
def MsortCountsWrongFalsely : Prop := msortCountsRow.holds Try.pinned (OpenSpec.ofChange msortCountsWrong)

/-- 'seepagelaw05.MsortKeeps': WHATEVER THE INPUT: true; the input reads as it did. -/
def msortKeepsSpec : ChangeSpec := { name := "msortKeeps", fn := fun _ => fun
  | [d1, d2] => { results := [.lit (.bool true)], args := [d1, d2] }
  | _ => none }
def msortKeepsRow : OpenClaim := { program := "ytmholiddejgccaa", sum := "39dcf9674923cdba204124997577472c643755c3607893266a2ade775bf76338", func := "seepage/seepagelaw05.MsortKeeps", spec := "msortKeeps", unfollowed := true, recurses := true, apart := false }
def MsortKeepsSaid : Prop := msortKeepsRow.holds Try.pinned (OpenSpec.ofChange msortKeepsSpec)

/-- ITS FALSE NEIGHBOUR: 'it returns false'. Refute it at one input. -/
def msortKeepsWrong : ChangeSpec := { name := "msortKeeps", fn := fun _ => fun
  | [d1, d2] => { results := [.lit (.bool false)], args := [d1, d2] }
  | _ => none }
def MsortKeepsWrongFalsely : Prop := msortKeepsRow.holds Try.pinned (OpenSpec.ofChange msortKeepsWrong)

/-- 'seepagelaw05.MsortJoins': WHATEVER THE INPUT: true; the input reads as it did. -/
def msortJoinsSpec : ChangeSpec := { name := "msortJoins", fn := fun _ => fun
  | [d1, d2, d3] => { results := [.lit (.bool true)], args := [d1, d2, d3] }
  | _ => none }
def msortJoinsRow : OpenClaim := { program := "ytmholiddejgccaa", sum := "39dcf9674923cdba204124997577472c643755c3607893266a2ade775bf76338", func := "seepage/seepagelaw05.MsortJoins", spec := "msortJoins", unfollowed := true, recurses := true, apart := false }
def MsortJoinsSaid : Prop := msortJoinsRow.holds Try.pinned (OpenSpec.ofChange msortJoinsSpec)

/-- ITS FALSE NEIGHBOUR: 'it returns false'. Refute it at one input. -/
def msortJoinsWrong : ChangeSpec := { name := "msortJoins", fn := fun _ => fun
  | [d1, d2, d3] => { results := [.lit (.bool false)], args := [d1, d2, d3] }
  | _ => none }
def MsortJoinsWrongFalsely : Prop := msortJoinsRow.holds Try.pinned (OpenSpec.ofChange msortJoinsWrong)

/-- 'seepagelaw05.MsortKnown': WHATEVER THE INPUT: true; the input reads as it did. -/
def msortKnownSpec : ChangeSpec := { name := "msortKnown", fn := fun _ => fun
  | [] => { results := [.lit (.bool true)], args := [] }
  | _ => none }
def msortKnownRow : OpenClaim := { program := "ytmholiddejgccaa", sum := "39dcf9674923cdba204124997577472c643755c3607893266a2ade775bf76338", func := "seepage/seepagelaw05.MsortKnown", spec := "msortKnown", unfollowed := true, recurses := true, apart := false }
def MsortKnownSaid : Prop := msortKnownRow.holds Try.pinned (OpenSpec.ofChange msortKnownSpec)

/-- ITS FALSE NEIGHBOUR: 'it returns false'. Refute it at one input. -/
def msortKnownWrong : ChangeSpec := { name := "msortKnown", fn := fun _ => fun
  | [] => { results := [.lit (.bool false)], args := [] }
  | _ => none }
def MsortKnownWrongFalsely : Prop := msortKnownRow.holds Try.pinned (OpenSpec.ofChange msortKnownWrong)

/- THE SECOND FORM. 'bulk': how many values and letters a reading holds, each counted each time it is reached (what is shared counts as often as it is met; a slice's spare places count too). A statement '..UptoSaid' is the law's where the arguments, and the package variables that the reading takes, are together of bulk at most 1048576: NARROWER than '..Said'. Prove '..Said' where nothing that the law and all that it calls make is longer than what came in: it says more and counts as full. Else prove '..UptoSaid'. A law counts once. -/
mutual
def uptoBulk {H : Type} : DataW H → Nat
  | .lit (.string bytes) => bytes.length + 1
  | .lit _ => 1
  | .nil => 1
  | .ptr d => uptoBulk d + 1
  | .slice elems spare => uptoBulkAll elems + uptoBulkAll spare + 1
  | .agg parts => uptoBulkAll parts + 1
  | .iface _ d => uptoBulk d + 1
  | .map entries => uptoBulkEntries entries + 1
  | .held _ => 1
def uptoBulkAll {H : Type} : List (DataW H) → Nat
  | [] => 0
  | d :: r => uptoBulk d + uptoBulkAll r
def uptoBulkEntries {H : Type} : List (Lit × DataW H) → Nat
  | [] => 0
  | x :: r => uptoBulkEntry x + uptoBulkEntries r
def uptoBulkEntry {H : Type} : Lit × DataW H → Nat
  | (.string bytes, d) => bytes.length + uptoBulk d + 1
  | (_, d) => uptoBulk d + 1
 end
def uptoSmall : (H : Type) → List (DataW H) → Bool := fun _ ds => decide (uptoBulkAll ds ≤ 1048576)
def OpenSpec.upto (s : _root_.Go.ChangeSpec) : _root_.Go.OpenSpec := { _root_.Go.OpenSpec.ofChange s with cond := some uptoSmall }

/-- 'seepagelaw05.MsortLess', WHERE WHAT IT READS IS OF BULK AT MOST 1048576: true; the input reads as it did. -/
def msortLessUptoRow : OpenClaim := { program := "ytmholiddejgccaa", sum := "39dcf9674923cdba204124997577472c643755c3607893266a2ade775bf76338", func := "seepage/seepagelaw05.MsortLess", spec := "msortLess", unfollowed := true, recurses := true, apart := false, narrowed := true }
def MsortLessUptoSaid : Prop := msortLessUptoRow.holds Try.pinned (OpenSpec.upto msortLessSpec)

/-- 'seepagelaw05.MsortSorts', WHERE WHAT IT READS IS OF BULK AT MOST 1048576: true; the input reads as it did. -/
def msortSortsUptoRow : OpenClaim := { program := "ytmholiddejgccaa", sum := "39dcf9674923cdba204124997577472c643755c3607893266a2ade775bf76338", func := "seepage/seepagelaw05.MsortSorts", spec := "msortSorts", unfollowed := true, recurses := true, apart := false, narrowed := true }
def MsortSortsUptoSaid : Prop := msortSortsUptoRow.holds Try.pinned (OpenSpec.upto msortSortsSpec)

/-- 'seepagelaw05.MsortChecks', WHERE WHAT IT READS IS OF BULK AT MOST 1048576: true; the input reads as it did. -/
def msortChecksUptoRow : OpenClaim := { program := "ytmholiddejgccaa", sum := "39dcf9674923cdba204124997577472c643755c3607893266a2ade775bf76338", func := "seepage/seepagelaw05.MsortChecks", spec := "msortChecks", unfollowed := true, recurses := true, apart := false, narrowed := true }
def MsortChecksUptoSaid : Prop := msortChecksUptoRow.holds Try.pinned (OpenSpec.upto msortChecksSpec)

/-- 'seepagelaw05.MsortStays', WHERE WHAT IT READS IS OF BULK AT MOST 1048576: true; the input reads as it did. -/
def msortStaysUptoRow : OpenClaim := { program := "ytmholiddejgccaa", sum := "39dcf9674923cdba204124997577472c643755c3607893266a2ade775bf76338", func := "seepage/seepagelaw05.MsortStays", spec := "msortStays", unfollowed := true, recurses := true, apart := false, narrowed := true }
def MsortStaysUptoSaid : Prop := msortStaysUptoRow.holds Try.pinned (OpenSpec.upto msortStaysSpec)

/-- 'seepagelaw05.MsortMerges', WHERE WHAT IT READS IS OF BULK AT MOST 1048576: true; the input reads as it did. -/
def msortMergesUptoRow : OpenClaim := { program := "ytmholiddejgccaa", sum := "39dcf9674923cdba204124997577472c643755c3607893266a2ade775bf76338", func := "seepage/seepagelaw05.MsortMerges", spec := "msortMerges", unfollowed := true, recurses := true, apart := false, narrowed := true }
def MsortMergesUptoSaid : Prop := msortMergesUptoRow.holds Try.pinned (OpenSpec.upto msortMergesSpec)

/-- 'seepagelaw05.MsortCounts', WHERE WHAT IT READS IS OF BULK AT MOST 1048576: true; the input reads as it did. -/
def msortCountsUptoRow : OpenClaim := { program := "ytmholiddejgccaa", sum := "39dcf9674923cdba204124997577472c643755c3607893266a2ade775bf76338", func := "seepage/seepagelaw05.MsortCounts", spec := "msortCounts", unfollowed := true, recurses := true, apart := false, narrowed := true }
def MsortCountsUptoSaid : Prop := msortCountsUptoRow.holds Try.pinned (OpenSpec.upto msortCountsSpec)

/-- 'seepagelaw05.MsortKeeps', WHERE WHAT IT READS IS OF BULK AT MOST 1048576: true; the input reads as it did. -/
def msortKeepsUptoRow : OpenClaim := { program := "ytmholiddejgccaa", sum := "39dcf9674923cdba204124997577472c643755c3607893266a2ade775bf76338", func := "seepage/seepagelaw05.MsortKeeps", spec := "msortKeeps", unfollowed := true, recurses := true, apart := false, narrowed := true }
def MsortKeepsUptoSaid : Prop := msortKeepsUptoRow.holds Try.pinned (OpenSpec.upto msortKeepsSpec)

/-- 'seepagelaw05.MsortJoins', WHERE WHAT IT READS IS OF BULK AT MOST 1048576: true; the input reads as it did. -/
def msortJoinsUptoRow : OpenClaim := { program := "ytmholiddejgccaa", sum := "39dcf9674923cdba204124997577472c643755c3607893266a2ade775bf76338", func := "seepage/seepagelaw05.MsortJoins", spec := "msortJoins", unfollowed := true, recurses := true, apart := false, narrowed := true }
def MsortJoinsUptoSaid : Prop := msortJoinsUptoRow.holds Try.pinned (OpenSpec.upto msortJoinsSpec)

/-- 'seepagelaw05.MsortKnown', WHERE WHAT IT READS IS OF BULK AT MOST 1048576: true; the input reads as it did. -/
def msortKnownUptoRow : OpenClaim := { program := "ytmholiddejgccaa", sum := "39dcf9674923cdba204124997577472c643755c3607893266a2ade775bf76338", func := "seepage/seepagelaw05.MsortKnown", spec := "msortKnown", unfollowed := true, recurses := true, apart := false, narrowed := true }
def MsortKnownUptoSaid : Prop := msortKnownUptoRow.holds Try.pinned (OpenSpec.upto msortKnownSpec)

end Rows
end Go.Proofs.Ytmholiddejgccaa
