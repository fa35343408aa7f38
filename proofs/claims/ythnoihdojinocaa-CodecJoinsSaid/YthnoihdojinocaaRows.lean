/-
  No cell of these rows narrows 'for every input' (looked for: loops, veiled, ifaces, maps, wideKeys, modest, calm, conditions, laid).
  DERIVED. THE GIVEN ROWS OF THIS SEAT. 12 by the template 'for every input the law returns true; each argument reads behind the call as it read before'; 0 by the template 'total and deterministic' (their statements: YthnoihdojinocaaTotals.lean).
  GIVEN WITH THE SEED: the statements are not yours to turn. If you find one false, say at which input.
  Laid BY PROGRAM, IN A SANDBOX (cutbox-rows.mjs): the forced cells as the released guide's own fill.sh prints them over the translation 72c1fbe54945b5bc… (all of the seat's roots in one cut). By AI agents, Wed Nov 11 2026. No macro, syntax, notation, axiom, sorry.
-/
import Derived.Test.YthnoihdojinocaaChecked
import GoSem.Claim
import GoSem.ClaimJoined
import GoSem.ClaimMapViews
import Derived.JoinedTies
import Derived.KernelRfl
namespace Go.Proofs.Ythnoihdojinocaa
/- THE CELL 'sum', in the pinned program and in every row, IS THE sha256 OF THE DUMP (.gsa) THAT YthnoihdojinocaaProg.lean LOADS. Nothing in Lean hashes anything: it is a label: what it is worth is what the hold of that sum in a sandbox is worth. -/
noncomputable def Try.pinned : Pinned := { name := "ythnoihdojinocaa", sum := "72c1fbe54945b5bca86723e9330add6bdb960b2fc9711ff8943e28d633d8550f", checked := Try.checked }
namespace Rows
def none {H : Type} : Left H := { results := [], args := [] }

/-- 'seepagelaw40.CodecPuts': WHATEVER THE INPUT: true; the input reads as it did. -/
def codecPutsSpec : ChangeSpec := { name := "codecPuts", fn := fun _ => fun
  | [d] => { results := [.lit (.bool true)], args := [d] }
  | _ => none }
def codecPutsRow : OpenClaim := { program := "ythnoihdojinocaa", sum := "72c1fbe54945b5bca86723e9330add6bdb960b2fc9711ff8943e28d633d8550f", func := "seepage/seepagelaw40.CodecPuts", spec := "codecPuts", unfollowed := true, recurses := true, apart := false }
def CodecPutsSaid : Prop := codecPutsRow.holds Try.pinned (OpenSpec.ofChange codecPutsSpec)

/-- ITS FALSE NEIGHBOUR: 'it returns false'. Refute it at one input. -/
def codecPutsWrong : ChangeSpec := { name := "codecPuts", fn := fun _ => fun
  | [d] => { results := [.lit (.bool false)], args := [d] }
  | _ => none }
def CodecPutsWrongFalsely : Prop := codecPutsRow.holds Try.pinned (OpenSpec.ofChange codecPutsWrong)

/-- 'seepagelaw40.CodecGets': WHATEVER THE INPUT: true; the input reads as it did. -/
def codecGetsSpec : ChangeSpec := { name := "codecGets", fn := fun _ => fun
  | [d] => { results := [.lit (.bool true)], args := [d] }
  | _ => none }
def codecGetsRow : OpenClaim := { program := "ythnoihdojinocaa", sum := "72c1fbe54945b5bca86723e9330add6bdb960b2fc9711ff8943e28d633d8550f", func := "seepage/seepagelaw40.CodecGets", spec := "codecGets", unfollowed := true, recurses := true, apart := false }
def CodecGetsSaid : Prop := codecGetsRow.holds Try.pinned (OpenSpec.ofChange codecGetsSpec)

/-- ITS FALSE NEIGHBOUR: 'it returns false'. Refute it at one input. -/
def codecGetsWrong : ChangeSpec := { name := "codecGets", fn := fun _ => fun
  | [d] => { results := [.lit (.bool false)], args := [d] }
  | _ => none }
def CodecGetsWrongFalsely : Prop := codecGetsRow.holds Try.pinned (OpenSpec.ofChange codecGetsWrong)

/-- 'seepagelaw40.CodecReads': WHATEVER THE INPUT: true; the input reads as it did. -/
def codecReadsSpec : ChangeSpec := { name := "codecReads", fn := fun _ => fun
  | [d] => { results := [.lit (.bool true)], args := [d] }
  | _ => none }
def codecReadsRow : OpenClaim := { program := "ythnoihdojinocaa", sum := "72c1fbe54945b5bca86723e9330add6bdb960b2fc9711ff8943e28d633d8550f", func := "seepage/seepagelaw40.CodecReads", spec := "codecReads", unfollowed := true, recurses := true, apart := false }
def CodecReadsSaid : Prop := codecReadsRow.holds Try.pinned (OpenSpec.ofChange codecReadsSpec)

/-- ITS FALSE NEIGHBOUR: 'it returns false'. Refute it at one input. -/
def codecReadsWrong : ChangeSpec := { name := "codecReads", fn := fun _ => fun
  | [d] => { results := [.lit (.bool false)], args := [d] }
  | _ => none }
def CodecReadsWrongFalsely : Prop := codecReadsRow.holds Try.pinned (OpenSpec.ofChange codecReadsWrong)

/-- 'seepagelaw40.CodecBack': WHATEVER THE INPUT: true; the input reads as it did. -/
def codecBackSpec : ChangeSpec := { name := "codecBack", fn := fun _ => fun
  | [d1, d2] => { results := [.lit (.bool true)], args := [d1, d2] }
  | _ => none }
def codecBackRow : OpenClaim := { program := "ythnoihdojinocaa", sum := "72c1fbe54945b5bca86723e9330add6bdb960b2fc9711ff8943e28d633d8550f", func := "seepage/seepagelaw40.CodecBack", spec := "codecBack", unfollowed := true, recurses := true, apart := false }
def CodecBackSaid : Prop := codecBackRow.holds Try.pinned (OpenSpec.ofChange codecBackSpec)

/-- ITS FALSE NEIGHBOUR: 'it returns false'. Refute it at one input. -/
def codecBackWrong : ChangeSpec := { name := "codecBack", fn := fun _ => fun
  | [d1, d2] => { results := [.lit (.bool false)], args := [d1, d2] }
  | _ => none }
def CodecBackWrongFalsely : Prop := codecBackRow.holds Try.pinned (OpenSpec.ofChange codecBackWrong)

/-- 'seepagelaw40.CodecOne': WHATEVER THE INPUT: true; the input reads as it did. -/
def codecOneSpec : ChangeSpec := { name := "codecOne", fn := fun _ => fun
  | [d] => { results := [.lit (.bool true)], args := [d] }
  | _ => none }
def codecOneRow : OpenClaim := { program := "ythnoihdojinocaa", sum := "72c1fbe54945b5bca86723e9330add6bdb960b2fc9711ff8943e28d633d8550f", func := "seepage/seepagelaw40.CodecOne", spec := "codecOne", unfollowed := true, recurses := true, apart := false }
def CodecOneSaid : Prop := codecOneRow.holds Try.pinned (OpenSpec.ofChange codecOneSpec)

/-- ITS FALSE NEIGHBOUR: 'it returns false'. Refute it at one input. -/
def codecOneWrong : ChangeSpec := { name := "codecOne", fn := fun _ => fun
  | [d] => { results := [.lit (.bool false)], args := [d] }
  | _ => none }
def CodecOneWrongFalsely : Prop := codecOneRow.holds Try.pinned (OpenSpec.ofChange codecOneWrong)

/-- 'seepagelaw40.CodecPrefix': WHATEVER THE INPUT: true; the input reads as it did. -/
def codecPrefixSpec : ChangeSpec := { name := "codecPrefix", fn := fun _ => fun
  | [d] => { results := [.lit (.bool true)], args := [d] }
  | _ => none }
def codecPrefixRow : OpenClaim := { program := "ythnoihdojinocaa", sum := "72c1fbe54945b5bca86723e9330add6bdb960b2fc9711ff8943e28d633d8550f", func := "seepage/seepagelaw40.CodecPrefix", spec := "codecPrefix", unfollowed := true, recurses := true, apart := false }
def CodecPrefixSaid : Prop := codecPrefixRow.holds Try.pinned (OpenSpec.ofChange codecPrefixSpec)

/-- ITS FALSE NEIGHBOUR: 'it returns false'. Refute it at one input. -/
def codecPrefixWrong : ChangeSpec := { name := "codecPrefix", fn := fun _ => fun
  | [d] => { results := [.lit (.bool false)], args := [d] }
  | _ => none }
def CodecPrefixWrongFalsely : Prop := codecPrefixRow.holds Try.pinned (OpenSpec.ofChange codecPrefixWrong)

/-- 'seepagelaw40.CodecNumbers': WHATEVER THE INPUT: true; the input reads as it did. -/
def codecNumbersSpec : ChangeSpec := { name := "codecNumbers", fn := fun _ => fun
  | [d1, d2, d3] => { results := [.lit (.bool true)], args := [d1, d2, d3] }
  | _ => none }
def codecNumbersRow : OpenClaim := { program := "ythnoihdojinocaa", sum := "72c1fbe54945b5bca86723e9330add6bdb960b2fc9711ff8943e28d633d8550f", func := "seepage/seepagelaw40.CodecNumbers", spec := "codecNumbers", unfollowed := true, recurses := true, apart := false }
def CodecNumbersSaid : Prop := codecNumbersRow.holds Try.pinned (OpenSpec.ofChange codecNumbersSpec)

/-- ITS FALSE NEIGHBOUR: 'it returns false'. Refute it at one input. -/
def codecNumbersWrong : ChangeSpec := { name := "codecNumbers", fn := fun _ => fun
  | [d1, d2, d3] => { results := [.lit (.bool false)], args := [d1, d2, d3] }
  | _ => none }
def CodecNumbersWrongFalsely : Prop := codecNumbersRow.holds Try.pinned (OpenSpec.ofChange codecNumbersWrong)

/-- 'seepagelaw40.CodecVarints': WHATEVER THE INPUT: true; the input reads as it did. -/
def codecVarintsSpec : ChangeSpec := { name := "codecVarints", fn := fun _ => fun
  | [d1, d2, d3] => { results := [.lit (.bool true)], args := [d1, d2, d3] }
  | _ => none }
def codecVarintsRow : OpenClaim := { program := "ythnoihdojinocaa", sum := "72c1fbe54945b5bca86723e9330add6bdb960b2fc9711ff8943e28d633d8550f", func := "seepage/seepagelaw40.CodecVarints", spec := "codecVarints", unfollowed := true, recurses := true, apart := false }
def CodecVarintsSaid : Prop := codecVarintsRow.holds Try.pinned (OpenSpec.ofChange codecVarintsSpec)

/-- ITS FALSE NEIGHBOUR: 'it returns false'. Refute it at one input. -/
def codecVarintsWrong : ChangeSpec := { name := "codecVarints", fn := fun _ => fun
  | [d1, d2, d3] => { results := [.lit (.bool false)], args := [d1, d2, d3] }
  | _ => none }
def CodecVarintsWrongFalsely : Prop := codecVarintsRow.holds Try.pinned (OpenSpec.ofChange codecVarintsWrong)

/-- 'seepagelaw40.CodecPutsAll': WHATEVER THE INPUT: true; the input reads as it did. -/
def codecPutsAllSpec : ChangeSpec := { name := "codecPutsAll", fn := fun _ => fun
  | [d] => { results := [.lit (.bool true)], args := [d] }
  | _ => none }
def codecPutsAllRow : OpenClaim := { program := "ythnoihdojinocaa", sum := "72c1fbe54945b5bca86723e9330add6bdb960b2fc9711ff8943e28d633d8550f", func := "seepage/seepagelaw40.CodecPutsAll", spec := "codecPutsAll", unfollowed := true, recurses := true, apart := false }
def CodecPutsAllSaid : Prop := codecPutsAllRow.holds Try.pinned (OpenSpec.ofChange codecPutsAllSpec)

/-- ITS FALSE NEIGHBOUR: 'it returns false'. Refute it at one input. -/
def codecPutsAllWrong : ChangeSpec := { name := "codecPutsAll", fn := fun _ => fun
  | [d] => { results := [.lit (.bool false)], args := [d] }
  | _ => none }
def CodecPutsAllWrongFalsely : Prop := codecPutsAllRow.holds Try.pinned (OpenSpec.ofChange codecPutsAllWrong)

/-- 'seepagelaw40.CodecGetsAll': WHATEVER THE INPUT: true; the input reads as it did. -/
def codecGetsAllSpec : ChangeSpec := { name := "codecGetsAll", fn := fun _ => fun
  | [d] => { results := [.lit (.bool true)], args := [d] }
  | _ => none }
def codecGetsAllRow : OpenClaim := { program := "ythnoihdojinocaa", sum := "72c1fbe54945b5bca86723e9330add6bdb960b2fc9711ff8943e28d633d8550f", func := "seepage/seepagelaw40.CodecGetsAll", spec := "codecGetsAll", unfollowed := true, recurses := true, apart := false }
def CodecGetsAllSaid : Prop := codecGetsAllRow.holds Try.pinned (OpenSpec.ofChange codecGetsAllSpec)

/-- ITS FALSE NEIGHBOUR: 'it returns false'. Refute it at one input. -/
def codecGetsAllWrong : ChangeSpec := { name := "codecGetsAll", fn := fun _ => fun
  | [d] => { results := [.lit (.bool false)], args := [d] }
  | _ => none }
def CodecGetsAllWrongFalsely : Prop := codecGetsAllRow.holds Try.pinned (OpenSpec.ofChange codecGetsAllWrong)

/-- 'seepagelaw40.CodecJoins': WHATEVER THE INPUT: true; the input reads as it did. -/
def codecJoinsSpec : ChangeSpec := { name := "codecJoins", fn := fun _ => fun
  | [d1, d2] => { results := [.lit (.bool true)], args := [d1, d2] }
  | _ => none }
def codecJoinsRow : OpenClaim := { program := "ythnoihdojinocaa", sum := "72c1fbe54945b5bca86723e9330add6bdb960b2fc9711ff8943e28d633d8550f", func := "seepage/seepagelaw40.CodecJoins", spec := "codecJoins", unfollowed := true, recurses := true, apart := false }
def CodecJoinsSaid : Prop := codecJoinsRow.holds Try.pinned (OpenSpec.ofChange codecJoinsSpec)

/-- ITS FALSE NEIGHBOUR: 'it returns false'. Refute it at one input. -/
def codecJoinsWrong : ChangeSpec := { name := "codecJoins", fn := fun _ => fun
  | [d1, d2] => { results := [.lit (.bool false)], args := [d1, d2] }
  | _ => none }
def CodecJoinsWrongFalsely : Prop := codecJoinsRow.holds Try.pinned (OpenSpec.ofChange codecJoinsWrong)

/-- 'seepagelaw40.CodecFirst': WHATEVER THE INPUT: true; the input reads as it did. -/
def codecFirstSpec : ChangeSpec := { name := "codecFirst", fn := fun _ => fun
  | [d] => { results := [.lit (.bool true)], args := [d] }
  | _ => none }
def codecFirstRow : OpenClaim := { program := "ythnoihdojinocaa", sum := "72c1fbe54945b5bca86723e9330add6bdb960b2fc9711ff8943e28d633d8550f", func := "seepage/seepagelaw40.CodecFirst", spec := "codecFirst", unfollowed := true, recurses := true, apart := false }
def CodecFirstSaid : Prop := codecFirstRow.holds Try.pinned (OpenSpec.ofChange codecFirstSpec)

/-- ITS FALSE NEIGHBOUR: 'it returns false'. Refute it at one input. -/
def codecFirstWrong : ChangeSpec := { name := "codecFirst", fn := fun _ => fun
  | [d] => { results := [.lit (.bool false)], args := [d] }
  | _ => none }
def CodecFirstWrongFalsely : Prop := codecFirstRow.holds Try.pinned (OpenSpec.ofChange codecFirstWrong)

/- THE SECOND FORM. 'bulk': how many values and letters a reading holds, each counted each time it is reached (what is shared counts as often as it is met; a slice's spare places count too). A statement '..UptoSaid' is the law's where the arguments, and the package variables that the reading takes, are together of bulk at most 1048576: NARROWER than '..Said'. Prove '..Said' where nothing that the law and all that it calls make is longer than what came in: it says more and counts as full. Else prove '..UptoSaid'. A law counts once. -/
mutual
def uptoBulk {H : Type} : DataW H → Nat
  | .lit (.string bytes) => bytes.length + 1
  | .lit _ => 1
  | .nil => 1
  | .ptr d => uptoBulk d + 1
  | .slice elems spare => uptoBulkAll elems + uptoBulkAll spare + 1
  | .agg parts => uptoBulkAll parts + 1
  | .iface _ d => uptoBulk d + 1
  | .map entries => uptoBulkEntries entries + 1
  | .held _ => 1
def uptoBulkAll {H : Type} : List (DataW H) → Nat
  | [] => 0
  | d :: r => uptoBulk d + uptoBulkAll r
def uptoBulkEntries {H : Type} : List (Lit × DataW H) → Nat
  | [] => 0
  | x :: r => uptoBulkEntry x + uptoBulkEntries r
def uptoBulkEntry {H : Type} : Lit × DataW H → Nat
  | (.string bytes, d) => bytes.length + uptoBulk d + 1
  | (_, d) => uptoBulk d + 1
 end
def uptoSmall : (H : Type) → List (DataW H) → Bool := fun _ ds => decide (uptoBulkAll ds ≤ 1048576)
def OpenSpec.upto (s : _root_.Go.ChangeSpec) : _root_.Go.OpenSpec := { _root_.Go.OpenSpec.ofChange s with cond := some uptoSmall }

/-- 'seepagelaw40.CodecPuts', WHERE WHAT IT READS IS OF BULK AT MOST 1048576: true; the input reads as it did. -/
def codecPutsUptoRow : OpenClaim := { program := "ythnoihdojinocaa", sum := "72c1fbe54945b5bca86723e9330add6bdb960b2fc9711ff8943e28d633d8550f", func := "seepage/seepagelaw40.CodecPuts", spec := "codecPuts", unfollowed := true, recurses := true, apart := false, narrowed := true }
def CodecPutsUptoSaid : Prop := codecPutsUptoRow.holds Try.pinned (OpenSpec.upto codecPutsSpec)

/-- 'seepagelaw40.CodecGets', WHERE WHAT IT READS IS OF BULK AT MOST 1048576: true; the input reads as it did. -/
def codecGetsUptoRow : OpenClaim := { program := "ythnoihdojinocaa", sum := "72c1fbe54945b5bca86723e9330add6bdb960b2fc9711ff8943e28d633d8550f", func := "seepage/seepagelaw40.CodecGets", spec := "codecGets", unfollowed := true, recurses := true, apart := false, narrowed := true }
def CodecGetsUptoSaid : Prop := codecGetsUptoRow.holds Try.pinned (OpenSpec.upto codecGetsSpec)

/-- 'seepagelaw40.CodecReads', WHERE WHAT IT READS IS OF BULK AT MOST 1048576: true; the input reads as it did. -/
def codecReadsUptoRow : OpenClaim := { program := "ythnoihdojinocaa", sum := "72c1fbe54945b5bca86723e9330add6bdb960b2fc9711ff8943e28d633d8550f", func := "seepage/seepagelaw40.CodecReads", spec := "codecReads", unfollowed := true, recurses := true, apart := false, narrowed := true }
def CodecReadsUptoSaid : Prop := codecReadsUptoRow.holds Try.pinned (OpenSpec.upto codecReadsSpec)

/-- 'seepagelaw40.CodecBack', WHERE WHAT IT READS IS OF BULK AT MOST 1048576: true; the input reads as it did. -/
def codecBackUptoRow : OpenClaim := { program := "ythnoihdojinocaa", sum := "72c1fbe54945b5bca86723e9330add6bdb960b2fc9711ff8943e28d633d8550f", func := "seepage/seepagelaw40.CodecBack", spec := "codecBack", unfollowed := true, recurses := true, apart := false, narrowed := true }
def CodecBackUptoSaid : Prop := codecBackUptoRow.holds Try.pinned (OpenSpec.upto codecBackSpec)

/-- 'seepagelaw40.CodecOne', WHERE WHAT IT READS IS OF BULK AT MOST 1048576: true; the input reads as it did. -/
def codecOneUptoRow : OpenClaim := { program := "ythnoihdojinocaa", sum := "72c1fbe54945b5bca86723e9330add6bdb960b2fc9711ff8943e28d633d8550f", func := "seepage/seepagelaw40.CodecOne", spec := "codecOne", unfollowed := true, recurses := true, apart := false, narrowed := true }
def CodecOneUptoSaid : Prop := codecOneUptoRow.holds Try.pinned (OpenSpec.upto codecOneSpec)

/-- 'seepagelaw40.CodecPrefix', WHERE WHAT IT READS IS OF BULK AT MOST 1048576: true; the input reads as it did. -/
def codecPrefixUptoRow : OpenClaim := { program := "ythnoihdojinocaa", sum := "72c1fbe54945b5bca86723e9330add6bdb960b2fc9711ff8943e28d633d8550f", func := "seepage/seepagelaw40.CodecPrefix", spec := "codecPrefix", unfollowed := true, recurses := true, apart := false, narrowed := true }
def CodecPrefixUptoSaid : Prop := codecPrefixUptoRow.holds Try.pinned (OpenSpec.upto codecPrefixSpec)

/-- 'seepagelaw40.CodecNumbers', WHERE WHAT IT READS IS OF BULK AT MOST 1048576: true; the input reads as it did. -/
def codecNumbersUptoRow : OpenClaim := { program := "ythnoihdojinocaa", sum := "72c1fbe54945b5bca86723e9330add6bdb960b2fc9711ff8943e28d633d8550f", func := "seepage/seepagelaw40.CodecNumbers", spec := "codecNumbers", unfollowed := true, recurses := true, apart := false, narrowed := true }
def CodecNumbersUptoSaid : Prop := codecNumbersUptoRow.holds Try.pinned (OpenSpec.upto codecNumbersSpec)

/-- 'seepagelaw40.CodecVarints', WHERE WHAT IT READS IS OF BULK AT MOST 1048576: true; the input reads as it did. -/
def codecVarintsUptoRow : OpenClaim := { program := "ythnoihdojinocaa", sum := "72c1fbe54945b5bca86723e9330add6bdb960b2fc9711ff8943e28d633d8550f", func := "seepage/seepagelaw40.CodecVarints", spec := "codecVarints", unfollowed := true, recurses := true, apart := false, narrowed := true }
def CodecVarintsUptoSaid : Prop := codecVarintsUptoRow.holds Try.pinned (OpenSpec.upto codecVarintsSpec)

/-- 'seepagelaw40.CodecPutsAll', WHERE WHAT IT READS IS OF BULK AT MOST 1048576: true; the input reads as it did. -/
def codecPutsAllUptoRow : OpenClaim := { program := "ythnoihdojinocaa", sum := "72c1fbe54945b5bca86723e9330add6bdb960b2fc9711ff8943e28d633d8550f", func := "seepage/seepagelaw40.CodecPutsAll", spec := "codecPutsAll", unfollowed := true, recurses := true, apart := false, narrowed := true }
def CodecPutsAllUptoSaid : Prop := codecPutsAllUptoRow.holds Try.pinned (OpenSpec.upto codecPutsAllSpec)

/-- 'seepagelaw40.CodecGetsAll', WHERE WHAT IT READS IS OF BULK AT MOST 1048576: true; the input reads as it did. -/
def codecGetsAllUptoRow : OpenClaim := { program := "ythnoihdojinocaa", sum := "72c1fbe54945b5bca86723e9330add6bdb960b2fc9711ff8943e28d633d8550f", func := "seepage/seepagelaw40.CodecGetsAll", spec := "codecGetsAll", unfollowed := true, recurses := true, apart := false, narrowed := true }
def CodecGetsAllUptoSaid : Prop := codecGetsAllUptoRow.holds Try.pinned (OpenSpec.upto codecGetsAllSpec)

/-- 'seepagelaw40.CodecJoins', WHERE WHAT IT READS IS OF BULK AT MOST 1048576: true; the input reads as it did. -/
def codecJoinsUptoRow : OpenClaim := { program := "ythnoihdojinocaa", sum := "72c1fbe54945b5bca86723e9330add6bdb960b2fc9711ff8943e28d633d8550f", func := "seepage/seepagelaw40.CodecJoins", spec := "codecJoins", unfollowed := true, recurses := true, apart := false, narrowed := true }
def CodecJoinsUptoSaid : Prop := codecJoinsUptoRow.holds Try.pinned (OpenSpec.upto codecJoinsSpec)

/-- 'seepagelaw40.CodecFirst', WHERE WHAT IT READS IS OF BULK AT MOST 1048576: true; the input reads as it did. -/
def codecFirstUptoRow : OpenClaim := { program := "ythnoihdojinocaa", sum := "72c1fbe54945b5bca86723e9330add6bdb960b2fc9711ff8943e28d633d8550f", func := "seepage/seepagelaw40.CodecFirst", spec := "codecFirst", unfollowed := true, recurses := true, apart := false, narrowed := true }
def CodecFirstUptoSaid : Prop := codecFirstUptoRow.holds Try.pinned (OpenSpec.upto codecFirstSpec)

end Rows
end Go.Proofs.Ythnoihdojinocaa
