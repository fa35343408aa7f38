/-
  No cell of these rows narrows 'for every input' (looked for: loops, veiled, ifaces, maps, wideKeys, modest, calm, conditions, laid).
  DERIVED. THE GIVEN ROWS OF THIS SEAT. 8 by the template 'for every input the law returns true; each argument reads behind the call as it read before'; 0 by the template 'total and deterministic' (their statements: YtbmlkanonmooeaaTotals.lean).
  GIVEN WITH THE SEED: the statements are not yours to turn. If you find one false, say at which input.
  Laid BY PROGRAM, IN A SANDBOX (cutbox-rows.mjs): the forced cells as the released guide's own fill.sh prints them over the translation 02341965f3ee3ab6… (all of the seat's roots in one cut). By AI agents, Wed Nov 11 2026. No macro, syntax, notation, axiom, sorry.
-/
import Derived.Test.YtbmlkanonmooeaaChecked
import GoSem.Claim
import GoSem.ClaimJoined
import GoSem.ClaimMapViews
import Derived.JoinedTies
import Derived.KernelRfl
namespace Go.Proofs.Ytbmlkanonmooeaa
/- THE CELL 'sum', in the pinned program and in every row, IS THE sha256 OF THE DUMP (.gsa) THAT YtbmlkanonmooeaaProg.lean LOADS. Nothing in Lean hashes anything: it is a label: what it is worth is what the hold of that sum in a sandbox is worth. -/
noncomputable def Try.pinned : Pinned := { name := "ytbmlkanonmooeaa", sum := "02341965f3ee3ab6d0f241bd3bdb222fd06d2b67eb6f58646edf85889bf01038", checked := Try.checked }
namespace Rows
def none {H : Type} : Left H := { results := [], args := [] }

/-- 'seepagelaw33.ClockLives': WHATEVER THE INPUT: true; the input reads as it did. -/
def clockLivesSpec : ChangeSpec := { name := "clockLives", fn := fun _ => fun
  | [d1, d2, d3] => { results := [.lit (.bool true)], args := [d1, d2, d3] }
  | _ => none }
def clockLivesRow : OpenClaim := { program := "ytbmlkanonmooeaa", sum := "02341965f3ee3ab6d0f241bd3bdb222fd06d2b67eb6f58646edf85889bf01038", func := "seepage/seepagelaw33.ClockLives", spec := "clockLives", apart := false }
def ClockLivesSaid : Prop := clockLivesRow.holds Try.pinned (OpenSpec.ofChange clockLivesSpec)

/-- ITS FALSE NEIGHBOUR: 'it returns false'. Refute it at one input. -/
def clockLivesWrong : ChangeSpec := { name := "clockLives", fn := fun _ => fun
  | [d1, d2, d3] => { results := [.lit (.bool false)], args := [d1, d2, d3] }
  | _ => none }
def ClockLivesWrongFalsely : Prop := clockLivesRow.holds Try.pinned (OpenSpec.ofChange clockLivesWrong)

/-- 'seepagelaw33.ClockExpires': WHATEVER THE INPUT: true; the input reads as it did. -/
def clockExpiresSpec : ChangeSpec := { name := "clockExpires", fn := fun _ => fun
  | [d1, d2, d3] => { results := [.lit (.bool true)], args := [d1, d2, d3] }
  | _ => none }
def clockExpiresRow : OpenClaim := { program := "ytbmlkanonmooeaa", sum := "02341965f3ee3ab6d0f241bd3bdb222fd06d2b67eb6f58646edf85889bf01038", func := "seepage/seepagelaw33.ClockExpires", spec := "clockExpires", apart := false }
def ClockExpiresSaid : Prop := clockExpiresRow.holds Try.pinned (OpenSpec.ofChange clockExpiresSpec)

/-- ITS FALSE NEIGHBOUR: 'it returns false'. Refute it at one input. -/
def clockExpiresWrong : ChangeSpec := { name := "clockExpires", fn := fun _ => fun
  | [d1, d2, d3] => { results := [.lit (.bool false)], args := [d1, d2, d3] }
  | _ => none }
def ClockExpiresWrongFalsely : Prop := clockExpiresRow.holds Try.pinned (OpenSpec.ofChange clockExpiresWrong)

/-- 'seepagelaw33.ClockOrders': WHATEVER THE INPUT: true; the input reads as it did. -/
def clockOrdersSpec : ChangeSpec := { name := "clockOrders", fn := fun _ => fun
  | [d1, d2, d3] => { results := [.lit (.bool true)], args := [d1, d2, d3] }
  | _ => none }
def clockOrdersRow : OpenClaim := { program := "ytbmlkanonmooeaa", sum := "02341965f3ee3ab6d0f241bd3bdb222fd06d2b67eb6f58646edf85889bf01038", func := "seepage/seepagelaw33.ClockOrders", spec := "clockOrders", apart := false }
def ClockOrdersSaid : Prop := clockOrdersRow.holds Try.pinned (OpenSpec.ofChange clockOrdersSpec)

/-- ITS FALSE NEIGHBOUR: 'it returns false'. Refute it at one input. -/
def clockOrdersWrong : ChangeSpec := { name := "clockOrders", fn := fun _ => fun
  | [d1, d2, d3] => { results := [.lit (.bool false)], args := [d1, d2, d3] }
  | _ => none }
def ClockOrdersWrongFalsely : Prop := clockOrdersRow.holds Try.pinned (OpenSpec.ofChange clockOrdersWrong)

/-- 'seepagelaw33.ClockNews': WHATEVER THE INPUT: true; the input reads as it did. -/
def clockNewsSpec : ChangeSpec := { name := "clockNews", fn := fun _ => fun
  | [d1, d2] => { results := [.lit (.bool true)], args := [d1, d2] }
  | _ => none }
def clockNewsRow : OpenClaim := { program := "ytbmlkanonmooeaa", sum := "02341965f3ee3ab6d0f241bd3bdb222fd06d2b67eb6f58646edf85889bf01038", func := "seepage/seepagelaw33.ClockNews", spec := "clockNews", apart := false }
def ClockNewsSaid : Prop := clockNewsRow.holds Try.pinned (OpenSpec.ofChange clockNewsSpec)

/-- ITS FALSE NEIGHBOUR: 'it returns false'. Refute it at one input. -/
def clockNewsWrong : ChangeSpec := { name := "clockNews", fn := fun _ => fun
  | [d1, d2] => { results := [.lit (.bool false)], args := [d1, d2] }
  | _ => none }
def ClockNewsWrongFalsely : Prop := clockNewsRow.holds Try.pinned (OpenSpec.ofChange clockNewsWrong)

/-- 'seepagelaw33.ClockRises': WHATEVER THE INPUT: true; the input reads as it did. -/
def clockRisesSpec : ChangeSpec := { name := "clockRises", fn := fun _ => fun
  | [d1, d2] => { results := [.lit (.bool true)], args := [d1, d2] }
  | _ => none }
def clockRisesRow : OpenClaim := { program := "ytbmlkanonmooeaa", sum := "02341965f3ee3ab6d0f241bd3bdb222fd06d2b67eb6f58646edf85889bf01038", func := "seepage/seepagelaw33.ClockRises", spec := "clockRises", apart := false }
def ClockRisesSaid : Prop := clockRisesRow.holds Try.pinned (OpenSpec.ofChange clockRisesSpec)

/-- ITS FALSE NEIGHBOUR: 'it returns false'. Refute it at one input. -/
def clockRisesWrong : ChangeSpec := { name := "clockRises", fn := fun _ => fun
  | [d1, d2] => { results := [.lit (.bool false)], args := [d1, d2] }
  | _ => none }
def ClockRisesWrongFalsely : Prop := clockRisesRow.holds Try.pinned (OpenSpec.ofChange clockRisesWrong)

/-- 'seepagelaw33.ClockPlays': WHATEVER THE INPUT: true; the input reads as it did. -/
def clockPlaysSpec : ChangeSpec := { name := "clockPlays", fn := fun _ => fun
  | [d1, d2, d3, d4] => { results := [.lit (.bool true)], args := [d1, d2, d3, d4] }
  | _ => none }
def clockPlaysRow : OpenClaim := { program := "ytbmlkanonmooeaa", sum := "02341965f3ee3ab6d0f241bd3bdb222fd06d2b67eb6f58646edf85889bf01038", func := "seepage/seepagelaw33.ClockPlays", spec := "clockPlays", apart := false }
def ClockPlaysSaid : Prop := clockPlaysRow.holds Try.pinned (OpenSpec.ofChange clockPlaysSpec)

/-- ITS FALSE NEIGHBOUR: 'it returns false'. Refute it at one input. -/
def clockPlaysWrong : ChangeSpec := { name := "clockPlays", fn := fun _ => fun
  | [d1, d2, d3, d4] => { results := [.lit (.bool false)], args := [d1, d2, d3, d4] }
  | _ => none }
def ClockPlaysWrongFalsely : Prop := clockPlaysRow.holds Try.pinned (OpenSpec.ofChange clockPlaysWrong)

/-- 'seepagelaw33.ClockNil': WHATEVER THE INPUT: true; the input reads as it did. -/
def clockNilSpec : ChangeSpec := { name := "clockNil", fn := fun _ => fun
  | [d] => { results := [.lit (.bool true)], args := [d] }
  | _ => none }
def clockNilRow : OpenClaim := { program := "ytbmlkanonmooeaa", sum := "02341965f3ee3ab6d0f241bd3bdb222fd06d2b67eb6f58646edf85889bf01038", func := "seepage/seepagelaw33.ClockNil", spec := "clockNil", apart := false }
def ClockNilSaid : Prop := clockNilRow.holds Try.pinned (OpenSpec.ofChange clockNilSpec)

/-- ITS FALSE NEIGHBOUR: 'it returns false'. Refute it at one input. -/
def clockNilWrong : ChangeSpec := { name := "clockNil", fn := fun _ => fun
  | [d] => { results := [.lit (.bool false)], args := [d] }
  | _ => none }
def ClockNilWrongFalsely : Prop := clockNilRow.holds Try.pinned (OpenSpec.ofChange clockNilWrong)

/-- 'seepagelaw33.ClockKnown': WHATEVER THE INPUT: true; the input reads as it did. -/
def clockKnownSpec : ChangeSpec := { name := "clockKnown", fn := fun _ => fun
  | [] => { results := [.lit (.bool true)], args := [] }
  | _ => none }
def clockKnownRow : OpenClaim := { program := "ytbmlkanonmooeaa", sum := "02341965f3ee3ab6d0f241bd3bdb222fd06d2b67eb6f58646edf85889bf01038", func := "seepage/seepagelaw33.ClockKnown", spec := "clockKnown", apart := false }
def ClockKnownSaid : Prop := clockKnownRow.holds Try.pinned (OpenSpec.ofChange clockKnownSpec)

/-- ITS FALSE NEIGHBOUR: 'it returns false'. Refute it at one input. -/
def clockKnownWrong : ChangeSpec := { name := "clockKnown", fn := fun _ => fun
  | [] => { results := [.lit (.bool false)], args := [] }
  | _ => none }
def ClockKnownWrongFalsely : Prop := clockKnownRow.holds Try.pinned (OpenSpec.ofChange clockKnownWrong)

/- THE SECOND FORM. 'bulk': how many values and letters a reading holds, each counted each time it is reached (what is shared counts as often as it is met; a slice's spare places count too). A statement '..UptoSaid' is the law's where the arguments, and the package variables that the reading takes, are together of bulk at most 1048576: NARROWER than '..Said'. Prove '..Said' where nothing that the law and all that it calls make is longer than what came in: it says more and counts as full. Else prove '..UptoSaid'. A law counts once. -/
mutual
def uptoBulk {H : Type} : DataW H → Nat
  | .lit (.string bytes) => bytes.length + 1
  | .lit _ => 1
  | .nil => 1
  | .ptr d => uptoBulk d + 1
  | .slice elems spare => uptoBulkAll elems + uptoBulkAll spare + 1
  | .agg parts => uptoBulkAll parts + 1
  | .iface _ d => uptoBulk d + 1
  | .map entries => uptoBulkEntries entries + 1
  | .held _ => 1
def uptoBulkAll {H : Type} : List (DataW H) → Nat
  | [] => 0
  | d :: r => uptoBulk d + uptoBulkAll r
def uptoBulkEntries {H : Type} : List (Lit × DataW H) → Nat
  | [] => 0
  | x :: r => uptoBulkEntry x + uptoBulkEntries r
def uptoBulkEntry {H : Type} : Lit × DataW H → Nat
  | (.string bytes, d) => bytes.length + uptoBulk d + 1
  | (_, d) => uptoBulk d + 1
 end
def uptoSmall : (H : Type) → List (DataW H) → Bool := fun _ ds => decide (uptoBulkAll ds ≤ 1048576)
def OpenSpec.upto (s : _root_.Go.ChangeSpec) : _root_.Go.OpenSpec := { _root_.Go.OpenSpec.ofChange s with cond := some uptoSmall }

/-- 'seepagelaw33.ClockLives', WHERE WHAT IT READS IS OF BULK AT MOST 1048576: true; the input reads as it did. -/
def clockLivesUptoRow : OpenClaim := { program := "ytbmlkanonmooeaa", sum := "02341965f3ee3ab6d0f241bd3bdb222fd06d2b67eb6f58646edf85889bf01038", func := "seepage/seepagelaw33.ClockLives", spec := "clockLives", apart := false, narrowed := true }
def ClockLivesUptoSaid : Prop := clockLivesUptoRow.holds Try.pinned (OpenSpec.upto clockLivesSpec)

/-- 'seepagelaw33.ClockExpires', WHERE WHAT IT READS IS OF BULK AT MOST 1048576: true; the input reads as it did. -/
def clockExpiresUptoRow : OpenClaim := { program := "ytbmlkanonmooeaa", sum := "02341965f3ee3ab6d0f241bd3bdb222fd06d2b67eb6f58646edf85889bf01038", func := "seepage/seepagelaw33.ClockExpires", spec := "clockExpires", apart := false, narrowed := true }
def ClockExpiresUptoSaid : Prop := clockExpiresUptoRow.holds Try.pinned (OpenSpec.upto clockExpiresSpec)

/-- 'seepagelaw33.ClockOrders', WHERE WHAT IT READS IS OF BULK AT MOST 1048576: true; the input reads as it did. -/
def clockOrdersUptoRow : OpenClaim := { program := "ytbmlkanonmooeaa", sum := "02341965f3ee3ab6d0f241bd3bdb222fd06d2b67eb6f58646edf85889bf01038", func := "seepage/seepagelaw33.ClockOrders", spec := "clockOrders", apart := false, narrowed := true }
def ClockOrdersUptoSaid : Prop := clockOrdersUptoRow.holds Try.pinned (OpenSpec.upto clockOrdersSpec)

/-- 'seepagelaw33.ClockNews', WHERE WHAT IT READS IS OF BULK AT MOST 1048576: true; the input reads as it did. -/
def clockNewsUptoRow : OpenClaim := { program := "ytbmlkanonmooeaa", sum := "02341965f3ee3ab6d0f241bd3bdb222fd06d2b67eb6f58646edf85889bf01038", func := "seepage/seepagelaw33.ClockNews", spec := "clockNews", apart := false, narrowed := true }
def ClockNewsUptoSaid : Prop := clockNewsUptoRow.holds Try.pinned (OpenSpec.upto clockNewsSpec)

/-- 'seepagelaw33.ClockRises', WHERE WHAT IT READS IS OF BULK AT MOST 1048576: true; the input reads as it did. -/
def clockRisesUptoRow : OpenClaim := { program := "ytbmlkanonmooeaa", sum := "02341965f3ee3ab6d0f241bd3bdb222fd06d2b67eb6f58646edf85889bf01038", func := "seepage/seepagelaw33.ClockRises", spec := "clockRises", apart := false, narrowed := true }
def ClockRisesUptoSaid : Prop := clockRisesUptoRow.holds Try.pinned (OpenSpec.upto clockRisesSpec)

/-- 'seepagelaw33.ClockPlays', WHERE WHAT IT READS IS OF BULK AT MOST 1048576: true; the input reads as it did. -/
def clockPlaysUptoRow : OpenClaim := { program := "ytbmlkanonmooeaa", sum := "02341965f3ee3ab6d0f241bd3bdb222fd06d2b67eb6f58646edf85889bf01038", func := "seepage/seepagelaw33.ClockPlays", spec := "clockPlays", apart := false, narrowed := true }
def ClockPlaysUptoSaid : Prop := clockPlaysUptoRow.holds Try.pinned (OpenSpec.upto clockPlaysSpec)

/-- 'seepagelaw33.ClockNil', WHERE WHAT IT READS IS OF BULK AT MOST 1048576: true; the input reads as it did. -/
def clockNilUptoRow : OpenClaim := { program := "ytbmlkanonmooeaa", sum := "02341965f3ee3ab6d0f241bd3bdb222fd06d2b67eb6f58646edf85889bf01038", func := "seepage/seepagelaw33.ClockNil", spec := "clockNil", apart := false, narrowed := true }
def ClockNilUptoSaid : Prop := clockNilUptoRow.holds Try.pinned (OpenSpec.upto clockNilSpec)

/-- 'seepagelaw33.ClockKnown', WHERE WHAT IT READS IS OF BULK AT MOST 1048576: true; the input reads as it did. -/
def clockKnownUptoRow : OpenClaim := { program := "ytbmlkanonmooeaa", sum := "02341965f3ee3ab6d0f241bd3bdb222fd06d2b67eb6f58646edf85889bf01038", func := "seepage/seepagelaw33.ClockKnown", spec := "clockKnown", apart := false, narrowed := true }
def ClockKnownUptoSaid : Prop := clockKnownUptoRow.holds Try.pinned (OpenSpec.upto clockKnownSpec)

end Rows
end Go.Proofs.Ytbmlkanonmooeaa
