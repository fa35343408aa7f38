/- Put of the document, refused. -/
import Derived.Test.YtabihdhgonnihaaDoorZj
namespace Go.Proofs.YtabihdhgonnihaaDoor
open Go.ChangeShapes Go.WideShapes Go.ChangeAt Go.RowKit
set_option linter.unusedVariables false
set_option linter.unusedSimpArgs false

set_option maxRecDepth 100000 in
set_option maxHeartbeats 4000000 in
theorem rput_bad (f : Cf) (hf : f.ok) (hk : ¬ wrong f < 0) (w : World) : Calls Tryd.prog 32 #[.agg #[.int .i64 f.a, .int .i64 f.b, .int .i64 f.c, .int .i64 f.d]] w fun e w' => e = .returned (.tuple #[.slice none 0 0, .int .i64 2]) ∧ Below w.heap.size w w' := by
  have N := Lib.hid (new25 w f)
  have P1 : Hid (Calls Tryd.prog 33 #[.agg #[.int .i64 f.a, .int .i64 f.b, .int .i64 f.c, .int .i64 f.d]] (w.alloc (.cells #[.int .i64 f.a, .int .i64 f.b, .int .i64 f.c, .int .i64 f.d] 25)) fun e w' => e = .returned (.int .i64 2) ∧ Below (w.alloc (.cells #[.int .i64 f.a, .int .i64 f.b, .int .i64 f.c, .int .i64 f.d] 25)).heap.size (w.alloc (.cells #[.int .i64 f.a, .int .i64 f.b, .int .i64 f.c, .int .i64 f.d] 25)) w') := Lib.hid (by
    have := rcheck f hf (w.alloc (.cells #[.int .i64 f.a, .int .i64 f.b, .int .i64 f.c, .int .i64 f.d] 25))
    unfold chk at this
    rwa [if_neg hk] at this)
  clear hk hf
  go_enter Tryd.func32, Tryd.ntmps32
  go_wp2_with fail
  refine (P1.out).mono ?_; rintro e w1 ⟨rfl, hb1⟩
  have B1 := Lib.hid (N.out.trans (hb1.mono N.out.size))
  clear hb1 P1
  go_wp2_with fail
  go_ret2
  exact ⟨rfl, B1.out⟩
end Go.Proofs.YtabihdhgonnihaaDoor
