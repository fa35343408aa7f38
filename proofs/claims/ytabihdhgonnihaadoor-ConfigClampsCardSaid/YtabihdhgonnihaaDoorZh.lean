/- ConfigClamps: the walk, at an argument by value. -/
import Derived.Test.YtabihdhgonnihaaDoorZf
import Derived.Test.YtabihdhgonnihaaDoorZg
namespace Go.Proofs.YtabihdhgonnihaaDoor
open Go.ChangeShapes Go.WideShapes Go.ChangeAt Go.RowKit
set_option linter.unusedVariables false
set_option linter.unusedSimpArgs false

theorem clamps_walk (a : {f : Cf // f.ok}) (w : World) (h : Env w) : Calls Tryd.prog 7 #[.agg #[.int .i64 a.1.a, .int .i64 a.1.b, .int .i64 a.1.c, .int .i64 a.1.d]] w fun e w' => e = .returned (.bool true) ∧ Below w.heap.size w w' := clamps_law a.1 a.2 w h
end Go.Proofs.YtabihdhgonnihaaDoor
