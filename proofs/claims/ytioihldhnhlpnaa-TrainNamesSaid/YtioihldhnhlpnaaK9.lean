/- Trains: a law's arguments. TrainSteps: whatever the input, the law returns true, and its arguments read as they did. No condition. -/
import Derived.Test.YtioihldhnhlpnaaK8
set_option maxHeartbeats 8000000
set_option linter.unusedVariables false
set_option linter.unusedSimpArgs false
set_option maxRecDepth 20000
namespace Go.AX.Tr
open Go.Proofs Go.RowKit Go.IntWalk Go.AX.Br Go.AX.Lg Go.AX.Qu Go.AX.Wn
theorem t0_fit : TFit t0 := ⟨by decide, by decide, by decide, fun s hs => by simp [t0, lg0] at hs, by decide, by decide, by decide⟩
end Go.AX.Tr
