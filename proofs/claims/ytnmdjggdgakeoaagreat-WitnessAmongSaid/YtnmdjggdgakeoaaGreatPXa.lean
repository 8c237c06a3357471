/- Lemmas for the proof. -/
import Derived.Test.YtnmdjggdgakeoaaGreatRows
import Derived.JoinedOf
import Derived.KernelRfl
set_option maxRecDepth 100000
set_option maxHeartbeats 16000000
set_option linter.unusedVariables false
set_option linter.unusedSimpArgs false
set_option linter.unusedSectionVars false
namespace Go.Proofs.YtnmdjggdgakeoaaGreat
open Go
theorem and_t {a b : Bool} (ha : a = true) (hb : b = true) : (a && b) = true := by rw [ha, hb]; rfl
theorem pf_laidOut : laidOutB Tryz.prog = true := by kernel_rfl
theorem pf_mapsRowed : mapsRowed Tryz.prog = true := by kernel_rfl
theorem pf_stops : (Tryz.prog.stops == []) = true := by kernel_rfl
theorem pf_stopKnobs : (Tryz.prog.stopKnobs == []) = true := by kernel_rfl
theorem pf_plainKeys : (false == Tryz.prog.plainKeys) = true := by kernel_rfl
theorem pf_stopsHeard : Tryz.prog.stopsHeard = true := by kernel_rfl
theorem pf_mayEnter : Tryz.prog.mayEnter = true := by kernel_rfl
theorem pf_lifted : (false == Tryz.prog.liftsFinal) = true := by kernel_rfl
end Go.Proofs.YtnmdjggdgakeoaaGreat
