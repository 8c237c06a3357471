/- Closed facts on the whole program that each row asks: proved once. -/
import Derived.Test.YteennbdakjjcfaaDoorRows
import Derived.JoinedOf
import Derived.KernelRfl
set_option linter.unusedVariables false
namespace Go.Proofs.YteennbdakjjcfaaDoor
open Go
theorem and_t {a b : Bool} (ha : a = true) (hb : b = true) : (a && b) = true := by rw [ha, hb]; rfl
theorem pf_laidOut : laidOutB Tryd.prog = true := by kernel_rfl
theorem pf_mapsRowed : mapsRowed Tryd.prog = true := by kernel_rfl
theorem pf_stops : (Tryd.prog.stops == []) = true := by kernel_rfl
theorem pf_stopKnobs : (Tryd.prog.stopKnobs == []) = true := by kernel_rfl
theorem pf_plainKeys : (true == Tryd.prog.plainKeys) = true := by kernel_rfl
theorem pf_stopsHeard : Tryd.prog.stopsHeard = true := by kernel_rfl
theorem pf_mayEnter : Tryd.prog.mayEnter = true := by kernel_rfl
theorem pf_lifted : (false == Tryd.prog.liftsFinal) = true := by kernel_rfl
end Go.Proofs.YteennbdakjjcfaaDoor
