/- Closed facts on the whole program that each row asks: proved once. -/
import Derived.Test.YtpbmjfjnmcpieaaRows
import Derived.JoinedOf
import Derived.KernelRfl
set_option linter.unusedVariables false
namespace Go.Proofs.Ytpbmjfjnmcpieaa
open Go
theorem and_t {a b : Bool} (ha : a = true) (hb : b = true) : (a && b) = true := by rw [ha, hb]; rfl
theorem pf_laidOut : laidOutB Try.prog = true := by kernel_rfl
theorem pf_mapsRowed : mapsRowed Try.prog = true := by kernel_rfl
theorem pf_stops : (Try.prog.stops == []) = true := by kernel_rfl
theorem pf_stopKnobs : (Try.prog.stopKnobs == []) = true := by kernel_rfl
theorem pf_plainKeys : (false == Try.prog.plainKeys) = true := by kernel_rfl
theorem pf_stopsHeard : Try.prog.stopsHeard = true := by kernel_rfl
theorem pf_mayEnter : Try.prog.mayEnter = true := by kernel_rfl
theorem pf_lifted : (false == Try.prog.liftsFinal) = true := by kernel_rfl
end Go.Proofs.Ytpbmjfjnmcpieaa
