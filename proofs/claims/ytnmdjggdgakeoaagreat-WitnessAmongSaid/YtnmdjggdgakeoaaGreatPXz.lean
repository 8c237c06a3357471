/- Lemmas for the proof. -/
import Derived.Test.YtnmdjggdgakeoaaGreatPXa
import Derived.Test.YtnmdjggdgakeoaaGreatPXb
import Derived.ProofKit
import Derived.OpenShut
import Derived.ShutString
import Derived.ChangeOld
import Derived.Below
set_option maxRecDepth 100000
set_option maxHeartbeats 16000000
set_option linter.unusedVariables false
set_option linter.unusedSimpArgs false
set_option linter.unusedSectionVars false
namespace Go.Proofs.YtnmdjggdgakeoaaGreat.witnessAmong
open Go.ChangeShapes Go.WideShapes Go.ChangeAt Go.RowKit
open Go.ChangeMaps (open_string shut_string)
theorem own : ownKnob Tryz.prog.godebug = none := by kernel_rfl
theorem laidOut : laidOutB Tryz.prog = true := pf_laidOut
theorem closed : joinedFacts Tryz.prog 4 Tryz.f4 Rows.witnessAmongSpec Rows.witnessAmongRow = true := by
 unfold joinedFacts
 repeat' (with_reducible refine and_t ?_ ?_)
 all_goals first | with_reducible exact pf_laidOut | with_reducible exact pf_mapsRowed | with_reducible exact pf_stops | with_reducible exact pf_stopKnobs | with_reducible exact pf_stopsHeard | with_reducible exact pf_mayEnter | ((with_reducible show (_ == Tryz.prog.plainKeys) = true); exact pf_plainKeys) | ((with_reducible show (_ == Tryz.prog.liftsFinal) = true); exact pf_lifted) | (as_aux_lemma => kernel_rfl)
end Go.Proofs.YtnmdjggdgakeoaaGreat.witnessAmong
