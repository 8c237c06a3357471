/- A geometry (api.Geo) as a parameter. -/
import Derived.Test.YtpbmjfjnmcpieaaChLk
import Derived.ChangeOld
import Derived.Lib.SmallJoins
set_option linter.unusedVariables false
namespace Go.Proofs.Ytpbmjfjnmcpieaa
open Go Go.RowKit Go.ChangeShapes Go.WideShapes Go.Joins
set_option maxRecDepth 100000 in
theorem open_geo {H : Type} {enc : TypeId × Value → H} {W : World} {base b0 : Nat} {held : Bool} {r : Reach} {v : Value} {d : DataW H} {ps : List MemPlace}
    (hval : Value.okWide Try.prog W r b0 23 v) (hd : DataW.Trod enc Try.prog W base (fun _ => true) held 23 v d ps) :
    ∃ p t : Int, v = .agg #[.int .i64 p, .int .i64 t] ∧ (Lit.int .i64 p).wf = true ∧ (Lit.int .i64 t).wf = true := by
  obtain ⟨v0, v1, y0, y1, n, rfl, _, _, h0, h1⟩ := open_agg2 Try.underlying23 (by kernel_rfl) (by kernel_rfl) hval hd
  obtain ⟨z0, e0, _, w0⟩ := DataW.trod_int Try.underlying3 h0
  obtain ⟨z1, e1, _, w1⟩ := DataW.trod_int Try.underlying3 h1
  simp only [List.cons.injEq, and_true] at e0 e1
  exact ⟨z0, z1, by rw [e0, e1], w0, w1⟩
end Go.Proofs.Ytpbmjfjnmcpieaa
