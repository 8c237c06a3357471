/-
  No cell of these rows narrows 'for every input' (looked for: loops, veiled, ifaces, maps, wideKeys, modest, calm, conditions, laid).
  DERIVED. THE GIVEN ROWS OF THIS SEAT. 2 by the template 'for every input the law returns true; each argument reads behind the call as it read before'; 0 by the template 'total and deterministic' (their statements: YtjclofkkpgdjnaaTotals.lean).
  GIVEN WITH THE SEED: the statements are not yours to turn. If you find one false, say at which input.
  Laid BY PROGRAM, IN A SANDBOX (cutbox-rows.mjs): the forced cells as the released guide's own fill.sh prints them over the translation 60a0048f958dc457… (all of the seat's roots in one cut). By AI agents, Wed Nov 11 2026. No macro, syntax, notation, axiom, sorry.
-/
import Derived.Test.YtjclofkkpgdjnaaChecked
import GoSem.Claim
import GoSem.ClaimJoined
import GoSem.ClaimMapViews
import Derived.JoinedTies
import Derived.KernelRfl
namespace Go.Proofs.Ytjclofkkpgdjnaa
/- THE CELL 'sum', in the pinned program and in every row, IS THE sha256 OF THE DUMP (.gsa) THAT YtjclofkkpgdjnaaProg.lean LOADS. Nothing in Lean hashes anything: it is a label: what it is worth is what the hold of that sum in a sandbox is worth. -/
noncomputable def Try.pinned : Pinned := { name := "ytjclofkkpgdjnaa", sum := "60a0048f958dc4573ba34ffa4293bbd94a64a7c9aa74b14ab3f59492f52a7ebb", checked := Try.checked }
namespace Rows
def none {H : Type} : Left H := { results := [], args := [] }

/-- 'garderobelaw26.GaugeNil': WHATEVER THE INPUT: true; the input reads as it did. -/
def gaugeNilSpec : ChangeSpec := { name := "gaugeNil", fn := fun _ => fun
  | [d] => { results := [.lit (.bool true)], args := [d] }
  | _ => none }
def gaugeNilRow : OpenClaim := { program := "ytjclofkkpgdjnaa", sum := "60a0048f958dc4573ba34ffa4293bbd94a64a7c9aa74b14ab3f59492f52a7ebb", func := "garderobe/garderobelaw26.GaugeNil", spec := "gaugeNil", unfollowed := true, recurses := true, plainKeys := false, apart := false }
def GaugeNilSaid : Prop := gaugeNilRow.holds Try.pinned (OpenSpec.ofChange gaugeNilSpec)

/-- ITS FALSE NEIGHBOUR: 'it returns false'. Refute it at one input. -/
def gaugeNilWrong : ChangeSpec := { name := "gaugeNil", fn := fun _ => fun
  | [d] => { results := [.lit (.bool false)], args := [d] }
  | _ => none }
def GaugeNilWrongFalsely : Prop := gaugeNilRow.holds Try.pinned (OpenSpec.ofChange gaugeNilWrong)

/-- 'garderobelaw10.SealNil': WHATEVER THE INPUT: true; the input reads as it did. -/
def sealNilSpec : ChangeSpec := { name := "sealNil", fn := fun _ => fun
  | [d1, d2, d3] => { results := [.lit (.bool true)], args := [d1, d2, d3] }
  | _ => none }
def sealNilRow : OpenClaim := { program := "ytjclofkkpgdjnaa", sum := "60a0048f958dc4573ba34ffa4293bbd94a64a7c9aa74b14ab3f59492f52a7ebb", func := "garderobe/garderobelaw10.SealNil", spec := "sealNil", unfollowed := true, recurses := true, plainKeys := false, apart := false }
def SealNilSaid : Prop := sealNilRow.holds Try.pinned (OpenSpec.ofChange sealNilSpec)

/-- ITS FALSE NEIGHBOUR: 'it returns false'. Refute it at one input. -/
def sealNilWrong : ChangeSpec := { name := "sealNil", fn := fun _ => fun
  | [d1, d2, d3] => { results := [.lit (.bool false)], args := [d1, d2, d3] }
  | _ => none }
def SealNilWrongFalsely : Prop := sealNilRow.holds Try.pinned (OpenSpec.ofChange sealNilWrong)

/- THE SECOND FORM. 'bulk': how many values and letters a reading holds, each counted each time it is reached (what is shared counts as often as it is met; a slice's spare places count too). A statement '..UptoSaid' is the law's where the arguments, and the package variables that the reading takes, are together of bulk at most 1048576: NARROWER than '..Said'. Prove '..Said' where nothing that the law and all that it calls make is longer than what came in: it says more and counts as full. Else prove '..UptoSaid'. A law counts once. -/
mutual
def uptoBulk {H : Type} : DataW H → Nat
  | .lit (.string bytes) => bytes.length + 1
  | .lit _ => 1
  | .nil => 1
  | .ptr d => uptoBulk d + 1
  | .slice elems spare => uptoBulkAll elems + uptoBulkAll spare + 1
  | .agg parts => uptoBulkAll parts + 1
  | .iface _ d => uptoBulk d + 1
  | .map entries => uptoBulkEntries entries + 1
  | .held _ => 1
def uptoBulkAll {H : Type} : List (DataW H) → Nat
  | [] => 0
  | d :: r => uptoBulk d + uptoBulkAll r
def uptoBulkEntries {H : Type} : List (Lit × DataW H) → Nat
  | [] => 0
  | x :: r => uptoBulkEntry x + uptoBulkEntries r
def uptoBulkEntry {H : Type} : Lit × DataW H → Nat
  | (.string bytes, d) => bytes.length + uptoBulk d + 1
  | (_, d) => uptoBulk d + 1
 end
def uptoSmall : (H : Type) → List (DataW H) → Bool := fun _ ds => decide (uptoBulkAll ds ≤ 1048576)
def OpenSpec.upto (s : _root_.Go.ChangeSpec) : _root_.Go.OpenSpec := { _root_.Go.OpenSpec.ofChange s with cond := some uptoSmall }

/-- 'garderobelaw26.GaugeNil', WHERE WHAT IT READS IS OF BULK AT MOST 1048576: true; the input reads as it did. -/
def gaugeNilUptoRow : OpenClaim := { program := "ytjclofkkpgdjnaa", sum := "60a0048f958dc4573ba34ffa4293bbd94a64a7c9aa74b14ab3f59492f52a7ebb", func := "garderobe/garderobelaw26.GaugeNil", spec := "gaugeNil", unfollowed := true, recurses := true, plainKeys := false, apart := false, narrowed := true }
def GaugeNilUptoSaid : Prop := gaugeNilUptoRow.holds Try.pinned (OpenSpec.upto gaugeNilSpec)

/-- 'garderobelaw10.SealNil', WHERE WHAT IT READS IS OF BULK AT MOST 1048576: true; the input reads as it did. -/
def sealNilUptoRow : OpenClaim := { program := "ytjclofkkpgdjnaa", sum := "60a0048f958dc4573ba34ffa4293bbd94a64a7c9aa74b14ab3f59492f52a7ebb", func := "garderobe/garderobelaw10.SealNil", spec := "sealNil", unfollowed := true, recurses := true, plainKeys := false, apart := false, narrowed := true }
def SealNilUptoSaid : Prop := sealNilUptoRow.holds Try.pinned (OpenSpec.upto sealNilSpec)

end Rows
end Go.Proofs.Ytjclofkkpgdjnaa
