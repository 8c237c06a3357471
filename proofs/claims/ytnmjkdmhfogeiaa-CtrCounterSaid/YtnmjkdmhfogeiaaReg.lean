/- A region that draws its order, whose calls may make memory but hand back values: one walk in the order of the text, over the class of worlds that are as W was below W's size. Any program. -/
import Derived.Test.YtnmjkdmhfogeiaaLib
import Derived.StillTailTactics
set_option linter.unusedVariables false
namespace Go.Proofs.Ytnmjkdmhfogeiaa
open Go Go.RowKit
/-- the worlds that are as W was below W's size, as the image of a type -/
theorem bclass (W : World) : ∃ (S : Type) (f : S → World), Nonempty S ∧ (∀ s, Below W.heap.size W (f s)) ∧ (∀ w, Below W.heap.size W w → ∃ s, w = f s) :=
  ⟨{ w : World // Below W.heap.size W w }, Subtype.val, ⟨⟨W, Below.refl _ _⟩⟩, fun s => s.2, fun w h => ⟨⟨w, h⟩, rfl⟩⟩
theorem bcall {P : Program} {W : World} {S : Type} {f : S → World} (h1 : ∀ s, Below W.heap.size W (f s)) (h2 : ∀ w, Below W.heap.size W w → ∃ s, w = f s) {F : FuncId} {args : Array Value} {v : Value} {s : S}
    (h : Calls P F args (f s) fun e w' => e = .returned v ∧ Below (f s).heap.size (f s) w') : Calls P F args (f s) fun e w' => e = .returned v ∧ ∃ s', w' = f s' :=
  h.mono fun e w' ⟨he, hb⟩ => ⟨he, h2 w' ((h1 s).trans (hb.mono (h1 s).size))⟩
theorem bcall_same {P : Program} {S : Type} {f : S → World} {F : FuncId} {args : Array Value} {v : Value} {s : S}
    (h : Calls P F args (f s) fun e w' => e = .returned v ∧ f s = w') : Calls P F args (f s) fun e w' => e = .returned v ∧ ∃ s', w' = f s' :=
  h.mono fun e w' ⟨he, hb⟩ => ⟨he, s, hb.symm⟩
theorem below_cell {W w' : World} (h : Below W.heap.size W w') {b o : Nat} (hb : b < W.heap.size) : w'.cell? ⟨b, o, none⟩ = W.cell? ⟨b, o, none⟩ := h.cell (p := ⟨b, o, none⟩) hb
end Go.Proofs.Ytnmjkdmhfogeiaa
