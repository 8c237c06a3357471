/- A region that draws its order, whose calls may make memory but hand back values: one walk in the order of the text, over the class of worlds that are as W was below W's size. Any program. -/
import Derived.Test.YtpbmjfjnmcpieaaLib
import Derived.StillTailTactics
set_option linter.unusedVariables false
namespace Go.Proofs.Ytpbmjfjnmcpieaa
open Go Go.RowKit
/-- the worlds that are as W was below W's size, as the image of a type -/
theorem bclass (W : World) : ∃ (S : Type) (f : S → World), Nonempty S ∧ (∀ s, Below W.heap.size W (f s)) ∧ (∀ w, Below W.heap.size W w → ∃ s, w = f s) :=
  ⟨{ w : World // Below W.heap.size W w }, Subtype.val, ⟨⟨W, Below.refl _ _⟩⟩, fun s => s.2, fun w h => ⟨⟨w, h⟩, rfl⟩⟩
theorem bcall {P : Program} {W : World} {S : Type} {f : S → World} (h1 : ∀ s, Below W.heap.size W (f s)) (h2 : ∀ w, Below W.heap.size W w → ∃ s, w = f s) {F : FuncId} {args : Array Value} {v : Value} {s : S}
    (h : Calls P F args (f s) fun e w' => e = .returned v ∧ Below (f s).heap.size (f s) w') : Calls P F args (f s) fun e w' => e = .returned v ∧ ∃ s', w' = f s' :=
  h.mono fun e w' ⟨he, hb⟩ => ⟨he, h2 w' ((h1 s).trans (hb.mono (h1 s).size))⟩
theorem bcall_same {P : Program} {S : Type} {f : S → World} {F : FuncId} {args : Array Value} {v : Value} {s : S}
    (h : Calls P F args (f s) fun e w' => e = .returned v ∧ f s = w') : Calls P F args (f s) fun e w' => e = .returned v ∧ ∃ s', w' = f s' :=
  h.mono fun e w' ⟨he, hb⟩ => ⟨he, s, hb.symm⟩
theorem below_cell {W w' : World} (h : Below W.heap.size W w') {b o : Nat} (hb : b < W.heap.size) : w'.cell? ⟨b, o, none⟩ = W.cell? ⟨b, o, none⟩ := h.cell (p := ⟨b, o, none⟩) hb
/-- a whole row loaded, by an operation whose guard says yes -/
theorem load_row_w {P : Program} {ops : Array Oper} {rest : List Oper} {o : Oper} {a : Act} {w : World} {Q : Exit → Act → World → Prop} (hgd : Region.wanted o (yielded ops a.tmps) = true) (ty : TypeId) (x : Operand) (ho : o.op = .load ty x)
    (g : Nat) (hx : a.eval x = .pointer (some ⟨g, 0, none⟩)) (t : TypeId) (cs : Array Value) (fr : Nat × Nat) (d : TypeDesc) (hg : w.heap[g]? = some (.cells cs t fr))
    (hu : P.underlying ty = some d) (hd : (match d with | .struct _ | .array _ _ => true | _ => false) = true) (hi : (P.info? ty).map (·.size) = some cs.size)
    (h : wpList P ops Q rest (a.put o.dst (.agg cs)) w) : wpList P ops Q (o :: rest) a w :=
  wpList_step fun _ hK => by rw [if_pos hgd]; exact wp_load_row ty x ho g hx t cs fr d hg hu hd hi (hK _ _ h)
end Go.Proofs.Ytpbmjfjnmcpieaa
