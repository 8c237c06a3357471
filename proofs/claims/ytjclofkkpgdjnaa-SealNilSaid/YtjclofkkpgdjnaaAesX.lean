/- The law's awake (05). -/
import Derived.Test.YtjclofkkpgdjnaaAesW
set_option linter.unusedVariables false
set_option linter.unusedSimpArgs false
namespace Go.Proofs.Ytjclofkkpgdjnaa
open Go Go.RowKit GfM
def zr16 : List Nat := List.replicate 16 0
def p17 (i : Nat) : Nat := 17 * i
theorem own_keep {W W' : World} {base : Nat} {e : TypeId} {sz : Nat} {v : Value} {n : Nat} {xs : List Value} (h : W.ownsRow base e sz v n xs) (hb : ∀ k, base ≤ k → k < W.heap.size → W'.heap[k]? = W.heap[k]?) : W'.ownsRow base e sz v n xs := by
  refine ⟨h.1, ?_⟩
  rcases h.2 with h | ⟨g, cap, cur, e1, e2, e3, e4⟩
  · exact .inl h
  · exact .inr ⟨g, cap, cur, e1, e2, (hb g e2 (lt_of_block e3)).trans e3, e4⟩
end Go.Proofs.Ytjclofkkpgdjnaa
