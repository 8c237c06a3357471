/- Contract of the law's Key. -/
import Derived.Test.YtjclofkkpgdjnaaNewB
import Derived.Deep.AppendLies
set_option linter.unusedVariables false
set_option linter.unusedSimpArgs false
namespace Go.Proofs.Ytjclofkkpgdjnaa
open Go Go.RowKit GfM
def keyOf (a b : List Nat) (long : Bool) : List Nat := if long then a ++ b else a
theorem own_out (n1 : Nat) (L : List Nat) (n cap g : Nat) {w w' : World} (hL : L.length = n) (hn : w.heap.size ≤ n1) (h : w'.ownsRow n1 5 1 (.slice (some ⟨g, 0, none⟩) (0 + n) cap) (0 + n) ([] ++ (bA L).toList)) (hb : Below w.heap.size w w') :
    ∃ g' cap', Ending.returned (Value.slice (some ⟨g, 0, none⟩) n cap) = .returned (.slice (some ⟨g', 0, none⟩) L.length cap') ∧ L.length ≤ cap' ∧ w.heap.size ≤ g' ∧ g' < w'.heap.size ∧
        (∀ j, j < L.length → w'.cell? ⟨g', j, none⟩ = some (.int .u8 ((L.getD j 0 : Nat) : Int))) ∧ Below w.heap.size w w' := by
  rw [Nat.zero_add, List.nil_append] at h
  rcases h.2 with ⟨h, _⟩ | ⟨g', cap', cur, e1, e2, e3, e4, e5, e6, e7⟩
  · cases h
  · cases e1
    refine ⟨g, cap, by rw [hL], by omega, by omega, lt_of_block e3, fun j hj => ?_, hb⟩
    rw [cells_at e3 j]
    have := congrArg (fun l => l[j]?) e7
    simp only [Nat.mul_one] at this
    rw [List.getElem?_take_of_lt (by omega), Array.getElem?_toList, Array.getElem?_toList, bA_get L j hj] at this
    exact this
theorem own_out2 (w : World) (g cap : Nat) (a b : List Nat) (ha : a.length = 16) (hb : b.length = 16) {w' : World} (h : w'.ownsRow (w.heap.size + 2) 5 1 (.slice (some ⟨g, 0, none⟩) (0 + 16 + 16) cap) (0 + 16 + 16) ([] ++ (bA a).toList ++ (bA b).toList)) (hbl : Below w.heap.size w w') :
    ∃ g' cap', Ending.returned (Value.slice (some ⟨g, 0, none⟩) 32 cap) = .returned (.slice (some ⟨g', 0, none⟩) (a ++ b).length cap') ∧ (a ++ b).length ≤ cap' ∧ w.heap.size ≤ g' ∧ g' < w'.heap.size ∧
        (∀ j, j < (a ++ b).length → w'.cell? ⟨g', j, none⟩ = some (.int .u8 (((a ++ b).getD j 0 : Nat) : Int))) ∧ Below w.heap.size w w' :=
  own_out (w.heap.size + 2) (a ++ b) 32 cap g (by simp [ha, hb]) (by omega) (by
    have e : (bA (a ++ b)).toList = (bA a).toList ++ (bA b).toList := by simp [bA]
    rw [e, List.nil_append]; exact h) hbl
end Go.Proofs.Ytjclofkkpgdjnaa
