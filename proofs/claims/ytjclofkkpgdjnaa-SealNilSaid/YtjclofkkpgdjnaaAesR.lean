/- Contracts of Cipher.Decrypt. Printed by gen_dec.py. -/
import Derived.Test.YtjclofkkpgdjnaaAesH
set_option linter.unusedVariables false
set_option linter.unusedSimpArgs false
namespace Go.Proofs.Ytjclofkkpgdjnaa
open Go Go.RowKit GfM
/-- the state behind the last rounds -/
def decS (W : List Nat) (r : Nat) (l : List Nat) : Nat → List Nat
  | 0 => sunsubL (unshiftL (keyL l W r))
  | i + 1 => sunsubL (unshiftL (sunmixL (keyL (decS W r l i) W (r - 1 - i))))
def decL (W : List Nat) (r : Nat) (l : List Nat) : List Nat := keyL (decS W r l (r - 1)) W 0
theorem decS_succ (W l : List Nat) (r i : Nat) : decS W r l (i + 1) = sunsubL (unshiftL (sunmixL (keyL (decS W r l i) W (r - 1 - i)))) := rfl
theorem run_field (l : List Nat) (b : Nat) (hl : l.length = 16) (w : World) :
    Sem.run Try.prog (Instr.field 148 (.agg (stA l b)) 0) w = .ok (.agg (bA l)) w := by
  match l, hl with
  | [a0, a1, a2, a3, a4, a5, a6, a7, a8, a9, a10, a11, a12, a13, a14, a15], _ =>
    simp [bA, stA, go_sem, Instr.field]
    rfl
theorem at_new {n : Nat} {W0 cur : World} {o : Obj} {Q : Prop} (h : Below n W0 (cur.alloc o) ∧ Q) : (cur.alloc o).heap[cur.heap.size]? = some o := heap_new' _ _
theorem at_old {n : Nat} {W0 cur : World} {o x : Obj} {Q : Prop} {p : Nat} (h : Below n W0 (cur.alloc o) ∧ Q) (hx : cur.heap[p]? = some x) : (cur.alloc o).heap[p]? = some x := (heap_old' _ _ _ (by
  rcases Nat.lt_or_ge p cur.heap.size with h | h
  · exact h
  · rw [Array.getElem?_eq_none h] at hx; cases hx)).trans hx
end Go.Proofs.Ytjclofkkpgdjnaa
