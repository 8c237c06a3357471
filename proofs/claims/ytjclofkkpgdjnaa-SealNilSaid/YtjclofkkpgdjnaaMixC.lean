/- Contract of the reference's Column. -/
import Derived.Test.YtjclofkkpgdjnaaMixB
import Derived.StillTailTactics
set_option linter.unusedVariables false
namespace Go.Proofs.Ytjclofkkpgdjnaa
open Go Go.RowKit GfM
def colGo (c f : Nat → Nat) (k : Nat) : Nat → Nat
  | 0 => 0
  | j + 1 => colGo c f k j ^^^ gmul (f j) (c ((k + j) % 4))
def colN (c f : Nat → Nat) (k : Nat) : Nat := colGo c f k 4
/-- the sums so far -/
def outC (c f : Nat → Nat) (i j k : Nat) : Nat := if k < i then colN c f k else if k = i then colGo c f k j else 0
theorem colGo_lt (c f : Nat → Nat) (hf : ∀ j, j < 4 → f j < 256) (k j : Nat) (hj : j ≤ 4) : colGo c f k j < 256 := by
  induction j with
  | zero => show 0 < 256; omega
  | succ j ih => exact xor_lt _ _ (ih (by omega)) (gmul_lt _ _ (hf j (by omega)))
theorem outC_set (c f : Nat → Nat) (i j : Nat) (hi : i < 4) : (v4 (outC c f i j)).setIfInBounds i (.int .u8 (colGo c f i (j + 1) : Int)) = v4 (outC c f i (j + 1)) := by
  match i, hi with
  | 0, _ => simp [v4, outC]
  | 1, _ => simp [v4, outC]
  | 2, _ => simp [v4, outC]
  | 3, _ => simp [v4, outC]
theorem outC_next (c f : Nat → Nat) (i : Nat) : v4 (outC c f i 4) = v4 (outC c f (i + 1) 0) := by
  refine v4_ext fun k _ => ?_
  unfold outC
  by_cases h : k < i
  · rw [if_pos h, if_pos (by omega)]
  · rw [if_neg h]
    by_cases h2 : k = i
    · rw [if_pos h2, if_pos (by omega)]; rfl
    · rw [if_neg h2, if_neg (by omega)]
      by_cases h3 : k = i + 1
      · rw [if_pos h3]; rfl
      · rw [if_neg h3]
theorem outC_full (c f : Nat → Nat) : v4 (outC c f 4 0) = v4 (colN c f) := v4_ext fun k hk => by unfold outC; rw [if_pos hk]
theorem outC_zero (c f : Nat → Nat) : v4 (outC c f 0 0) = #[.int .u8 0, .int .u8 0, .int .u8 0, .int .u8 0] := by simp [v4, outC, colGo]
def ColRel (w : World) (c f : Nat → Nat) (i j : Nat) (wr : World) : Prop :=
  wr.heap[w.heap.size]? = some (.cells (v4 c) 133 (0, 0)) ∧ wr.heap[w.heap.size + 1]? = some (.cells (v4 f) 133 (0, 0)) ∧
  wr.heap[w.heap.size + 1 + 1]? = some (.cells (v4 (cutf c 0)) 133 (0, 0)) ∧
  wr.heap[w.heap.size + 1 + 1 + 1]? = some (.cells (v4 (outC c f i j)) 133 (0, 0)) ∧ w.heap.size + 3 < wr.heap.size ∧ Below w.heap.size w wr
theorem ColRel.start (w : World) (c f : Nat → Nat) :
    ColRel w c f 0 0 ((((w.alloc (.cells (v4 c) 133)).alloc (.cells (v4 f) 133)).alloc (.cells #[.int .u8 0, .int .u8 0, .int .u8 0, .int .u8 0] 133)).alloc (.cells #[.int .u8 0, .int .u8 0, .int .u8 0, .int .u8 0] 133)) := by
  refine ⟨?_, ?_, ?_, ?_, by simp, (((((Below.refl _ _).alloc (Nat.le_refl _) _).alloc (by simp) _).alloc (by simp; omega) _).alloc (by simp; omega) _)⟩
  · rw [heap_old _ _ _ (by simp; omega), heap_old _ _ _ (by simp; omega), heap_old _ _ _ (by simp), heap_new]
  · rw [heap_old _ _ _ (by simp), heap_old _ _ _ (by simp), show w.heap.size + 1 = (w.alloc (.cells (v4 c) 133)).heap.size by simp, heap_new]
  · rw [heap_old _ _ _ (by simp), show w.heap.size + 1 + 1 = ((w.alloc (.cells (v4 c) 133)).alloc (.cells (v4 f) 133)).heap.size by simp, heap_new]; rfl
  · rw [show w.heap.size + 1 + 1 + 1 = (((w.alloc (.cells (v4 c) 133)).alloc (.cells (v4 f) 133)).alloc (.cells #[.int .u8 0, .int .u8 0, .int .u8 0, .int .u8 0] 133)).heap.size by simp, heap_new, outC_zero]
theorem ColRel.next {w wr : World} {c f : Nat → Nat} {i j : Nat} (h : ColRel w c f i j wr) (hi : i < 4) :
    ColRel w c f i (j + 1) (wr.setCell ⟨w.heap.size + 1 + 1 + 1, i, none⟩ (.int .u8 (colGo c f i (j + 1) : Int))) := by
  obtain ⟨h0, h1, h2, h3, hz, hb⟩ := h
  have e := block_set h3 i (.int .u8 (colGo c f i (j + 1) : Int))
  rw [outC_set c f i j hi] at e
  exact ⟨(Below.heap_setCell _ _ _ _ (by simp; omega)).trans h0, (Below.heap_setCell _ _ _ _ (by simp)).trans h1, (Below.heap_setCell _ _ _ _ (by simp)).trans h2, e, by simp [World.setCell]; exact hz, hb.setCell (by simp; omega) _⟩
theorem ColRel.drew {w wr : World} {c f : Nat → Nat} {i j : Nat} (h : ColRel w c f i j wr) : ColRel w c f i j wr.drew := by
  obtain ⟨h0, h1, h2, h3, hz, hb⟩ := h
  exact ⟨h0, h1, h2, h3, hz, hb.drew⟩
theorem ColRel.turn {w wr : World} {c f : Nat → Nat} {i : Nat} (h : ColRel w c f i 4 wr) : ColRel w c f (i + 1) 0 wr := by
  unfold ColRel at *; rw [← outC_next]; exact h
end Go.Proofs.Ytjclofkkpgdjnaa
