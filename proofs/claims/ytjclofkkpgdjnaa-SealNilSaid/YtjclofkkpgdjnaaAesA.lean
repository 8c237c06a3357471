/- Contracts of aes.xor, of Cipher.sub. -/
import Derived.Test.YtjclofkkpgdjnaaAesL
set_option linter.unusedVariables false
namespace Go.Proofs.Ytjclofkkpgdjnaa
open Go Go.RowKit GfM
theorem four4 : (Try.prog.info? 133).map (·.size) = some 4 := by kernel_rfl
def cut4 (g : Nat → Nat) (c : Nat → Nat) (k j : Nat) : Nat := if j < k then g j else c j
theorem cut4_set (g c : Nat → Nat) (k : Nat) (h : k < 4) : (v4 (cut4 g c k)).setIfInBounds k (.int .u8 (g k : Int)) = v4 (cut4 g c (k + 1)) := by
  have hc : k = 0 ∨ k = 1 ∨ k = 2 ∨ k = 3 := by omega
  rcases hc with rfl | rfl | rfl | rfl <;> rfl
theorem cut4_zero (g c : Nat → Nat) : v4 (cut4 g c 0) = v4 c := rfl
theorem cut4_full (g c : Nat → Nat) : v4 (cut4 g c 4) = v4 g := rfl
theorem cut4_at (g c : Nat → Nat) (k : Nat) : cut4 g c k k = c k := by unfold cut4; rw [if_neg (by omega)]
theorem v4_one (g : Nat → Nat) : (v4 g).all (·.oneCell') = true := by rw [← Array.all_toList]; rfl
def xorN (a b : Nat → Nat) (k : Nat) : Nat := a k ^^^ b k
set_option maxRecDepth 100000 in
set_option maxHeartbeats 2000000 in
theorem xor_c (a b : Nat → Nat) (ha : ∀ j, j < 4 → a j < 256) (hb : ∀ j, j < 4 → b j < 256) (w : World) :
    Calls Try.prog 62 #[.agg (v4 a), .agg (v4 b)] w fun e w' => e = .returned (.agg (v4 (xorN a b))) ∧ Below w.heap.size w w' := by
  have b0 : ∀ (o1 o2 : Obj), (((w.alloc (Obj.cells (v4 a) 133)).alloc o1).alloc o2).heap[w.heap.size]? = some (.cells (v4 (cut4 (xorN a b) a 0)) 133 (0, 0)) := fun o1 o2 => by
    rw [heap_old' _ _ _ (by simp; omega), heap_old' _ _ _ (by simp), heap_new', cut4_zero]
  have b1 : ∀ (o0 o2 : Obj), (((w.alloc o0).alloc (Obj.cells (v4 b) 133)).alloc o2).heap[w.heap.size + 1]? = some (.cells (v4 b) 133 (0, 0)) := fun o0 o2 => by
    rw [heap_old' _ _ _ (by simp), show w.heap.size + 1 = (w.alloc o0).heap.size by simp, heap_new']
  have b2 : ∀ (o0 o1 : Obj), (((w.alloc o0).alloc o1).alloc (Obj.cells (v4 (cutf a 0)) 133)).heap[w.heap.size + 1 + 1]? = some (.cells (v4 (cutf a 0)) 133 (0, 0)) := fun o0 o1 => by
    rw [show w.heap.size + 1 + 1 = ((w.alloc o0).alloc o1).heap.size by simp, heap_new']
  have B0 := Lib.hid b0
  have B1 := Lib.hid b1
  have B2 := Lib.hid b2
  have HA := Lib.hid ha
  have HB := Lib.hid hb
  clear b0 b1 b2 ha hb
  go_enter Try.func62, Try.ntmps62
  go_wp2
  go_loopw [6] (fun vi wr => ∃ k : Nat, k ≤ 4 ∧ vi = .int .i64 k ∧ Hid (wr.heap[w.heap.size]? = some (.cells (v4 (cut4 (xorN a b) a k)) 133 (0, 0))) ∧ Hid (wr.heap[w.heap.size + 1]? = some (.cells (v4 b) 133 (0, 0))) ∧ Hid (wr.heap[w.heap.size + 1 + 1]? = some (.cells (v4 (cutf a 0)) 133 (0, 0))) ∧ Hid (Below w.heap.size w wr)) (fun vi _ => 4 - (intOf vi).toNat)
  case atStart => exact ⟨0, by omega, rfl, B0.out _ _, B1.out _ _, B2.out _ _, ((((Below.refl _ _).alloc (Nat.le_refl _) _).alloc (by simp) _).alloc (by simp; omega) _)⟩
  case round =>
    clear B0 B1 B2
    obtain ⟨k, hk, rfl, h0, h1, h2, hbel⟩ := hrel
    by_cases hlt : k < 4
    · have c0 := (cells_at h0.out k).trans (v4_get _ k hlt)
      rw [cut4_at] at c0
      have c1 := (cells_at h1.out k).trans (v4_get b k hlt)
      have f0 := free_at h0.out k
      have hd : decide ((k : Int) < 4) = true := by simp; omega
      go_wp2
      have d6 : (k : Int) < 4 := by omega
      refine wp_region_still_tail 8 (by kernel_rfl) (by kernel_rfl) ?_
      simp only [List.take_succ_cons, List.take_zero, List.drop_succ_cons, List.drop_zero]
      change wpStill _ _ wr.drew _ _ _
      repeat still_step
      refine wpStill_nil ?_
      change wpList _ _ _ _ _ wr.drew
      have hx : bits BinOp.xor IntKind.u8 (a k : Int) (b k : Int) = (xorN a b k : Int) := u8x rfl rfl (HA.out k hlt) (HB.out k hlt)
      have n0 := block_at h0.out k (.int .u8 (xorN a b k : Int))
      rw [cut4_set _ _ _ hlt, ← hx] at n0
      have N0 := Lib.hid n0
      clear n0 hx
      go_wp2
      go_roundw
      case rel => exact ⟨k + 1, by omega, by go_num, N0.out, (Below.heap_setCell _ _ _ _ (by simp)).trans h1.out, (Below.heap_setCell _ _ _ _ (by simp; omega)).trans h2.out, (hbel.out.setCell (by simp) _).drew⟩
      case measure => simp [intOf]; omega
    · obtain rfl : k = 4 := by omega
      have h3 := h0
      rw [cut4_full] at h3
      go_wp2_with (first
        | (refine wpList_load_row rfl 133 (.tmp 2) rfl w.heap.size rfl _ _ _ _ h3.out Try.underlying133 rfl (by rw [four4]; rfl) ?_)
        | (refine wpList_store_row rfl 133 (.tmp 4) (.tmp 18) rfl (w.heap.size + 1 + 1) _ rfl rfl 133 _ h2.out (by rw [four4]; rfl) rfl (v4_one _) ?_))
      exact bodyPost_ret (results_cell_row rfl _ _ (w.heap.size + 1 + 1) 133 (v4 (xorN a b)) (0, 0) _ rfl (setRow_heap _ _ _ _ _ _ h2.out) Try.underlying133 rfl (by rw [four4]; rfl)) rfl ⟨rfl, below_setRow hbel.out (by omega) _⟩
end Go.Proofs.Ytjclofkkpgdjnaa
