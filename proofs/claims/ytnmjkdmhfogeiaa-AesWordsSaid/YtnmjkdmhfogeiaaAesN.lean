/- A cipher that is not there; aes.New where it refuses. -/
import Derived.Test.YtnmjkdmhfogeiaaAesR
import Derived.Test.YtnmjkdmhfogeiaaAesW
set_option linter.unusedVariables false
set_option linter.unusedSimpArgs false
namespace Go.Proofs.Ytnmjkdmhfogeiaa
open Go Go.RowKit GfM
theorem zero4n : (Try.prog.info? 49).map (·.size) = some 4 := by kernel_rfl
def zA16 : Array Value := #[.int .u8 0, .int .u8 0, .int .u8 0, .int .u8 0, .int .u8 0, .int .u8 0, .int .u8 0, .int .u8 0, .int .u8 0, .int .u8 0, .int .u8 0, .int .u8 0, .int .u8 0, .int .u8 0, .int .u8 0, .int .u8 0]
set_option maxRecDepth 100000 in
set_option maxHeartbeats 2000000 in
theorem encrypt_nil (l : List Nat) (w : World) : Calls Try.prog 46 #[.pointer none, .agg (bA l)] w fun e w' => e = .returned (.agg zA16) ∧ Below w.heap.size w w' := by
  have B1 : Hid (∀ (o0 : Obj) (Z : Array Value), ((w.alloc o0).alloc (Obj.cells Z 44)).heap[w.heap.size + 1]? = some (.cells Z 44 (0, 0))) := fun o0 Z => by
    rw [show w.heap.size + 1 = (w.alloc o0).heap.size by simp, heap_new']
  have HB : Hid (∀ (o0 o1 : Obj), Below w.heap.size w ((w.alloc o0).alloc o1)) := fun o0 o1 => ((Below.refl _ _).alloc (Nat.le_refl _) _).alloc (by simp) _
  go_enter Try.func46, Try.ntmps46
  go_wp2
  exact bodyPost_ret (results_cell_row rfl _ _ (w.heap.size + 1) 44 zA16 (0, 0) _ rfl (B1.out _ _) Try.underlying44 rfl (by rw [zero16']; rfl)) rfl ⟨rfl, HB.out _ _⟩
set_option maxRecDepth 100000 in
set_option maxHeartbeats 2000000 in
theorem decrypt_nil (l : List Nat) (w : World) : Calls Try.prog 52 #[.pointer none, .agg (bA l)] w fun e w' => e = .returned (.agg zA16) ∧ Below w.heap.size w w' := by
  have B1 : Hid (∀ (o0 : Obj) (Z : Array Value), ((w.alloc o0).alloc (Obj.cells Z 44)).heap[w.heap.size + 1]? = some (.cells Z 44 (0, 0))) := fun o0 Z => by
    rw [show w.heap.size + 1 = (w.alloc o0).heap.size by simp, heap_new']
  have HB : Hid (∀ (o0 o1 : Obj), Below w.heap.size w ((w.alloc o0).alloc o1)) := fun o0 o1 => ((Below.refl _ _).alloc (Nat.le_refl _) _).alloc (by simp) _
  go_enter Try.func52, Try.ntmps52
  go_wp2
  exact bodyPost_ret (results_cell_row rfl _ _ (w.heap.size + 1) 44 zA16 (0, 0) _ rfl (B1.out _ _) Try.underlying44 rfl (by rw [zero16']; rfl)) rfl ⟨rfl, HB.out _ _⟩
theorem rounds_nil (w : World) : Calls Try.prog 51 #[.pointer none] w fun e w' => e = .returned (.int .i64 0) ∧ w = w' := by
  go_enter Try.func51, Try.ntmps51
  go_wp2
  go_ret
  exact ⟨rfl, rfl⟩
set_option maxRecDepth 100000 in
set_option maxHeartbeats 2000000 in
theorem word_nil (k : Int) (w : World) : Calls Try.prog 50 #[.pointer none, .int .i64 k] w fun e w' => e = .returned (.agg #[.int .u8 0, .int .u8 0, .int .u8 0, .int .u8 0]) ∧ Below w.heap.size w w' := by
  have h0 := heap_new' w (Obj.cells #[.int .u8 0, .int .u8 0, .int .u8 0, .int .u8 0] 49)
  go_enter Try.func50, Try.ntmps50
  go_wp2
  exact bodyPost_ret (results_cell_row rfl _ _ w.heap.size 49 #[.int .u8 0, .int .u8 0, .int .u8 0, .int .u8 0] (0, 0) _ rfl h0 Try.underlying49 rfl (by rw [zero4n]; rfl)) rfl ⟨rfl, (Below.refl _ _).alloc (Nat.le_refl _) _⟩
theorem new_nil (v : Value) (w : World) : Calls Try.prog 45 #[.pointer none, v] w fun e w' => e = .returned (.tuple #[.pointer none, .int .i64 2]) ∧ w = w' := by
  go_enter Try.func45, Try.ntmps45
  go_wp2
  exact bodyPost_ret (v := .tuple #[.pointer none, .int .i64 2]) (by simp [results, Try.f45, go_sem]) rfl ⟨rfl, rfl⟩
theorem new_bad (a : Addr) (v : Option Addr) (len cap : Nat) (h1 : len ≠ 16) (h2 : len ≠ 32) (w : World) : Calls Try.prog 45 #[.pointer (some a), .slice v len cap] w fun e w' => e = .returned (.tuple #[.pointer none, .int .i64 1]) ∧ w = w' := by
  have d1 : ((len : Int) != 16) = true := by simp; omega
  have d2 : ((len : Int) != 32) = true := by simp; omega
  go_enter Try.func45, Try.ntmps45
  go_wp2
  exact bodyPost_ret (v := .tuple #[.pointer none, .int .i64 1]) (by simp [results, Try.f45, go_sem]) rfl ⟨rfl, rfl⟩
end Go.Proofs.Ytnmjkdmhfogeiaa
