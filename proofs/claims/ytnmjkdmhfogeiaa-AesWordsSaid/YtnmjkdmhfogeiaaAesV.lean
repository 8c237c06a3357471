/- Contracts of Cipher.Rounds and Cipher.Word of a cipher that is there. -/
import Derived.Test.YtnmjkdmhfogeiaaAesN
set_option linter.unusedVariables false
set_option linter.unusedSimpArgs false
namespace Go.Proofs.Ytnmjkdmhfogeiaa
open Go Go.RowKit GfM
theorem rounds_c {c b g n cap r : Nat} {W : List Nat} (w : World) (hC : Cip w c b g n cap r W) : Calls Try.prog 51 #[.pointer (some ⟨c, 0, none⟩)] w fun e w' => e = .returned (.int .i64 (r : Int)) ∧ w = w' := by
  have c2 := hC.c2
  clear hC
  go_enter Try.func51, Try.ntmps51
  go_wp2
  go_ret
  exact ⟨rfl, rfl⟩
set_option maxRecDepth 100000 in
set_option maxHeartbeats 2000000 in
theorem word_out {c b g n cap r : Nat} {W : List Nat} (k : Int) (hk : k < 0 ∨ (n : Int) ≤ k) (w : World) (hC : Cip w c b g n cap r W) : Calls Try.prog 50 #[.pointer (some ⟨c, 0, none⟩), .int .i64 k] w fun e w' => e = .returned (.agg #[.int .u8 0, .int .u8 0, .int .u8 0, .int .u8 0]) ∧ Below w.heap.size w w' := by
  have h0 := heap_new' w (Obj.cells #[.int .u8 0, .int .u8 0, .int .u8 0, .int .u8 0] 49)
  have c1 : ∀ o, (w.alloc o).cell? ⟨c, 1, none⟩ = some (.slice (some ⟨g, 0, none⟩) n cap) := fun o => (hC.up ((Below.refl _ _).alloc (Nat.le_refl _) o) (Nat.le_refl _)).c1
  clear hC
  by_cases hn : k < 0
  · have hd : decide (k < 0) = true := by simp; omega
    go_enter Try.func50, Try.ntmps50
    go_wp2
    exact bodyPost_ret (results_cell_row rfl _ _ w.heap.size 49 #[.int .u8 0, .int .u8 0, .int .u8 0, .int .u8 0] (0, 0) _ rfl h0 Try.underlying49 rfl (by rw [zero4n]; rfl)) rfl ⟨rfl, (Below.refl _ _).alloc (Nat.le_refl _) _⟩
  · have hd : decide (k < 0) = false := by simp; omega
    have hd2 : (n : Int) ≤ k := by omega
    go_enter Try.func50, Try.ntmps50
    go_wp2
    exact bodyPost_ret (results_cell_row rfl _ _ w.heap.size 49 #[.int .u8 0, .int .u8 0, .int .u8 0, .int .u8 0] (0, 0) _ rfl h0 Try.underlying49 rfl (by rw [zero4n]; rfl)) rfl ⟨rfl, (Below.refl _ _).alloc (Nat.le_refl _) _⟩
set_option maxRecDepth 100000 in
set_option maxHeartbeats 2000000 in
theorem word_in {c b g n cap r : Nat} {W : List Nat} (k : Nat) (hk : k < n) (w : World) (hC : Cip w c b g n cap r W) : Calls Try.prog 50 #[.pointer (some ⟨c, 0, none⟩), .int .i64 (k : Int)] w fun e w' => e = .returned (.agg (v4 (colOf W k))) ∧ Below w.heap.size w w' := by
  have h0 := heap_new' w (Obj.cells #[.int .u8 0, .int .u8 0, .int .u8 0, .int .u8 0] 49)
  have hup : ∀ o, Cip (w.alloc o) c b g n cap r W := fun o => hC.up ((Below.refl _ _).alloc (Nat.le_refl _) o) (Nat.le_refl _)
  have c1 : ∀ o, (w.alloc o).cell? ⟨c, 1, none⟩ = some (.slice (some ⟨g, 0, none⟩) n cap) := fun o => (hup o).c1
  have hr : ∀ o, (w.alloc o).rangeAt g (k * 4) (v4 (colOf W k)).toList := fun o => by have := range_word (hup o) k hk; rw [Nat.mul_comm] at this; exact this
  have HR := Lib.hid hr
  have H0 := Lib.hid h0
  have hd : ¬ (k : Int) < 0 := by omega
  have hd2 : ¬ (n : Int) ≤ (k : Int) := by omega
  have hd3 : (k : Int) < (n : Int) := by omega
  clear hC hup hr h0
  go_enter Try.func50, Try.ntmps50
  go_wp2_with (first
    | (refine wpList_load_mid rfl 49 (.tmp 26) rfl g (k * 4) rfl (v4 (colOf W k)).toList _ (HR.out _) Try.underlying49 rfl (by rw [four4]; simp [v4]) ?_)
    | (refine wpList_store_row rfl 49 (.tmp 4) (.tmp 27) rfl w.heap.size (v4 (colOf W k)) rfl rfl 49 _ H0.out (by rw [four4]; simp [v4]) (by simp [v4]) (v4_one _) ?_)
    | fail)
  exact bodyPost_ret (results_cell_row rfl _ _ w.heap.size 49 (v4 (colOf W k)) (0, 0) _ rfl (setRow_heap _ _ _ _ _ _ H0.out) Try.underlying49 rfl (by rw [four4]; simp [v4])) rfl ⟨rfl, below_setRow ((Below.refl _ _).alloc (Nat.le_refl _) _) (Nat.le_refl _) _⟩
end Go.Proofs.Ytnmjkdmhfogeiaa
