/- Contracts of Room.Most, of the law's plain and awake, and the walk of GaugeMost. -/
import Derived.Test.YtnmjkdmhfogeiaaGauB
import Derived.Test.YtnmjkdmhfogeiaaCat
import Derived.Laws.CopyOwn
set_option linter.unusedVariables false
namespace Go.Proofs.Ytnmjkdmhfogeiaa
open Go Go.RowKit
theorem room10 : (Try.prog.info? 24).map (·.size) = some 10 := by kernel_rfl
theorem rroom10 : (Try.prog.info? 27).map (·.size) = some 10 := by kernel_rfl
def mostGo (f l : Int) (s : Nat → Int) : Nat → Nat
  | 0 => 0
  | n + 1 => if fitB f l s ((n + 1 : Nat) : Int) = true then n + 1 else mostGo f l s n
theorem mostGo_fit (f l : Int) (s : Nat → Int) (n : Nat) : mostGo f l s n = 0 ∨ fitB f l s (mostGo f l s n : Int) = true := by
  induction n with
  | zero => exact .inl rfl
  | succ n ih =>
    unfold mostGo
    by_cases h : fitB f l s ((n + 1 : Nat) : Int) = true
    · rw [if_pos h]; exact .inr h
    · rw [if_neg h]; exact ih
theorem mostGo_le (f l : Int) (s : Nat → Int) (n : Nat) : mostGo f l s n ≤ n := by
  induction n with
  | zero => exact Nat.le_refl _
  | succ n ih => unfold mostGo; split <;> omega
theorem mostGo_max (f l : Int) (s : Nat → Int) (n k : Nat) (hk : k ≤ n) (hf : fitB f l s (k : Int) = true) : k ≤ mostGo f l s n := by
  induction n with
  | zero => omega
  | succ n ih =>
    unfold mostGo
    by_cases h : fitB f l s ((n + 1 : Nat) : Int) = true
    · rw [if_pos h]; exact hk
    · rw [if_neg h]
      by_cases e : k = n + 1
      · subst e; exact absurd hf h
      · exact ih (by omega)
theorem mostGo_step (f l : Int) (s : Nat → Int) (k : Nat) (h : 0 < k) : mostGo f l s k = if fitB f l s (k : Int) = true then k else mostGo f l s (k - 1) := by
  obtain ⟨j, rfl⟩ : ∃ j, k = j + 1 := ⟨k - 1, by omega⟩
  rfl
theorem fitB_range (f l : Int) (s : Nat → Int) (n : Int) (h : fitB f l s n = true) : 1 ≤ n ∧ n ≤ 4096 := by
  unfold fitB at h
  by_cases h1 : 1 ≤ n ∧ n ≤ 120
  · omega
  · rw [if_neg h1] at h
    by_cases h2 : 120 < n ∧ n ≤ 4096
    · omega
    · rw [if_neg h2] at h; cases h
set_option maxRecDepth 100000 in
set_option maxHeartbeats 1000000 in
theorem most_c (f l : Int) (s : Nat → Int) (w : World) :
    Calls Try.prog 26 #[.agg (rA f l s)] w fun e w' => e = .returned (.int .i64 (mostGo f l s 4096 : Int)) ∧ Below w.heap.size w w' := by
  have h0 : (w.alloc (.cells (rA f l s) 24)).heap[w.heap.size]? = some (.cells (rA f l s) 24 (0, 0)) := heap_new' _ _
  have H0 := Lib.hid h0
  clear h0
  go_enter Try.func26, Try.ntmps26
  go_wp2
  go_loopw [3] (fun vi wr => ∃ k : Nat, k ≤ 4096 ∧ vi = .int .i64 k ∧ Hid (wr.heap[w.heap.size]? = some (.cells (rA f l s) 24 (0, 0))) ∧ Hid (Below w.heap.size w wr) ∧ Hid (mostGo f l s k = mostGo f l s 4096)) (fun vi _ => (intOf vi).toNat)
  case atStart => exact ⟨4096, by omega, rfl, H0, (Below.refl _ _).alloc (Nat.le_refl _) _, rfl⟩
  case round =>
    clear H0
    obtain ⟨k, hk, rfl, hb, hbel, hm⟩ := hrel
    by_cases hlt : 0 < k
    · have hz : w.heap.size < wr.heap.size := lt_of_block hb.out
      have hst := mostGo_step f l s k hlt
      by_cases hf : fitB f l s (k : Int) = true
      · have HM : Hid (k = mostGo f l s 4096) := by
          have h2 := hm.out; rw [hst, if_pos hf] at h2; exact h2
        clear hm hst
        go_wp2_with (first
          | (refine wpList_load_row rfl 24 (.tmp 1) rfl w.heap.size rfl _ _ _ _ hb.out Try.underlying24 rfl (by rw [room10]; rfl) ?_)
          | (go_at_call 23; refine (fits_c f l s _ _).mono ?_; rintro e w1 ⟨rfl, hb1⟩))
        go_ret
        exact ⟨ret_i (by rw [← HM.out]), hbel.out.trans (hb1.mono (by omega))⟩
      · have hf' : fitB f l s (k : Int) = false := by simpa using hf
        have HM : Hid (mostGo f l s (k - 1) = mostGo f l s 4096) := by
          have h2 := hm.out; rw [hst, if_neg hf] at h2; exact h2
        clear hm hst hf
        go_wp2_with (first
          | (refine wpList_load_row rfl 24 (.tmp 1) rfl w.heap.size rfl _ _ _ _ hb.out Try.underlying24 rfl (by rw [room10]; rfl) ?_)
          | (go_at_call 23; refine (fits_c f l s _ _).mono ?_; rintro e w1 ⟨rfl, hb1⟩))
        go_roundw
        case rel => exact ⟨k - 1, by omega, vint (by omega), (hb1.block _ hz).trans hb.out, hbel.out.trans (hb1.mono (by omega)), HM⟩
        case measure => simp [intOf]; omega
    · obtain rfl : k = 0 := by omega
      have HM : Hid (0 = mostGo f l s 4096) := hm
      clear hm
      go_wp2
      go_ret
      exact ⟨ret_i (by rw [← HM.out]; rfl), hbel.out⟩
def cutS (s : Nat → Int) (k j : Nat) : Int := if j < k then s j else 0
theorem rA_set (f l : Int) (s : Nat → Int) (k : Nat) (h : k < 8) : (rA f l (cutS s k)).setIfInBounds (2 + k) (.int .i64 (s k)) = rA f l (cutS s (k + 1)) := by
  have hc : k = 0 ∨ k = 1 ∨ k = 2 ∨ k = 3 ∨ k = 4 ∨ k = 5 ∨ k = 6 ∨ k = 7 := by omega
  rcases hc with rfl | rfl | rfl | rfl | rfl | rfl | rfl | rfl <;> rfl
theorem rA_full (f l : Int) (s : Nat → Int) : rA f l (cutS s 8) = rA f l s := rfl
set_option maxRecDepth 100000 in
set_option maxHeartbeats 2000000 in
theorem plain_c26 (f l : Int) (s : Nat → Int) (w : World) :
    Calls Try.prog 25 #[.agg (rA f l s)] w fun e w' => e = .returned (.agg (rA f l s)) ∧ Below w.heap.size w w' := by
  have r0 : (rA f l s)[0]? = some (.int .i64 f) := rfl
  have r1 : (rA f l s)[1]? = some (.int .i64 l) := rfl
  have b0 : ∀ (o1 o2 : Obj), (((w.alloc (Obj.cells (rA f l s) 24)).alloc o1).alloc o2).heap[w.heap.size]? = some (.cells (rA f l s) 24 (0, 0)) := fun o1 o2 => by
    rw [heap_old' _ _ _ (by simp; omega), heap_old' _ _ _ (by simp), heap_new']
  have b1 : ∀ (o0 o2 : Obj), (((w.alloc o0).alloc (Obj.cells (rA 0 0 (cutS s 0)) 27)).alloc o2).heap[w.heap.size + 1]? = some (.cells (rA 0 0 (cutS s 0)) 27 (0, 0)) := fun o0 o2 => by
    rw [heap_old' _ _ _ (by simp), show w.heap.size + 1 = (w.alloc o0).heap.size by simp, heap_new']
  have b2 : ∀ (o0 o1 : Obj), (((w.alloc o0).alloc o1).alloc (Obj.cells (rA f l (cutS s 0)) 27)).heap[w.heap.size + 1 + 1]? = some (.cells (rA f l (cutS s 0)) 27 (0, 0)) := fun o0 o1 => by
    rw [show w.heap.size + 1 + 1 = ((w.alloc o0).alloc o1).heap.size by simp, heap_new']
  have B0 := Lib.hid b0
  have B1 := Lib.hid b1
  have B2 := Lib.hid b2
  clear b0 b1 b2
  go_enter Try.func25, Try.ntmps25
  go_wp2
  clear r0 r1
  go_loopw [10] (fun vi wr => ∃ k : Nat, k ≤ 8 ∧ vi = .int .i64 k ∧ Hid (wr.heap[w.heap.size]? = some (.cells (rA f l s) 24 (0, 0))) ∧ Hid (wr.heap[w.heap.size + 1]? = some (.cells (rA 0 0 (cutS s 0)) 27 (0, 0))) ∧ Hid (wr.heap[w.heap.size + 1 + 1]? = some (.cells (rA f l (cutS s k)) 27 (0, 0))) ∧ Hid (Below w.heap.size w wr)) (fun vi _ => 8 - (intOf vi).toNat)
  case atStart => exact ⟨0, by omega, rfl, B0.out _ _, B1.out _ _, B2.out _ _, ((((Below.refl _ _).alloc (Nat.le_refl _) _).alloc (by simp) _).alloc (by simp; omega) _)⟩
  case round =>
    clear B0 B1 B2
    obtain ⟨k, hk, rfl, h0, h1, h2, hbel⟩ := hrel
    by_cases hlt : k < 8
    · have c0 := (cells_at h0.out (2 + k)).trans (rA_slot f l s k hlt)
      have c2 := (cells_at h2.out (2 + k)).trans (rA_slot f l (cutS s k) k hlt)
      have f2 := free_at h2.out (2 + k)
      go_wp2
      go_roundw
      case rel =>
        have n2 := block_at h2.out (2 + k) (.int .i64 (s k))
        rw [rA_set f l s k hlt] at n2
        exact ⟨k + 1, by omega, by go_num, (Below.heap_setCell _ _ _ _ (by simp; omega)).trans h0.out, (Below.heap_setCell _ _ _ _ (by simp)).trans h1.out, n2, hbel.out.setCell (by simp; omega) _⟩
      case measure => simp [intOf]; omega
    · obtain rfl : k = 8 := by omega
      have h3 := h2
      rw [rA_full] at h3
      go_wp2_with (first
        | (refine wpList_load_row rfl 27 (.tmp 3) rfl (w.heap.size + 1 + 1) rfl _ _ _ _ h3.out Try.underlying27 rfl (by rw [rroom10]; rfl) ?_)
        | (refine wpList_store_row rfl 27 (.tmp 2) (.tmp 21) rfl (w.heap.size + 1) _ rfl rfl 27 _ h1.out (by rw [rroom10]; rfl) rfl (by rw [← Array.all_toList]; rfl) ?_))
      exact bodyPost_ret (results_cell_row rfl _ _ (w.heap.size + 1) 27 (rA f l s) (0, 0) _ rfl (setRow_heap _ _ _ _ _ _ h1.out) Try.underlying27 rfl (by rw [rroom10]; rfl)) rfl ⟨rfl, below_setRow hbel.out (by omega) _⟩
end Go.Proofs.Ytnmjkdmhfogeiaa
