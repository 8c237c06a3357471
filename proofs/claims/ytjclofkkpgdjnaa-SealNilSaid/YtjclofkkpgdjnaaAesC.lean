/- Contracts of state.sub, state.unsub. -/
import Derived.Test.YtjclofkkpgdjnaaAesB
set_option linter.unusedVariables false
namespace Go.Proofs.Ytjclofkkpgdjnaa
open Go Go.RowKit GfM
theorem st17 : (Try.prog.info? 148).map (·.size) = some 17 := by kernel_rfl
theorem stA_one (l : List Nat) (b : Nat) : (stA l b).all (·.oneCell') = true := by
  rw [← Array.all_toList]; simp [stA, bA, Value.oneCell']
def ssubL (l : List Nat) : List Nat := (List.range 16).map fun k => sbx (l.getD k 0)
set_option maxRecDepth 100000 in
set_option maxHeartbeats 2000000 in
theorem ssub_c (l : List Nat) (hl : l.length = 16) (hb : ∀ j, j < 16 → l.getD j 0 < 256) (b : Nat) (w : World) (hB : IsBox w b) :
    Calls Try.prog 76 #[.agg (stA l b)] w fun e w' => e = .returned (.agg (stA (ssubL l) b)) ∧ Below w.heap.size w w' := by
  have b0 : ∀ (o1 : Obj), ((w.alloc (Obj.cells (stA l b) 148)).alloc o1).heap[w.heap.size]? = some (.cells (stA (upd (fun k => sbx (l.getD k 0)) l 0) b) 148 (0, 0)) := fun o1 => by
    rw [heap_old' _ _ _ (by simp), heap_new', upd_zero]
  have b2 : ∀ (o0 : Obj) (Z : Array Value), ((w.alloc o0).alloc (Obj.cells Z 148)).heap[w.heap.size + 1]? = some (.cells Z 148 (0, 0)) := fun o0 Z => by
    rw [show w.heap.size + 1 = (w.alloc o0).heap.size by simp, heap_new']
  have B0 := Lib.hid b0
  have B2 := Lib.hid b2
  have HL := Lib.hid hl
  have HV := Lib.hid hb
  have HB := Lib.hid hB
  clear b0 b2 hl hb hB
  go_enter Try.func76, Try.ntmps76
  go_wp2
  go_loopw [4] (fun vi wr => ∃ k : Nat, k ≤ 16 ∧ vi = .int .i64 k ∧ Hid (wr.heap[w.heap.size]? = some (.cells (stA (upd (fun k => sbx (l.getD k 0)) l k) b) 148 (0, 0))) ∧ Hid (∃ Z, Z.size = 17 ∧ wr.heap[w.heap.size + 1]? = some (.cells Z 148 (0, 0))) ∧ Hid (Below w.heap.size w wr)) (fun vi _ => 16 - (intOf vi).toNat)
  case atStart => exact ⟨0, by omega, rfl, B0.out _, ⟨_, rfl, B2.out _ _⟩, (((Below.refl _ _).alloc (Nat.le_refl _) _).alloc (by simp) _)⟩
  case round =>
    clear B0 B2
    obtain ⟨k, hk, rfl, h0, h2, hbel⟩ := hrel
    have hlen : (upd (fun k => sbx (l.getD k 0)) l k).length = 16 := by rw [upd_len _ _ _ (by rw [HL.out]; exact hk), HL.out]
    by_cases hlt : k < 16
    · have c0 := (cells_at h0.out k).trans (stA_get _ b k (by omega))
      rw [upd_get] at c0
      have c1 := (cells_at h0.out 16).trans (stA_box _ b hlen)
      have f0 := free_at h0.out k
      have HM : Hid (∀ w, IsBox w b → Calls Try.prog 100 #[.pointer (some ⟨b, 0, none⟩), .int .u8 (l.getD k 0 : Int)] w fun e w' => e = .returned (.int .u8 (sbx (l.getD k 0) : Int)) ∧ w' = w) := fun w h => sub_same b _ (HV.out k hlt) w h
      have HBX : Hid (IsBox wr.drew b) := HB.out.later hbel.out.drew HB.out.lt
      obtain ⟨v, hv⟩ : ∃ v, v = l.getD k 0 := ⟨_, rfl⟩
      have HVV := Lib.hid hv
      rw [← hv] at c0 HM
      have HLEN := Lib.hid hlen
      clear hv hlen
      have hd : decide ((k : Int) < 16) = true := by simp; omega
      go_wp2
      have d6 : (k : Int) < 16 := by omega
      refine wp_region_still_tail 10 (by kernel_rfl) (by kernel_rfl) ?_
      simp only [List.take_succ_cons, List.take_zero, List.drop_succ_cons, List.drop_zero]
      change wpStill _ _ wr.drew _ _ _
      repeat still_step
      still_call (HM.out _ HBX.out)
      repeat still_step
      refine wpStill_nil ?_
      change wpList _ _ _ _ _ wr.drew
      have n0 := block_at h0.out k (.int .u8 ((sbx v : Nat) : Int))
      rw [stA_set _ _ _ _ (by rw [HLEN.out]; exact hlt), HVV.out, upd_set _ _ _ (by rw [HL.out]; exact hlt), ← HVV.out] at n0
      have N0 := Lib.hid n0
      clear n0
      go_wp2
      go_roundw
      case rel =>
        obtain ⟨Z, hZ, hZ2⟩ := h2.out
        exact ⟨k + 1, by omega, by go_num, N0.out, ⟨Z, hZ, (Below.heap_setCell _ _ _ _ (by simp)).trans hZ2⟩, (hbel.out.setCell (by simp) _).drew⟩
      case measure => simp [intOf]; omega
    · obtain rfl : k = 16 := by omega
      have h3 := h0
      rw [upd_full _ _ 16 HL.out] at h3
      obtain ⟨Z, hZ, hZ2⟩ := h2.out
      have HZ := Lib.hid hZ
      have HZ2 := Lib.hid hZ2
      clear hZ hZ2 h2 hlen
      go_wp2_with (first
        | (refine wpList_load_row rfl 148 (.tmp 1) rfl w.heap.size rfl _ _ _ _ h3.out Try.underlying148 rfl (by rw [st17, stA_size]; simp) ?_)
        | (refine wpList_store_row rfl 148 (.tmp 2) (.tmp 18) rfl (w.heap.size + 1) _ rfl rfl 148 _ HZ2.out (by rw [st17, stA_size]; simp) (by rw [HZ.out, stA_size]; simp) (stA_one _ _) ?_))
      exact bodyPost_ret (results_cell_row rfl _ _ (w.heap.size + 1) 148 (stA (ssubL l) b) (0, 0) _ rfl (setRow_heap _ _ _ _ _ _ HZ2.out) Try.underlying148 rfl (by rw [st17, stA_size]; simp [ssubL])) rfl ⟨rfl, below_setRow hbel.out (by omega) _⟩
def sunsubL (l : List Nat) : List Nat := (List.range 16).map fun k => bkx (l.getD k 0)
end Go.Proofs.Ytjclofkkpgdjnaa
