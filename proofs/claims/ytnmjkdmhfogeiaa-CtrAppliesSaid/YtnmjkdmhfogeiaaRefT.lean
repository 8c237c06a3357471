/- Contract of the reference's Table (02). Printed by gen_table.py. -/
import Derived.Test.YtnmjkdmhfogeiaaRefA
import Derived.Test.YtnmjkdmhfogeiaaGfF
import Derived.Deep.CutRange
import Derived.Deep.MidRow
set_option linter.unusedVariables false
set_option linter.unusedSimpArgs false
namespace Go.Proofs.Ytnmjkdmhfogeiaa
open Go Go.RowKit GfM
theorem t256 : (Try.prog.info? 64).map (·.size) = some 256 := by kernel_rfl
theorem z256 : (Try.zeroCells64 : Array Value) = bA (List.replicate 256 0) := by
  kernel_rfl
def sbL : List Nat := (List.range 256).map sbx
theorem sbL_len : sbL.length = 256 := by simp [sbL]
/-- the way back's array behind k rounds -/
def bkG : Nat → List Nat
  | 0 => List.replicate 256 0
  | k + 1 => (bkG k).set (sbx k) k
theorem bkG_len : ∀ k, (bkG k).length = 256
  | 0 => List.length_replicate
  | k + 1 => by rw [bkG, List.length_set]; exact bkG_len k
set_option maxRecDepth 100000 in
set_option maxHeartbeats 4000000 in
theorem table_c (w : World) :
    Calls Try.prog 83 #[] w fun e w' => ∃ B, e = .returned (.tuple #[.agg (bA sbL), .agg (bA B)]) ∧ Below w.heap.size w w' := by
  have hz := z256
  have b0 : ∀ (o1 o2 o3 : Obj) (Z : Array Value), ((((w.alloc (Obj.cells Z 64)).alloc o1).alloc o2).alloc o3).heap[w.heap.size]? = some (.cells Z 64 (0, 0)) := fun o1 o2 o3 Z => by
    rw [heap_old' _ _ _ (by simp <;> omega), heap_old' _ _ _ (by simp <;> omega), heap_old' _ _ _ (by simp), heap_new']
  have b1 : ∀ (o0 o2 o3 : Obj) (Z : Array Value), ((((w.alloc o0).alloc (Obj.cells Z 64)).alloc o2).alloc o3).heap[w.heap.size + 1]? = some (.cells Z 64 (0, 0)) := fun o0 o2 o3 Z => by
    rw [heap_old' _ _ _ (by simp <;> omega), heap_old' _ _ _ (by simp), show w.heap.size + 1 = (w.alloc o0).heap.size by simp, heap_new']
  have b2 : ∀ (o0 o1 o3 : Obj), ((((w.alloc o0).alloc o1).alloc (Obj.cells (Try.zeroCells64) 64)).alloc o3).heap[w.heap.size + 1 + 1]? = some (.cells (bA (upd sbx (List.replicate 256 0) 0)) 64 (0, 0)) := fun o0 o1 o3 => by
    rw [upd_zero, hz, heap_old' _ _ _ (by simp), show w.heap.size + 1 + 1 = ((w.alloc o0).alloc o1).heap.size by simp, heap_new']
  have b3 : ∀ (o0 o1 o2 : Obj), ((((w.alloc o0).alloc o1).alloc o2).alloc (Obj.cells (Try.zeroCells64) 64)).heap[w.heap.size + 1 + 1 + 1]? = some (.cells (bA (bkG 0)) 64 (0, 0)) := fun o0 o1 o2 => by
    rw [hz, show w.heap.size + 1 + 1 + 1 = (((w.alloc o0).alloc o1).alloc o2).heap.size by simp, heap_new']; rfl
  have zs : (Try.zeroCells64 : Array Value).size = 256 := by rw [hz, bA_size]; simp
  have HBW : Hid (∀ (o0 o1 o2 o3 : Obj), Below w.heap.size w ((((w.alloc o0).alloc o1).alloc o2).alloc o3)) := fun o0 o1 o2 o3 => ((((Below.refl _ _).alloc (Nat.le_refl _) _).alloc (by simp) _).alloc (by simp <;> omega) _).alloc (by simp <;> omega) _
  have B0 := Lib.hid b0
  have B1 := Lib.hid b1
  have B2 := Lib.hid b2
  have B3 := Lib.hid b3
  have ZS := Lib.hid zs
  clear b0 b1 b2 b3 zs hz
  go_enter Try.func83, Try.ntmps83
  go_wp2
  go_loopw [4] (fun vi wr => ∃ k : Nat, k ≤ 256 ∧ vi = .int .i64 (k : Int) ∧ Hid (∃ Z, Z.size = 256 ∧ wr.heap[w.heap.size]? = some (.cells Z 64 (0, 0))) ∧ Hid (∃ Z, Z.size = 256 ∧ wr.heap[w.heap.size + 1]? = some (.cells Z 64 (0, 0))) ∧
    Hid (wr.heap[w.heap.size + 1 + 1]? = some (.cells (bA (upd sbx (List.replicate 256 0) k)) 64 (0, 0))) ∧ Hid (wr.heap[w.heap.size + 1 + 1 + 1]? = some (.cells (bA (bkG k)) 64 (0, 0))) ∧ Hid (Below w.heap.size w wr)) (fun vi _ => 256 - (intOf vi).toNat)
  case atStart => exact ⟨0, by omega, rfl, ⟨_, ZS.out, B0.out _ _ _ _⟩, ⟨_, ZS.out, B1.out _ _ _ _⟩, B2.out _ _ _, B3.out _ _ _, HBW.out _ _ _ _⟩
  case round =>
    clear B0 B1 B2 B3 HBW
    obtain ⟨k, hk, rfl, h0, h1, h2, h3, hbel⟩ := hrel
    by_cases hlt : k < 256
    · have hd : decide ((k : Int) < 256) = true := by simp; omega
      have e1 : IntKind.u8.wrap (k : Int) = (k : Int) := by rw [IntKind.wrap_u8]; omega
      have d6 : (k : Int) < 256 := by omega
      have hsl := sbx_lt k hlt
      have HSX : Hid (∀ w, Calls Try.prog 36 #[.int .u8 (k : Int)] w fun e w' => e = .returned (.int .u8 ((sbx k : Nat) : Int)) ∧ w = w') := fun w => refsub_c k hlt w
      have hn2 : Hid ((wr.setCell ⟨w.heap.size + 1 + 1, k, none⟩ (.int .u8 ((sbx k : Nat) : Int))).heap[w.heap.size + 1 + 1]? = some (.cells (bA (upd sbx (List.replicate 256 0) (k + 1))) 64 (0, 0))) := by
        have := block_at h2.out k (.int .u8 ((sbx k : Nat) : Int))
        rw [bA_set, upd_set _ _ _ (by simp; omega)] at this; exact this
      have hget : (upd sbx (List.replicate 256 0) (k + 1)).getD k 0 = sbx k := by
        unfold upd
        rw [List.getD_eq_getElem?_getD, List.getElem?_append_left (by simp), List.getElem?_map, List.getElem?_range (by omega)]; rfl
      have hc2 : (wr.setCell ⟨w.heap.size + 1 + 1, k, none⟩ (.int .u8 ((sbx k : Nat) : Int))).cell? ⟨w.heap.size + 1 + 1, k, none⟩ = some (.int .u8 ((sbx k : Nat) : Int)) := by
        rw [cells_at hn2.out k, bA_get _ k (by rw [upd_len _ _ _ (by simp; omega)]; simpa using hlt), hget]
      have h3' : (wr.setCell ⟨w.heap.size + 1 + 1, k, none⟩ (.int .u8 ((sbx k : Nat) : Int))).heap[w.heap.size + 1 + 1 + 1]? = some (.cells (bA (bkG k)) 64 (0, 0)) := (Below.heap_setCell _ _ _ _ (by simp <;> omega)).trans h3.out
      generalize hX : sbx k = x at HSX hn2 hc2 h3' hsl
      have hn3 : Hid (((wr.setCell ⟨w.heap.size + 1 + 1, k, none⟩ (.int .u8 (x : Int))).setCell ⟨w.heap.size + 1 + 1 + 1, x, none⟩ (.int .u8 (k : Int))).heap[w.heap.size + 1 + 1 + 1]? = some (.cells (bA (bkG (k + 1))) 64 (0, 0))) := by
        have := block_at h3' x (.int .u8 (k : Int))
        rw [bA_set] at this
        rw [bkG, hX]; exact this
      have c0 := (cells_at h2.out k).trans (bA_get _ k (by rw [upd_len _ _ _ (by simpa using hk)]; simpa using hlt))
      have f0 := free_at h2.out k
      have c3 := (cells_at h3' x).trans (bA_get _ x (by rw [bkG_len]; exact hsl))
      have f3 := free_at h3' x
      have d7 : (x : Int) < 256 := by omega
      have H3 := Lib.hid h3'
      have hw2 := lt_of_block h2.out
      clear hget hX h3'
      go_wp2_with fail
      refine (HSX.out _).mono ?_
      rintro e w1 ⟨rfl, rfl⟩
      go_wp2
      go_roundw
      case rel =>
        obtain ⟨Z, hZ, hZ2⟩ := h0.out
        obtain ⟨Y, hY, hY2⟩ := h1.out
        exact ⟨k + 1, by omega, by go_num, ⟨Z, hZ, ((Below.heap_setCell _ _ _ _ (by simp <;> omega)).trans (Below.heap_setCell _ _ _ _ (by simp <;> omega))).trans hZ2⟩, ⟨Y, hY, ((Below.heap_setCell _ _ _ _ (by simp <;> omega)).trans (Below.heap_setCell _ _ _ _ (by simp <;> omega))).trans hY2⟩,
          (Below.heap_setCell _ _ _ _ (by simp <;> omega)).trans hn2.out, hn3.out, (hbel.out.setCell (by simp <;> omega) _).setCell (by simp <;> omega) _⟩
      case measure => simp [intOf]; omega
    · obtain rfl : k = 256 := by omega
      have hd : decide (((256 : Nat) : Int) < 256) = false := by simp
      have h4 : Hid (wr.heap[w.heap.size + 1 + 1]? = some (.cells (bA sbL) 64 (0, 0))) := by
        have := h2.out
        rw [upd_full _ _ 256 (by simp)] at this; exact this
      obtain ⟨Z, hZ, hZ2⟩ := h0.out
      obtain ⟨Y, hY, hY2⟩ := h1.out
      have HZ := Lib.hid hZ
      have HZ2 := Lib.hid hZ2
      have HY := Lib.hid hY
      have HY2 := Lib.hid hY2
      have hBl := bkG_len 256
      have HBl := Lib.hid hBl
      generalize bkG 256 = B at h3 HBl
      clear hZ hZ2 hY hY2 h0 h1 h2 hBl
      go_wp2
      have hS0 : ∀ w', Below wr.heap.size wr w' → w'.rangeAt (w.heap.size + 1 + 1) 0 (bA sbL).toList ∧ w'.rangeAt (w.heap.size + 1 + 1 + 1) 0 (bA B).toList := fun w' h =>
        ⟨range_bA sbL ((h.block _ (lt_of_block h4.out)).trans h4.out), range_bA B ((h.block _ (lt_of_block h3.out)).trans h3.out)⟩
      refine wp_region_held_drew (S := fun w' => w'.rangeAt (w.heap.size + 1 + 1) 0 (bA sbL).toList ∧ w'.rangeAt (w.heap.size + 1 + 1 + 1) 0 (bA B).toList) (by kernel_rfl) (hS0 _ (Below.refl _ _).drew) ?_
      intro hS
      change wpAnyH _ _ _ _ _ 4 #[false, false, false, false] _ _
      refine wpAnyH_take (i := 0) rfl (by kernel_rfl) (by kernel_rfl) (by kernel_rfl) (fun _ _ _ h => h) (yieldsIf_load_mid (by rfl) _ _ rfl (w.heap.size + 1 + 1) 0 rfl (bA sbL).toList _ (fun _ h => h.1) Try.underlying64 rfl (by rw [t256]; simp [bA_size, sbL_len])) hS ?_
      simp only [List.getElem_toArray, List.getElem_cons_succ, List.getElem_cons_zero, Act.put, List.setIfInBounds_toArray, List.set_cons_zero, List.set_cons_succ]
      change wpAnyH _ _ _ _ _ 3 #[true, false, false, false] _ _
      refine wpAnyH_take (i := 1) rfl (by kernel_rfl) (by kernel_rfl) (by kernel_rfl) (fun _ _ _ h => h) (yieldsIf_load_mid (by rfl) _ _ rfl (w.heap.size + 1 + 1 + 1) 0 rfl (bA B).toList _ (fun _ h => h.2) Try.underlying64 rfl (by rw [t256]; simp [bA_size, HBl.out])) hS ?_
      simp only [List.getElem_toArray, List.getElem_cons_succ, List.getElem_cons_zero, Act.put, List.setIfInBounds_toArray, List.set_cons_zero, List.set_cons_succ]
      change wpAnyH _ _ _ _ _ 2 #[true, true, false, false] _ _
      refine wpAnyH_ready (rs := [2]) (by kernel_rfl) (by simp) ?_
      refine AllReadyH.cons rfl (fun K hK => ?_) AllReadyH.nil
      rw [if_pos (by rfl)]
      refine wp_store_row 64 (.tmp 0) (.tmp 20) rfl w.heap.size (bA sbL) rfl rfl 64 _ HZ2.out (by rw [t256, bA_size, sbL_len]) (by rw [HZ.out, bA_size, sbL_len]) (bA_one _) ?_
      refine hK.out _ _ (⟨range_bA sbL ((setRow_other _ _ _ _ (by omega)).trans h4.out), range_bA B ((setRow_other _ _ _ _ (by omega)).trans h3.out)⟩) (fun hS1 => ?_)
      clear hK K
      simp only [List.getElem_toArray, List.getElem_cons_succ, List.getElem_cons_zero, Act.put, List.setIfInBounds_toArray, List.set_cons_zero, List.set_cons_succ]
      change wpAnyH _ _ _ _ _ 1 #[true, true, true, false] _ _
      refine wpAnyH_ready (rs := [3]) (by kernel_rfl) (by simp) ?_
      refine AllReadyH.cons rfl (fun K hK => ?_) AllReadyH.nil
      rw [if_pos (by rfl)]
      have Y1 := (setRow_other wr.drew w.heap.size (w.heap.size + 1) (bA sbL) (by omega)).trans HY2.out
      refine wp_store_row 64 (.tmp 1) (.tmp 21) rfl (w.heap.size + 1) (bA B) rfl rfl 64 _ Y1 (by rw [t256, bA_size, HBl.out]) (by rw [HY.out, bA_size, HBl.out]) (bA_one _) ?_
      refine hK.out _ _ (⟨range_bA sbL ((setRow_other _ _ _ _ (by omega)).trans ((setRow_other _ _ _ _ (by omega)).trans h4.out)), range_bA B ((setRow_other _ _ _ _ (by omega)).trans ((setRow_other _ _ _ _ (by omega)).trans h3.out))⟩) (fun hS2 => ?_)
      clear hK K
      simp only [List.getElem_toArray, List.getElem_cons_succ, List.getElem_cons_zero, Act.put, List.setIfInBounds_toArray, List.set_cons_zero, List.set_cons_succ]
      change wpAnyH _ _ _ _ _ 0 #[true, true, true, true] _ _
      have R1 := setRow_heap _ _ _ (bA B) _ _ Y1
      have R0 := (setRow_other (wr.drew.setRow w.heap.size (bA sbL)) (w.heap.size + 1) w.heap.size (bA B) (by omega)).trans (setRow_heap wr.drew _ _ (bA sbL) _ _ HZ2.out)
      refine wpAnyH_done (by kernel_rfl) ?_ _
      go_wp2_with fail
      refine bodyPost_ret (v := .tuple #[.agg (bA sbL), .agg (bA B)]) ?_ rfl ⟨B, rfl, below_setRow (below_setRow hbel.out.drew (by omega) _) (by omega) _⟩
      have v0 := run_loadVar_row (P := Try.prog) _ w.heap.size 64 64 (bA sbL) (0, 0) _ R0 Try.underlying64 rfl (by rw [t256, bA_size, sbL_len])
      have v1 := run_loadVar_row (P := Try.prog) _ (w.heap.size + 1) 64 64 (bA B) (0, 0) _ R1 Try.underlying64 rfl (by rw [t256, bA_size, HBl.out])
      simp [results, Try.f83, asAddr, v0, v1]
end Go.Proofs.Ytnmjkdmhfogeiaa
