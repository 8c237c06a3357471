/- Texts AesI, Rnd, Chunk, HeldT, put together by pack.py. -/
import Derived.Test.YtinjafacnekkcaaSPe
import Derived.RangeFuncNested
import Derived.RangeFuncBound
import Derived.RangeFuncCalls
import Derived.RangeFuncLeaves
import Derived.Shelf.Abstract
import Derived.Shelf.RegionOpen
import Derived.WalkKit
import Derived.OwnWalkIn
import Derived.TacticsInMore
import Derived.LoopNIn
import Derived.LoopIn
import Derived.OrdersIn
import Derived.Deep.AppendLies
import Derived.OrdersHeld
import Derived.Deep.RegionHeld
set_option linter.unusedVariables false
set_option linter.unusedSimpArgs false
namespace Go.Proofs.Ytinjafacnekkcaa
open Go Go.RowKit GfM
def nextN (n i : Nat) (t : Nat → Nat) : Nat → Nat :=
  if i % n = 0 then fun j => if j = 0 then sbx (t 1) ^^^ powN 2 (i / n - 1) else sbx (t ((j + 1) % 4))
  else if n > 6 ∧ i % n = 4 then subN4 t else t
def rotf (t : Nat → Nat) (j : Nat) : Nat := t ((j + 1) % 4)
theorem range_word {w : World} {c b g n cap r : Nat} {W : List Nat} (h : Cip w c b g n cap r W) (q : Nat) (hq : q < n) : w.rangeAt g (4 * q) (v4 (colOf W q)).toList := by
  intro j v hv
  have hj : j < 4 := by
    have := (List.getElem?_eq_some_iff.1 hv).1; simpa [v4] using this
  have hl := h.flen
  rw [h.wd (4 * q + j) (by omega)]
  rw [Array.getElem?_toList, v4_get _ j hj] at hv
  exact hv
set_option maxRecDepth 100000 in
set_option maxHeartbeats 4000000 in
theorem next4_c (c b g i cap r : Nat) (W : List Nat) (hi1 : 4 ≤ i) (hi2 : i < 1000) (w : World) (hC : Cip w c b g i cap r W) :
    Calls Try.prog 26 #[.pointer (some ⟨c, 0, none⟩), .int .i64 (i : Int), .int .i64 4] w fun e w' => e = .returned (.agg (v4 (nextN 4 i (colOf W (i - 1))))) ∧ Below w.heap.size w w' := by
  have hlen := hC.flen
  have hcap := hC.fcap
  have hcm := hC.fcapm
  unfold maxLen at hcm
  have hby : ∀ j, j < 4 → colOf W (i - 1) j < 256 := fun j hj => by
    unfold colOf
    rw [List.getD_eq_getElem?_getD, List.getElem?_eq_getElem (by omega)]
    exact hC.fbyte _ (List.getElem_mem _)
  have HR : Hid (∀ w', Below w.heap.size w w' → w'.rangeAt g ((i - 1) * 4) (v4 (colOf W (i - 1))).toList) := fun w' h => by rw [Nat.mul_comm]; exact range_word (hC.up h (Nat.le_refl _)) (i - 1) (by omega)
  have HSUB : Hid (∀ a : Nat → Nat, (∀ j, j < 4 → a j < 256) → ∀ w', Below w.heap.size w w' → Calls Try.prog 43 #[.pointer (some ⟨c, 0, none⟩), .agg (v4 a)] w' fun e w'' => e = .returned (.agg (v4 (subN4 a))) ∧ Below w'.heap.size w' w'') := fun a ha w' h => csub_c c b g i cap r W a ha w' (hC.up h (Nat.le_refl _))
  have HBY := Lib.hid hby
  have hc1 : ∀ o, (w.alloc o).cell? ⟨c, 1, none⟩ = some (.slice (some ⟨g, 0, none⟩) i cap) := fun o => (hC.up ((Below.refl _ _).alloc (Nat.le_refl _) o) (Nat.le_refl _)).c1
  have HB1 : Hid (∀ o, Below w.heap.size w (w.alloc o)) := fun o => (Below.refl _ _).alloc (Nat.le_refl _) o
  have HB2 : Hid (∀ o p, Below w.heap.size w ((w.alloc o).alloc p)) := fun o p => ((Below.refl _ _).alloc (Nat.le_refl _) o).alloc (by simp) p
  have A7 : Hid (∀ o (Z : Array Value), ((w.alloc o).alloc (Obj.cells Z 61)).heap[w.heap.size + 1]? = some (.cells Z 61 (0, 0))) := fun o Z => by
    rw [show w.heap.size + 1 = (w.alloc o).heap.size by simp, heap_new']
  have A6 : Hid (∀ p (Z : Array Value), ((w.alloc (Obj.cells Z 61)).alloc p).heap[w.heap.size]? = some (.cells Z 61 (0, 0))) := fun o Z => by
    rw [heap_old' _ _ _ (by simp), heap_new']
  generalize ht : colOf W (i - 1) = t at *
  clear ht
  clear hC hby hlen
  have e1 : IntKind.i64.wrap ((i : Int) - 1) = (i : Int) - 1 := IntWalk.i64_in _ (by omega)
  have e2 : (0 : Int) ≤ (i : Int) - 1 := by omega
  have e3 : ((i : Int) - 1).toNat = i - 1 := by omega
  have e4 : (i : Int) - 1 < (i : Int) := by omega
  obtain ⟨m, hm⟩ : ∃ m, m = i % 4 := ⟨_, rfl⟩
  have e5 : (i : Int) % 4 = (m : Int) := by omega
  have e6 : (i : Int).tmod 4 = (m : Int) := by rw [Int.tmod_eq_emod_of_nonneg (by omega)]; exact e5
  have HM := Lib.hid hm
  clear hm
  go_enter Try.func26, Try.ntmps26
  go_upto_region 2 with (first
        | (refine wpList_load_mid rfl 61 (.tmp 14) rfl g ((i - 1) * 4) rfl _ _ (HR.out _ (HB1.out _)) Try.underlying61 rfl (by rw [four4]; simp [v4]) ?_)
        | (refine wpList_store_row rfl 61 (.tmp 7) (.tmp 15) rfl (w.heap.size + 1) _ rfl rfl 61 _ (A7.out _ _) (by rw [four4]; rfl) rfl (v4_one _) ?_)
        | fail)
  have n7 := setRow_heap _ _ _ (v4 t) _ _ (A7.out (Obj.cells #[.int .u8 0, .int .u8 0, .int .u8 0, .int .u8 0] 61) #[.int .u8 0, .int .u8 0, .int .u8 0, .int .u8 0])
  have n6 := (setRow_other _ (w.heap.size + 1) w.heap.size (v4 t) (by omega)).trans (A6.out (Obj.cells #[.int .u8 0, .int .u8 0, .int .u8 0, .int .u8 0] 61) #[.int .u8 0, .int .u8 0, .int .u8 0, .int .u8 0])
  have nb := below_setRow (HB2.out (Obj.cells #[.int .u8 0, .int .u8 0, .int .u8 0, .int .u8 0] 61) (Obj.cells #[.int .u8 0, .int .u8 0, .int .u8 0, .int .u8 0] 61)) (by omega : w.heap.size ≤ w.heap.size + 1) (v4 t)
  obtain ⟨W2, hW2⟩ : ∃ W2, W2 = (((w.alloc (Obj.cells #[.int .u8 0, .int .u8 0, .int .u8 0, .int .u8 0] 61)).alloc (Obj.cells #[.int .u8 0, .int .u8 0, .int .u8 0, .int .u8 0] 61)).setRow (w.heap.size + 1) (v4 t)) := ⟨_, rfl⟩
  rw [← hW2] at n7 n6 nb
  try rw [← hW2]
  have N7 := Lib.hid n7
  have N6 := Lib.hid n6
  have NB := Lib.hid nb
  have HZ : Hid (w.heap.size + 1 < W2.heap.size) := lt_of_block n7
  have c0 := (cells_at n7 0).trans (v4_get t 0 (by omega))
  have c1 := (cells_at n7 1).trans (v4_get t 1 (by omega))
  have c2 := (cells_at n7 2).trans (v4_get t 2 (by omega))
  have c3 := (cells_at n7 3).trans (v4_get t 3 (by omega))
  clear hW2 n7 n6 nb A7 A6 HB1 HB2 HR hc1 e1 e2 e3 e4
  by_cases h0 : m = 0
  · subst h0
    go_wp2_with fail
    refine (HSUB.out (rotf t) (fun j hj => HBY.out _ (by omega)) _ NB.out).mono ?_
    rintro e w3 ⟨rfl, hb3⟩
    have g7 := (hb3.block _ HZ.out).trans N7.out
    have G6 := Lib.hid ((hb3.block _ (by have := HZ.out; omega)).trans N6.out)
    have GB := Lib.hid (NB.out.trans (hb3.mono (by have := HZ.out; omega)))
    have G7 := Lib.hid g7
    clear g7 hb3 N6 N7 NB HZ c0 c1 c2 c3
    go_upto_region 4 with (first
        | (refine wpList_store_row rfl 61 (.tmp 7) (.tmp 31) rfl (w.heap.size + 1) _ rfl rfl 61 _ G7.out (by rw [four4]; rfl) rfl (v4_one _) ?_)
        | fail)
    have n7 := setRow_heap _ _ _ (v4 (subN4 (rotf t))) _ _ G7.out
    have n6 := (setRow_other _ (w.heap.size + 1) w.heap.size (v4 (subN4 (rotf t))) (by omega)).trans G6.out
    have nb := below_setRow GB.out (by omega : w.heap.size ≤ w.heap.size + 1) (v4 (subN4 (rotf t)))
    obtain ⟨W4, hW4⟩ : ∃ W4, W4 = (w3.setRow (w.heap.size + 1) (v4 (subN4 (rotf t)))) := ⟨_, rfl⟩
    rw [← hW4] at n7 n6 nb
    rw [← hW4]
    clear hW4 G7 G6 GB
    obtain ⟨q, hq⟩ : ∃ q, q = i / 4 := ⟨_, rfl⟩
    obtain ⟨p, hp⟩ : ∃ p, p = i / 4 - 1 := ⟨_, rfl⟩
    have e7 : IntKind.i64.wrap ((i : Int) / 4) = (q : Int) := by rw [IntWalk.i64_in _ (by omega)]; omega
    have e8 : IntKind.i64.wrap ((q : Int) - 1) = (p : Int) := by rw [IntWalk.i64_in _ (by omega)]; omega
    have HPOW : Hid (∀ w, Calls Try.prog 44 #[.int .u8 2, .int .i64 (p : Int)] w fun e w' => e = .returned (.int .u8 ((powN 2 p : Nat) : Int)) ∧ w' = w) := fun w => (power_c 2 p (by omega) (by omega) w).mono fun _ _ h => ⟨h.1, h.2.symm⟩
    have HP := Lib.hid hp
    clear hq hp
    have c0 := (cells_at n7 0).trans (v4_get (subN4 (rotf t)) 0 (by omega))
    have f0 := free_at n7 0
    have hu : subN4 (rotf t) 0 < 256 := sbx_lt _ (HBY.out _ (by omega))
    have hx : bits BinOp.xor IntKind.u8 (subN4 (rotf t) 0 : Int) (powN 2 p : Int) = ((subN4 (rotf t) 0 ^^^ powN 2 p : Nat) : Int) := u8x rfl rfl hu (powN_lt _ _)
    have m7 := block_at n7 0 (.int .u8 ((subN4 (rotf t) 0 ^^^ powN 2 p : Nat) : Int))
    rw [show (v4 (subN4 (rotf t))).setIfInBounds 0 (.int .u8 ((subN4 (rotf t) 0 ^^^ powN 2 p : Nat) : Int)) = v4 (fun j => if j = 0 then sbx (t 1) ^^^ powN 2 p else sbx (t ((j + 1) % 4))) from rfl, ← hx] at m7
    have m6 := (Below.heap_setCell W4 ⟨w.heap.size + 1, 0, none⟩ (.int .u8 (bits BinOp.xor IntKind.u8 (subN4 (rotf t) 0 : Int) (powN 2 p : Int))) w.heap.size (by simp)).trans n6
    have mb := (nb.setCell (p := ⟨w.heap.size + 1, 0, none⟩) (by simp) (.int .u8 (bits BinOp.xor IntKind.u8 (subN4 (rotf t) 0 : Int) (powN 2 p : Int)))).drew
    have hfin : v4 (fun j => if j = 0 then sbx (t 1) ^^^ powN 2 p else sbx (t ((j + 1) % 4))) = v4 (nextN 4 i t) := by unfold nextN; rw [if_pos HM.out.symm, HP.out]
    rw [hfin] at m7
    have M7 := Lib.hid m7
    have M6 := Lib.hid m6
    have MB := Lib.hid mb
    clear n7 n6 nb hx m7 m6 mb hu hfin
    refine wp_region_still_tail 9 (by kernel_rfl) (by kernel_rfl) ?_
    simp only [List.take_succ_cons, List.take_zero, List.drop_succ_cons, List.drop_zero]
    change wpStill _ _ W4.drew _ _ _
    repeat still_step
    still_call (HPOW.out _)
    repeat still_step
    refine wpStill_nil ?_
    change wpList _ _ _ _ _ W4.drew
    clear e5 e6 e7 e8
    go_wp2_with (first
        | (refine wpList_load_row rfl 61 (.tmp 7) rfl (w.heap.size + 1) rfl _ _ _ _ M7.out Try.underlying61 rfl (by rw [four4]; rfl) ?_)
        | (refine wpList_store_row rfl 61 (.tmp 6) (.tmp 53) rfl w.heap.size _ rfl rfl 61 _ M6.out (by rw [four4]; rfl) rfl (v4_one _) ?_))
    exact bodyPost_ret (results_cell_row rfl _ _ w.heap.size 61 (v4 (nextN 4 i t)) (0, 0) _ rfl (setRow_heap _ _ _ _ _ _ M6.out) Try.underlying61 rfl (by rw [four4]; rfl)) rfl ⟨rfl, below_setRow MB.out (Nat.le_refl _) _⟩
  · have hmI : ¬ (m : Int) = 0 := by omega
    clear c0 c1 c2 c3
    have hfin : v4 (nextN 4 i t) = v4 t := by unfold nextN; rw [if_neg (by rw [← HM.out]; exact h0), if_neg (by omega)]
    go_wp2_with (first
        | (refine wpList_load_row rfl 61 (.tmp 7) rfl (w.heap.size + 1) rfl _ _ _ _ N7.out Try.underlying61 rfl (by rw [four4]; rfl) ?_)
        | (refine wpList_store_row rfl 61 (.tmp 6) (.tmp 53) rfl w.heap.size _ rfl rfl 61 _ N6.out (by rw [four4]; rfl) rfl (v4_one _) ?_))
    exact bodyPost_ret (results_cell_row rfl _ _ w.heap.size 61 (v4 t) (0, 0) _ rfl (setRow_heap _ _ _ _ _ _ N6.out) Try.underlying61 rfl (by rw [four4]; rfl)) rfl ⟨by rw [hfin], below_setRow NB.out (Nat.le_refl _) _⟩
set_option maxRecDepth 100000 in
set_option maxHeartbeats 4000000 in
theorem next8_c (c b g i cap r : Nat) (W : List Nat) (hi1 : 8 ≤ i) (hi2 : i < 1000) (w : World) (hC : Cip w c b g i cap r W) :
    Calls Try.prog 26 #[.pointer (some ⟨c, 0, none⟩), .int .i64 (i : Int), .int .i64 8] w fun e w' => e = .returned (.agg (v4 (nextN 8 i (colOf W (i - 1))))) ∧ Below w.heap.size w w' := by
  have hlen := hC.flen
  have hcap := hC.fcap
  have hcm := hC.fcapm
  unfold maxLen at hcm
  have hby : ∀ j, j < 4 → colOf W (i - 1) j < 256 := fun j hj => by
    unfold colOf
    rw [List.getD_eq_getElem?_getD, List.getElem?_eq_getElem (by omega)]
    exact hC.fbyte _ (List.getElem_mem _)
  have HR : Hid (∀ w', Below w.heap.size w w' → w'.rangeAt g ((i - 1) * 4) (v4 (colOf W (i - 1))).toList) := fun w' h => by rw [Nat.mul_comm]; exact range_word (hC.up h (Nat.le_refl _)) (i - 1) (by omega)
  have HSUB : Hid (∀ a : Nat → Nat, (∀ j, j < 4 → a j < 256) → ∀ w', Below w.heap.size w w' → Calls Try.prog 43 #[.pointer (some ⟨c, 0, none⟩), .agg (v4 a)] w' fun e w'' => e = .returned (.agg (v4 (subN4 a))) ∧ Below w'.heap.size w' w'') := fun a ha w' h => csub_c c b g i cap r W a ha w' (hC.up h (Nat.le_refl _))
  have HBY := Lib.hid hby
  have hc1 : ∀ o, (w.alloc o).cell? ⟨c, 1, none⟩ = some (.slice (some ⟨g, 0, none⟩) i cap) := fun o => (hC.up ((Below.refl _ _).alloc (Nat.le_refl _) o) (Nat.le_refl _)).c1
  have HB1 : Hid (∀ o, Below w.heap.size w (w.alloc o)) := fun o => (Below.refl _ _).alloc (Nat.le_refl _) o
  have HB2 : Hid (∀ o p, Below w.heap.size w ((w.alloc o).alloc p)) := fun o p => ((Below.refl _ _).alloc (Nat.le_refl _) o).alloc (by simp) p
  have A7 : Hid (∀ o (Z : Array Value), ((w.alloc o).alloc (Obj.cells Z 61)).heap[w.heap.size + 1]? = some (.cells Z 61 (0, 0))) := fun o Z => by
    rw [show w.heap.size + 1 = (w.alloc o).heap.size by simp, heap_new']
  have A6 : Hid (∀ p (Z : Array Value), ((w.alloc (Obj.cells Z 61)).alloc p).heap[w.heap.size]? = some (.cells Z 61 (0, 0))) := fun o Z => by
    rw [heap_old' _ _ _ (by simp), heap_new']
  generalize ht : colOf W (i - 1) = t at *
  clear ht
  clear hC hby hlen
  have e1 : IntKind.i64.wrap ((i : Int) - 1) = (i : Int) - 1 := IntWalk.i64_in _ (by omega)
  have e2 : (0 : Int) ≤ (i : Int) - 1 := by omega
  have e3 : ((i : Int) - 1).toNat = i - 1 := by omega
  have e4 : (i : Int) - 1 < (i : Int) := by omega
  obtain ⟨m, hm⟩ : ∃ m, m = i % 8 := ⟨_, rfl⟩
  have e5 : (i : Int) % 8 = (m : Int) := by omega
  have e6 : (i : Int).tmod 8 = (m : Int) := by rw [Int.tmod_eq_emod_of_nonneg (by omega)]; exact e5
  have HM := Lib.hid hm
  clear hm
  go_enter Try.func26, Try.ntmps26
  go_upto_region 2 with (first
        | (refine wpList_load_mid rfl 61 (.tmp 14) rfl g ((i - 1) * 4) rfl _ _ (HR.out _ (HB1.out _)) Try.underlying61 rfl (by rw [four4]; simp [v4]) ?_)
        | (refine wpList_store_row rfl 61 (.tmp 7) (.tmp 15) rfl (w.heap.size + 1) _ rfl rfl 61 _ (A7.out _ _) (by rw [four4]; rfl) rfl (v4_one _) ?_)
        | fail)
  have n7 := setRow_heap _ _ _ (v4 t) _ _ (A7.out (Obj.cells #[.int .u8 0, .int .u8 0, .int .u8 0, .int .u8 0] 61) #[.int .u8 0, .int .u8 0, .int .u8 0, .int .u8 0])
  have n6 := (setRow_other _ (w.heap.size + 1) w.heap.size (v4 t) (by omega)).trans (A6.out (Obj.cells #[.int .u8 0, .int .u8 0, .int .u8 0, .int .u8 0] 61) #[.int .u8 0, .int .u8 0, .int .u8 0, .int .u8 0])
  have nb := below_setRow (HB2.out (Obj.cells #[.int .u8 0, .int .u8 0, .int .u8 0, .int .u8 0] 61) (Obj.cells #[.int .u8 0, .int .u8 0, .int .u8 0, .int .u8 0] 61)) (by omega : w.heap.size ≤ w.heap.size + 1) (v4 t)
  obtain ⟨W2, hW2⟩ : ∃ W2, W2 = (((w.alloc (Obj.cells #[.int .u8 0, .int .u8 0, .int .u8 0, .int .u8 0] 61)).alloc (Obj.cells #[.int .u8 0, .int .u8 0, .int .u8 0, .int .u8 0] 61)).setRow (w.heap.size + 1) (v4 t)) := ⟨_, rfl⟩
  rw [← hW2] at n7 n6 nb
  try rw [← hW2]
  have N7 := Lib.hid n7
  have N6 := Lib.hid n6
  have NB := Lib.hid nb
  have HZ : Hid (w.heap.size + 1 < W2.heap.size) := lt_of_block n7
  have c0 := (cells_at n7 0).trans (v4_get t 0 (by omega))
  have c1 := (cells_at n7 1).trans (v4_get t 1 (by omega))
  have c2 := (cells_at n7 2).trans (v4_get t 2 (by omega))
  have c3 := (cells_at n7 3).trans (v4_get t 3 (by omega))
  clear hW2 n7 n6 nb A7 A6 HB1 HB2 HR hc1 e1 e2 e3 e4
  by_cases h0 : m = 0
  · subst h0
    go_wp2_with fail
    refine (HSUB.out (rotf t) (fun j hj => HBY.out _ (by omega)) _ NB.out).mono ?_
    rintro e w3 ⟨rfl, hb3⟩
    have g7 := (hb3.block _ HZ.out).trans N7.out
    have G6 := Lib.hid ((hb3.block _ (by have := HZ.out; omega)).trans N6.out)
    have GB := Lib.hid (NB.out.trans (hb3.mono (by have := HZ.out; omega)))
    have G7 := Lib.hid g7
    clear g7 hb3 N6 N7 NB HZ c0 c1 c2 c3
    go_upto_region 4 with (first
        | (refine wpList_store_row rfl 61 (.tmp 7) (.tmp 31) rfl (w.heap.size + 1) _ rfl rfl 61 _ G7.out (by rw [four4]; rfl) rfl (v4_one _) ?_)
        | fail)
    have n7 := setRow_heap _ _ _ (v4 (subN4 (rotf t))) _ _ G7.out
    have n6 := (setRow_other _ (w.heap.size + 1) w.heap.size (v4 (subN4 (rotf t))) (by omega)).trans G6.out
    have nb := below_setRow GB.out (by omega : w.heap.size ≤ w.heap.size + 1) (v4 (subN4 (rotf t)))
    obtain ⟨W4, hW4⟩ : ∃ W4, W4 = (w3.setRow (w.heap.size + 1) (v4 (subN4 (rotf t)))) := ⟨_, rfl⟩
    rw [← hW4] at n7 n6 nb
    rw [← hW4]
    clear hW4 G7 G6 GB
    obtain ⟨q, hq⟩ : ∃ q, q = i / 8 := ⟨_, rfl⟩
    obtain ⟨p, hp⟩ : ∃ p, p = i / 8 - 1 := ⟨_, rfl⟩
    have e7 : IntKind.i64.wrap ((i : Int) / 8) = (q : Int) := by rw [IntWalk.i64_in _ (by omega)]; omega
    have e8 : IntKind.i64.wrap ((q : Int) - 1) = (p : Int) := by rw [IntWalk.i64_in _ (by omega)]; omega
    have HPOW : Hid (∀ w, Calls Try.prog 44 #[.int .u8 2, .int .i64 (p : Int)] w fun e w' => e = .returned (.int .u8 ((powN 2 p : Nat) : Int)) ∧ w' = w) := fun w => (power_c 2 p (by omega) (by omega) w).mono fun _ _ h => ⟨h.1, h.2.symm⟩
    have HP := Lib.hid hp
    clear hq hp
    have c0 := (cells_at n7 0).trans (v4_get (subN4 (rotf t)) 0 (by omega))
    have f0 := free_at n7 0
    have hu : subN4 (rotf t) 0 < 256 := sbx_lt _ (HBY.out _ (by omega))
    have hx : bits BinOp.xor IntKind.u8 (subN4 (rotf t) 0 : Int) (powN 2 p : Int) = ((subN4 (rotf t) 0 ^^^ powN 2 p : Nat) : Int) := u8x rfl rfl hu (powN_lt _ _)
    have m7 := block_at n7 0 (.int .u8 ((subN4 (rotf t) 0 ^^^ powN 2 p : Nat) : Int))
    rw [show (v4 (subN4 (rotf t))).setIfInBounds 0 (.int .u8 ((subN4 (rotf t) 0 ^^^ powN 2 p : Nat) : Int)) = v4 (fun j => if j = 0 then sbx (t 1) ^^^ powN 2 p else sbx (t ((j + 1) % 4))) from rfl, ← hx] at m7
    have m6 := (Below.heap_setCell W4 ⟨w.heap.size + 1, 0, none⟩ (.int .u8 (bits BinOp.xor IntKind.u8 (subN4 (rotf t) 0 : Int) (powN 2 p : Int))) w.heap.size (by simp)).trans n6
    have mb := (nb.setCell (p := ⟨w.heap.size + 1, 0, none⟩) (by simp) (.int .u8 (bits BinOp.xor IntKind.u8 (subN4 (rotf t) 0 : Int) (powN 2 p : Int)))).drew
    have hfin : v4 (fun j => if j = 0 then sbx (t 1) ^^^ powN 2 p else sbx (t ((j + 1) % 4))) = v4 (nextN 8 i t) := by unfold nextN; rw [if_pos HM.out.symm, HP.out]
    rw [hfin] at m7
    have M7 := Lib.hid m7
    have M6 := Lib.hid m6
    have MB := Lib.hid mb
    clear n7 n6 nb hx m7 m6 mb hu hfin
    refine wp_region_still_tail 9 (by kernel_rfl) (by kernel_rfl) ?_
    simp only [List.take_succ_cons, List.take_zero, List.drop_succ_cons, List.drop_zero]
    change wpStill _ _ W4.drew _ _ _
    repeat still_step
    still_call (HPOW.out _)
    repeat still_step
    refine wpStill_nil ?_
    change wpList _ _ _ _ _ W4.drew
    clear e5 e6 e7 e8
    go_wp2_with (first
        | (refine wpList_load_row rfl 61 (.tmp 7) rfl (w.heap.size + 1) rfl _ _ _ _ M7.out Try.underlying61 rfl (by rw [four4]; rfl) ?_)
        | (refine wpList_store_row rfl 61 (.tmp 6) (.tmp 53) rfl w.heap.size _ rfl rfl 61 _ M6.out (by rw [four4]; rfl) rfl (v4_one _) ?_))
    exact bodyPost_ret (results_cell_row rfl _ _ w.heap.size 61 (v4 (nextN 8 i t)) (0, 0) _ rfl (setRow_heap _ _ _ _ _ _ M6.out) Try.underlying61 rfl (by rw [four4]; rfl)) rfl ⟨rfl, below_setRow MB.out (Nat.le_refl _) _⟩
  · have hmI : ¬ (m : Int) = 0 := by omega
    clear c0 c1 c2 c3
    by_cases h4 : m = 4
    · subst h4
      go_wp2_with (first
        | (refine wpList_load_row rfl 61 (.tmp 7) rfl (w.heap.size + 1) rfl _ _ _ _ N7.out Try.underlying61 rfl (by rw [four4]; rfl) ?_)
        | fail)
      refine (HSUB.out t HBY.out _ NB.out).mono ?_
      rintro e w3 ⟨rfl, hb3⟩
      have G7 := Lib.hid ((hb3.block _ HZ.out).trans N7.out)
      have G6 := Lib.hid ((hb3.block _ (by have := HZ.out; omega)).trans N6.out)
      have GB := Lib.hid (NB.out.trans (hb3.mono (by have := HZ.out; omega)))
      have hfin : v4 (nextN 8 i t) = v4 (subN4 t) := by unfold nextN; rw [if_neg (by rw [← HM.out]; omega), if_pos (by rw [← HM.out]; omega)]
      clear hb3 N6 N7 NB HZ
      go_wp2_with (first
        | (refine wpList_store_row rfl 61 (.tmp 7) (.tmp 52) rfl (w.heap.size + 1) _ rfl rfl 61 _ G7.out (by rw [four4]; rfl) rfl (v4_one _) ?_)
        | (refine wpList_load_row rfl 61 (.tmp 7) rfl (w.heap.size + 1) rfl _ _ _ _ (setRow_heap _ _ _ _ _ _ G7.out) Try.underlying61 rfl (by rw [four4]; rfl) ?_)
        | (refine wpList_store_row rfl 61 (.tmp 6) (.tmp 53) rfl w.heap.size _ rfl rfl 61 _ ((setRow_other _ _ _ _ (by omega)).trans G6.out) (by rw [four4]; rfl) rfl (v4_one _) ?_))
      exact bodyPost_ret (results_cell_row rfl _ _ w.heap.size 61 (v4 (subN4 t)) (0, 0) _ rfl (setRow_heap _ _ _ _ _ _ ((setRow_other _ _ _ _ (by omega)).trans G6.out)) Try.underlying61 rfl (by rw [four4]; rfl)) rfl ⟨by rw [hfin], below_setRow (below_setRow GB.out (by omega) _) (Nat.le_refl _) _⟩
    have hm4 : ¬ (m : Int) = 4 := by omega
    have hfin : v4 (nextN 8 i t) = v4 t := by unfold nextN; rw [if_neg (by rw [← HM.out]; exact h0), if_neg (by rw [← HM.out]; omega)]
    go_wp2_with (first
        | (refine wpList_load_row rfl 61 (.tmp 7) rfl (w.heap.size + 1) rfl _ _ _ _ N7.out Try.underlying61 rfl (by rw [four4]; rfl) ?_)
        | (refine wpList_store_row rfl 61 (.tmp 6) (.tmp 53) rfl w.heap.size _ rfl rfl 61 _ N6.out (by rw [four4]; rfl) rfl (v4_one _) ?_))
    exact bodyPost_ret (results_cell_row rfl _ _ w.heap.size 61 (v4 t) (0, 0) _ rfl (setRow_heap _ _ _ _ _ _ N6.out) Try.underlying61 rfl (by rw [four4]; rfl)) rfl ⟨by rw [hfin], below_setRow NB.out (Nat.le_refl _) _⟩
end Go.Proofs.Ytinjafacnekkcaa
namespace Go.Proofs.Ytinjafacnekkcaa
open Go Go.RowKit
/-- it ends in the normal way, and so -/
def OnlyN (Q : Act → World → Prop) : Exit → Act → World → Prop
  | .normal, a, w => Q a w
  | _, _, _ => False
theorem onlyN_out (Q : Act → World → Prop) : ¬ LetsOut (OnlyN Q) := fun ⟨_, _, h⟩ => h
theorem upon_round {l n : Nat} {P : Program} {o : Oper} {a : Act} {K : Act → World → Prop} {Q : Act → World → Prop} {Q' : Exit → Act → World → Prop} {r : Result Next}
    (h : o.upon P a K (OnlyN Q) r) : o.uponIn (Fence.wide.inRound l) n P a K Q' r := by
  cases r with
  | ok x w' =>
    cases x with
    | value v => exact h
    | skip => exact h
    | defer d => exact h
    | enter f args =>
      refine ⟨fun h => (by cases h), ?_⟩
      refine CallsIn.inRound l (callsIn_wide.2 (Calls.mono h ?_))
      intro e w'' he
      cases e with
      | returned v => exact he
      | panicked c => exact (he : False).elim
      | outgrown => exact (onlyN_out Q he).elim
    | row row args =>
      refine ⟨fun h => (by cases h), ?_⟩
      exact fun c cs _ => let ⟨v, w', r, s⟩ := h c cs; ⟨v, w', r, stepsIn_wide.2 s⟩
    | _ => exact (h : False).elim
  | halt x w' =>
    cases x with
    | panic v => exact (h : False).elim
    | _ => exact (h : False).elim
theorem wpOp_round {l n : Nat} {P : Program} {ops : Array Oper} {K : Act → World → Prop} {Q : Act → World → Prop} {Q' : Exit → Act → World → Prop} {i : Nat} {a : Act} {w : World}
    (hd : ∀ (j : Nat) (o : Oper) c, ops[j]? = some o → o.op ≠ Op.defer c) (h : wpOp P ops (OnlyN Q) i K a w) : wpOpIn (Fence.wide.inRound l) n P ops Q' i K a w := by
  unfold wpOp at h
  unfold wpOpIn
  cases ho : ops[i]? with
  | none => simp only [ho] at h; exact h
  | some o =>
    simp only [ho] at h
    show if _ then _ else _
    split
    · rename_i hw
      rw [if_pos hw] at h
      rcases h with h | ⟨_, h⟩
      · refine ⟨fun _ _ => trivial, ?_⟩
        show o.uponIn _ _ _ _ _ _ ((Oper.semAt (some l) a.eval o).run P w)
        rw [Oper.semAt_some l a.eval o (fun c => hd i o c ho)]
        exact upon_round h
      · exact (onlyN_out Q h).elim
    · rename_i hw
      rw [if_neg hw] at h
      exact ⟨fun _ _ => trivial, h⟩
theorem wpAny_round {l n : Nat} {P : Program} {md : Region.Mode} {ops : Array Oper} {Q : Act → World → Prop} {Q' : Exit → Act → World → Prop} (hQ : ∀ a w, Q a w → Q' .normal a w)
    (hd : ∀ (j : Nat) (o : Oper) c, ops[j]? = some o → o.op ≠ Op.defer c) : ∀ (fuel : Nat) (listed : Array Bool) (a : Act) (w : World), wpAny P md ops (OnlyN Q) fuel listed a w → wpAnyIn (Fence.wide.inRound l) n P md ops Q' fuel listed a w
  | 0, _, _, _, h => ⟨h.1, hQ _ _ h.2⟩
  | fuel + 1, _, _, _, h => ⟨fun h0 => hQ _ _ (h.1 h0), fun i hi => wpOpIn_mono (fun a' w' h' => wpAny_round hQ hd fuel _ a' w' h') (wpOp_round hd (h.2 i hi))⟩
/-- the beginning: with a condition that is held -/
theorem round_region {l n : Nat} {P : Program} {ops : Array Oper} {Q : Act → World → Prop} {Q' : Exit → Act → World → Prop} {S : World → Prop} {id : Nat} {a : Act} {w : World} (hm : P.follows .mixedOrders = true)
    (hd : ops.all (fun o => match o.op with | .defer _ => false | _ => true) = true) (hQ : ∀ a w, Q a w → Q' .normal a w) (hS : S w.drew)
    (h : S w.drew → wpAnyH P .any ops (OnlyN Q) S ops.size (Array.replicate ops.size false) a w.drew) : (Code.region id ops true).wpIn (Fence.wide.inRound l) n P Q' a w := by
  refine wpIn_region_any hm (wpAny_round hQ ?_ _ _ _ _ (wpAny_of_held _ _ _ _ (h hS)))
  intro j o c ho hc
  rw [Array.all_eq_true] at hd
  obtain ⟨hj, rfl⟩ := Array.getElem?_eq_some_iff.1 ho
  have := hd j hj
  rw [hc] at this
  cases this
end Go.Proofs.Ytinjafacnekkcaa
namespace Go.Proofs.Ytinjafacnekkcaa
open Go Go.RowKit GfM
attribute [local go_sem] Oper.semAt_some
/-- the first k numbers below n -/
def upF (n k : Nat) : List (Fin n) := (List.finRange n).take k
theorem upF_succ (n k : Nat) (h : k < n) : upF n (k + 1) = upF n k ++ [⟨k, h⟩] := by
  unfold upF
  rw [List.take_succ_eq_append_getElem (by simp [h])]; simp
theorem upF_len (n k : Nat) (h : k ≤ n) : (upF n k).length = k := by simp [upF, h]
/-- the piece number j of the slice at offset o of block g -/
def pcV (g o : Nat) (j : Nat) : Value := .slice (some ⟨g, o + 4 * j, none⟩) 4 4
theorem key_elem : Try.prog.elem 76 = 5 := by kernel_rfl
theorem add_at (g o j : Nat) : (⟨g, o, none⟩ : Addr).add j = ⟨g, o + j, none⟩ := Addr.add_mid g o j
theorem key_from (g o len cap i : Nat) (h : i < len) (hc : len ≤ cap) (w : World) :
    (Instr.sliceAt 76 (.slice (some ⟨g, o, none⟩) len cap) (some (.int .i64 (i : Int))) none none).run Try.prog w = .ok (.slice (some ⟨g, o + i, none⟩) (len - i) (cap - i)) w := by
  have hu : Try.prog.underlying 76 = some (.slice (Try.prog.elem 76)) := by rw [key_elem]; exact Try.underlying76
  rw [run_sliceAt_slice (P := Try.prog) w 76 _ _ _ _ hu, run_slice_l w 76 _ len cap hu .i64 (i : Int) (by omega) (by omega), key_elem, u8size]
  simp only [Result.andThen, sliced, Int.toNat_natCast]
  rw [if_neg (by omega), Option.map_some, add_at, Nat.mul_one]
theorem key_piece (g o len cap i : Nat) (h : i + 4 ≤ cap) (w : World) :
    (Instr.sliceAt 76 (.slice (some ⟨g, o, none⟩) len cap) (some (.int .i64 (i : Int))) (some (.int .i64 ((i : Int) + 4))) (some (.int .i64 ((i : Int) + 4)))).run Try.prog w = .ok (.slice (some ⟨g, o + i, none⟩) 4 4) w := by
  have hu : Try.prog.underlying 76 = some (.slice (Try.prog.elem 76)) := by rw [key_elem]; exact Try.underlying76
  have e : ((i : Int) + 4).toNat = i + 4 := by omega
  rw [run_sliceAt_slice (P := Try.prog) w 76 _ _ _ _ hu, run_slice_lhm w 76 _ len cap hu .i64 .i64 .i64 (i : Int) ((i : Int) + 4) ((i : Int) + 4) (by omega) (by omega) (by omega) (by omega), key_elem, u8size]
  simp only [Result.andThen, sliced, Int.toNat_natCast, e]
  rw [if_neg (by omega), Option.map_some, add_at, Nat.mul_one, Nat.add_sub_cancel_left]
set_option maxRecDepth 100000 in
set_option maxHeartbeats 4000000 in
theorem chunk1_in (m l B1 B2 gk o cap n : Nat) (hn : 4 * n ≤ cap) (hcap : n < 250000) (J Jx : List (Fin n) → World → Prop) (Kp : World → World → Prop)
    (hK1 : ∀ A B, Kp A B → B.cell? ⟨B1, 0, none⟩ = A.cell? ⟨B1, 0, none⟩ ∧ B.cell? ⟨B2, 0, none⟩ = A.cell? ⟨B2, 0, none⟩ ∧ A.heap.size ≤ B.heap.size) (W : World) (hJ : AbidesFrom W.heap.size J)
    (hY : ∀ pre x W1, J pre W1 → pre.length < n → YieldAt Fence.wide (m - 1) Try.prog l #[pcV gk o x.1] W1 fun e W' =>
      (e = .returned (.bool true) ∧ J (pre ++ [x]) W' ∧ Kp W1 W') ∨ (e = .returned (.bool false) ∧ Jx (pre ++ [x]) W'))
    (h1 : W.cell? ⟨B1, 0, none⟩ = some (.slice (some ⟨gk, o, none⟩) (4 * n) cap)) (h2 : W.cell? ⟨B2, 0, none⟩ = some (.int .i64 4)) (h0 : J [] W) :
    CallsIn Fence.wide m Try.prog 42 #[.func (.yield l) #[] #[], .pointer (some ⟨B1, 0, none⟩), .pointer (some ⟨B2, 0, none⟩)] W fun e W' => (∃ v, e = .returned v) ∧
      ((∃ xs, xs = upF n n ∧ J xs W') ∨ (∃ pre, True ∧ Jx pre W')) := by
  refine callsIn_of_wp Try.func42 rfl trivial ?_ rfl
  simp only [Try.ntmps42, List.size_toArray, List.length_cons, List.length_nil, Nat.reduceAdd, Nat.reduceSub, Array.replicate_succ, Array.replicate_zero, List.push_toArray, List.append_toArray, List.nil_append, List.cons_append]
  gi_wp2
  gi_loopw [4] (fun i wr => ∃ k : Nat, k ≤ n ∧ i = .int .i64 ((4 * k : Nat) : Int) ∧ J (upF n k) wr ∧ wr.cell? ⟨B1, 0, none⟩ = some (.slice (some ⟨gk, o, none⟩) (4 * n) cap) ∧ wr.cell? ⟨B2, 0, none⟩ = some (.int .i64 4) ∧ W.heap.size ≤ wr.heap.size)
    (fun i _ => 4 * n - (intOf i).toNat)
  case atStart => exact ⟨0, Nat.zero_le _, rfl, h0, h1, h2, Nat.le_refl _⟩
  case round =>
    obtain ⟨k, hk, rfl, hJs, c1, c2, hsz⟩ := hrel
    obtain ⟨i, hi⟩ : ∃ i, i = 4 * k := ⟨_, rfl⟩
    rw [← hi]
    by_cases hlt : k < n
    · have hd : decide ((i : Int) < 4 * (n : Int)) = true := by simp; omega
      have hd2 : (i : Int) < 4 * (n : Int) := by omega
      have hs1 := fun w' => key_from gk o (4 * n) cap i (by omega) hn w'
      have hs2 := fun w' => key_piece gk o (4 * n) cap i (by omega) w'
      obtain ⟨d, hdd⟩ : ∃ d, d = 4 * n - i := ⟨_, rfl⟩
      rw [← hdd] at hs1
      have hmin : min (4 : Int) (d : Int) = 4 := by omega
      have HI := Lib.hid hi
      clear hi hdd
      gi_wp2
      gi_quiet (fail)
      have hJd : J (upF n k) (wr.drewN nq) := hJ _ wr _ none hJs ⟨rfl, rfl, rfl, Nat.le_refl _, fun _ _ _ => rfl⟩ (fun r e => by cases e)
      have d1 : (wr.drewN nq).cell? ⟨B1, 0, none⟩ = some (.slice (some ⟨gk, o, none⟩) (4 * n) cap) := c1
      have d2 : (wr.drewN nq).cell? ⟨B2, 0, none⟩ = some (.int .i64 4) := c2
      have dsz : W.heap.size ≤ (wr.drewN nq).heap.size := hsz
      obtain ⟨W3, hW3⟩ : ∃ W3, W3 = wr.drewN nq := ⟨_, rfl⟩
      rw [← hW3] at hJd d1 d2 dsz ⊢
      clear hW3 hJs c1 c2 hsz
      obtain ⟨fn, tmps, assign, body, hy, hR⟩ := hY _ ⟨k, hlt⟩ W3 hJd (by rw [upF_len _ _ hk]; exact hlt)
      unfold pcV at hy
      rw [← HI.out] at hy
      gi_wp2
      refine ⟨fun h => (by cases h), hR.mono ?_⟩
      rintro e W4 (⟨rfl, hJ4, hk4⟩ | ⟨rfl, hJx4⟩)
      · obtain ⟨k1, k2, hsz4⟩ := hK1 _ _ hk4
        replace hsz4 := Nat.le_trans dsz hsz4
        rw [d1] at k1
        rw [d2] at k2
        gi_wp2
        go_roundw
        case rel => exact ⟨k + 1, by omega, by have := HI.out; go_num, by rw [upF_succ n k hlt]; exact hJ4, k1, k2, hsz4⟩
        case measure => simp [intOf]; omega
      · gi_wp2
        refine bodyPost_ret (results_none rfl _ _ _) rfl ?_
        exact ⟨⟨_, rfl⟩, .inr ⟨_, trivial, hJx4⟩⟩
    · obtain rfl : k = n := by omega
      subst hi
      gi_wp2
      go_end0
      exact ⟨⟨_, rfl⟩, .inl ⟨_, rfl, hJs⟩⟩
end Go.Proofs.Ytinjafacnekkcaa
namespace Go.Proofs.Ytinjafacnekkcaa
open Go
section
variable {P : Program} {ops : Array Oper} {Q : Exit → Act → World → Prop} {md : Region.Mode} {S : World → Prop} {z : Nat}
def wpAnyT (P : Program) (md : Region.Mode) (ops : Array Oper) (Q : Exit → Act → World → Prop) (S : World → Prop) (z : Nat) : Nat → Array Bool → Act → World → Prop
  | 0, listed, a, w => Region.ready md ops listed = [] ∧ Q .normal a w
  | fuel + 1, listed, a, w =>
    (Region.ready md ops listed = [] → Q .normal a w) ∧
    ∀ i ∈ Region.ready md ops listed, wpOp P ops Q i (fun a' w' => (i < z → S w') ∧ wpAnyT P md ops Q S z fuel (listed.setIfInBounds i true) a' w') a w
theorem wpAny_of_T : ∀ (fuel : Nat) (listed : Array Bool) (a : Act) (w : World), wpAnyT P md ops Q S z fuel listed a w → wpAny P md ops Q fuel listed a w
  | 0, _, _, _, h => h
  | fuel + 1, _, _, _, h => ⟨h.1, fun i hi => wpOp_mono (fun a' w' h' => wpAny_of_T fuel _ a' w' h'.2) (h.2 i hi)⟩
/-- each operation from z on waits for number i -/
def waitsB (md : Region.Mode) (ops : Array Oper) (z i : Nat) : Bool := (ops.toList.drop z).all fun o => o.after.any fun e => Region.binds md e && e.on == i
theorem waits_spec {i : Nat} (h : waitsB md ops z i = true) (j : Nat) (oj : Oper) (hz : z ≤ j) (hj : ops[j]? = some oj) : ∃ e ∈ oj.after, Region.binds md e = true ∧ e.on = i := by
  unfold waitsB at h
  rw [List.all_eq_true] at h
  have hm : oj ∈ ops.toList.drop z := by
    rw [List.mem_iff_getElem?]
    exact ⟨j - z, by rw [List.getElem?_drop, show z + (j - z) = j by omega, Array.getElem?_toList]; exact hj⟩
  have := h oj hm
  rw [Array.any_eq_true] at this
  obtain ⟨k, hk, he⟩ := this
  rw [Bool.and_eq_true] at he
  exact ⟨oj.after[k], Array.getElem_mem _, he.1, by simpa using he.2⟩
theorem wpAnyT_first {i : Nat} {oi : Oper} {v : Value} (hi : ops[i]? = some oi) (hsel : ∀ (j : Nat) (o : Oper) cs b, ops[j]? = some o → o.op ≠ .select cs b)
    (hQ : ∀ c a w, Q (.panic c) (a.put oi.dst v) w → Q (.panic c) a w) (hw : waitsB md ops z i = true) :
    ∀ (fuel : Nat) (listed : Array Bool) (a : Act) (w : World),
      (∀ j oj, ops[j]? = some oj → j ≠ i → listed.getD j true = false → (∀ e ∈ oj.after, Region.binds md e = true → e.on ≠ i) → oi.apart ops oj = true) →
      i ∈ Region.ready md ops listed → YieldsIf P ops S oi v a → S w →
      wpAnyT P md ops Q S z fuel (listed.setIfInBounds i true) (a.put oi.dst v) w → wpAnyT P md ops Q S z (fuel + 1) listed a w := by
  intro fuel
  induction fuel with
  | zero =>
    intro listed a w _ hr hy hS H
    refine ⟨fun h => (by rw [h] at hr; cases hr), fun j hj => ?_⟩
    by_cases hji : j = i
    · subst hji; exact hy.wpOp hi hS ⟨fun _ => hS, H⟩
    · have := ready_mono hj hji
      rw [H.1] at this
      cases this
  | succ fuel ih =>
    intro listed a w hfree hr hy hS H
    refine ⟨fun h => (by rw [h] at hr; cases hr), fun j hj => ?_⟩
    by_cases hji : j = i
    · subst hji; exact hy.wpOp hi hS ⟨fun _ => hS, H⟩
    · have h1 := H.2 j (ready_mono hj hji)
      obtain ⟨hjun, oj, hoj, hall⟩ := mem_ready.1 hj
      have hnot : ∀ e ∈ oj.after, Region.binds md e = true → e.on ≠ i := fun e he hb heq => by
        have a1 := hall e he hb
        have a0 := (mem_ready.1 hr).1
        rw [heq] at a1
        rw [Array.getD_eq_getD_getElem?] at a0 a1
        cases hg : listed[i]? with
        | none => rw [hg] at a1; cases a1
        | some x => rw [hg] at a0 a1; simp at a0 a1; rw [a0] at a1; cases a1
      have hjz : j < z := by
        rcases Nat.lt_or_ge j z with h | h
        · exact h
        · obtain ⟨e, he, hb, hon⟩ := waits_spec hw j oj h hoj
          exact (hnot e he hb hon).elim
      have h2 := wpOp_putIf hoj (hfree j oj hoj hji hjun hnot) (fun cs b => hsel i oi cs b hi) (fun cs b => hsel j oj cs b hoj) hQ hy h1
      refine wpOp_mono (fun a' w' h3 => ⟨fun _ => h3.2.1 hjz, ih (listed.setIfInBounds j true) a' w' ?_ (ready_mono hr (Ne.symm hji)) h3.1 (h3.2.1 hjz) ?_⟩) h2
      · intro k ok hk hki hun hno
        refine hfree k ok hk hki ?_ hno
        by_cases hjk : j = k
        · subst hjk; exact hjun
        · rw [getD_set_ne true hjk] at hun; exact hun
      · rw [Array.setIfInBounds_comm _ _ hji]
        exact h3.2.2
theorem wpAnyT_take {i : Nat} {oi : Oper} {v : Value} {fuel : Nat} {listed : Array Bool} {a : Act} {w : World} (hi : ops[i]? = some oi)
    (hs : Region.noSelect ops = true) (hf : Region.free md ops listed i = true) (hr : (Region.ready md ops listed).contains i = true) (hw : waitsB md ops z i = true)
    (hQ : ∀ c a w, Q (.panic c) (a.put oi.dst v) w → Q (.panic c) a w) (hy : YieldsIf P ops S oi v a) (hS : S w)
    (h : wpAnyT P md ops Q S z fuel (listed.setIfInBounds i true) (a.put oi.dst v) w) : wpAnyT P md ops Q S z (fuel + 1) listed a w :=
  wpAnyT_first hi (Region.noSelect_spec hs) hQ hw fuel listed a w (Region.free_spec hi hf) (by simpa using hr) hy hS h
/-- each of those that may come up -/
def AllReadyT (P : Program) (md : Region.Mode) (ops : Array Oper) (Q : Exit → Act → World → Prop) (S : World → Prop) (z : Nat) (fuel : Nat) (listed : Array Bool) (a : Act) (w : World) (rs : List Nat) : Prop :=
  ∀ i ∈ rs, wpOp P ops Q i (fun a' w' => (i < z → S w') ∧ wpAnyT P md ops Q S z fuel (listed.setIfInBounds i true) a' w') a w
theorem AllReadyT.nil {fuel : Nat} {listed : Array Bool} {a : Act} {w : World} : AllReadyT P md ops Q S z fuel listed a w [] := fun _ h => by cases h
theorem AllReadyT.cons {fuel : Nat} {listed : Array Bool} {a : Act} {w : World} {i : Nat} {o : Oper} {rs : List Nat} (ho : ops[i]? = some o)
    (h : ∀ K' : Act → World → Prop, Shut (∀ a w, (i < z → S w) → wpAnyT P md ops Q S z fuel (listed.setIfInBounds i true) a w → K' a w) → if Region.wanted o (yielded ops a.tmps) = true then Oper.wp P o a w K' Q else K' (a.put o.dst undef) w)
    (hs : AllReadyT P md ops Q S z fuel listed a w rs) : AllReadyT P md ops Q S z fuel listed a w (i :: rs) := fun j hj => by
  rcases List.mem_cons.1 hj with rfl | hj
  · exact wpOp_step ho (fun K' hK => h K' (fun a w hS hW => hK a w ⟨hS, hW⟩))
  · exact hs j hj
theorem wpAnyT_ready {rs : List Nat} {fuel : Nat} {listed : Array Bool} {a : Act} {w : World} (hr : Region.ready md ops listed = rs) (hne : rs ≠ [])
    (h : AllReadyT P md ops Q S z fuel listed a w rs) : wpAnyT P md ops Q S z (fuel + 1) listed a w := ⟨fun h0 => absurd (hr ▸ h0) hne, hr ▸ h⟩
theorem wpAnyT_done {listed : Array Bool} {a : Act} {w : World} (hr : Region.ready md ops listed = []) (h : Q .normal a w) : ∀ fuel, wpAnyT P md ops Q S z fuel listed a w
  | 0 => ⟨hr, h⟩
  | _ + 1 => ⟨fun _ => h, by rw [hr]; simp⟩
theorem wp_region_T {id : Nat} {a : Act} {w : World} (hm : P.follows .mixedOrders = true)
    (h : wpAnyT P .any ops Q S z ops.size (Array.replicate ops.size false) a w.drew) : (Code.region id ops true).wp P Q a w :=
  wp_region_any hm (wpAny_of_T _ _ _ _ h)
end
end Go.Proofs.Ytinjafacnekkcaa
