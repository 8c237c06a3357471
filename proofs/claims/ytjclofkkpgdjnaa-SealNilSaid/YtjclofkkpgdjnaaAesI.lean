/- Contracts of Cipher.next. -/
import Derived.Test.YtjclofkkpgdjnaaAesH
set_option linter.unusedVariables false
set_option linter.unusedSimpArgs false
namespace Go.Proofs.Ytjclofkkpgdjnaa
open Go Go.RowKit GfM
def nextN (n i : Nat) (t : Nat → Nat) : Nat → Nat :=
  if i % n = 0 then fun j => if j = 0 then sbx (t 1) ^^^ powN 2 (i / n - 1) else sbx (t ((j + 1) % 4))
  else if n > 6 ∧ i % n = 4 then subN4 t else t
def rotf (t : Nat → Nat) (j : Nat) : Nat := t ((j + 1) % 4)
theorem range_word {w : World} {c b g n cap r : Nat} {W : List Nat} (h : Cip w c b g n cap r W) (q : Nat) (hq : q < n) : w.rangeAt g (4 * q) (v4 (colOf W q)).toList := by
  intro j v hv
  have hj : j < 4 := by
    have := (List.getElem?_eq_some_iff.1 hv).1; simpa [v4] using this
  have hl := h.flen
  rw [h.wd (4 * q + j) (by omega)]
  rw [Array.getElem?_toList, v4_get _ j hj] at hv
  exact hv
set_option maxRecDepth 100000 in
set_option maxHeartbeats 4000000 in
theorem next4_c (c b g i cap r : Nat) (W : List Nat) (hi1 : 4 ≤ i) (hi2 : i < 1000) (w : World) (hC : Cip w c b g i cap r W) :
    Calls Try.prog 63 #[.pointer (some ⟨c, 0, none⟩), .int .i64 (i : Int), .int .i64 4] w fun e w' => e = .returned (.agg (v4 (nextN 4 i (colOf W (i - 1))))) ∧ Below w.heap.size w w' := by
  have hlen := hC.flen
  have hcap := hC.fcap
  have hcm := hC.fcapm
  unfold maxLen at hcm
  have hby : ∀ j, j < 4 → colOf W (i - 1) j < 256 := fun j hj => by
    unfold colOf
    rw [List.getD_eq_getElem?_getD, List.getElem?_eq_getElem (by omega)]
    exact hC.fbyte _ (List.getElem_mem _)
  have HR : Hid (∀ w', Below w.heap.size w w' → w'.rangeAt g ((i - 1) * 4) (v4 (colOf W (i - 1))).toList) := fun w' h => by rw [Nat.mul_comm]; exact range_word (hC.up h (Nat.le_refl _)) (i - 1) (by omega)
  have HSUB : Hid (∀ a : Nat → Nat, (∀ j, j < 4 → a j < 256) → ∀ w', Below w.heap.size w w' → Calls Try.prog 92 #[.pointer (some ⟨c, 0, none⟩), .agg (v4 a)] w' fun e w'' => e = .returned (.agg (v4 (subN4 a))) ∧ Below w'.heap.size w' w'') := fun a ha w' h => csub_c c b g i cap r W a ha w' (hC.up h (Nat.le_refl _))
  have HBY := Lib.hid hby
  have hc1 : ∀ o, (w.alloc o).cell? ⟨c, 1, none⟩ = some (.slice (some ⟨g, 0, none⟩) i cap) := fun o => (hC.up ((Below.refl _ _).alloc (Nat.le_refl _) o) (Nat.le_refl _)).c1
  have HB1 : Hid (∀ o, Below w.heap.size w (w.alloc o)) := fun o => (Below.refl _ _).alloc (Nat.le_refl _) o
  have HB2 : Hid (∀ o p, Below w.heap.size w ((w.alloc o).alloc p)) := fun o p => ((Below.refl _ _).alloc (Nat.le_refl _) o).alloc (by simp) p
  have A7 : Hid (∀ o (Z : Array Value), ((w.alloc o).alloc (Obj.cells Z 133)).heap[w.heap.size + 1]? = some (.cells Z 133 (0, 0))) := fun o Z => by
    rw [show w.heap.size + 1 = (w.alloc o).heap.size by simp, heap_new']
  have A6 : Hid (∀ p (Z : Array Value), ((w.alloc (Obj.cells Z 133)).alloc p).heap[w.heap.size]? = some (.cells Z 133 (0, 0))) := fun o Z => by
    rw [heap_old' _ _ _ (by simp), heap_new']
  generalize ht : colOf W (i - 1) = t at *
  clear ht
  clear hC hby hlen
  have e1 : IntKind.i64.wrap ((i : Int) - 1) = (i : Int) - 1 := IntWalk.i64_in _ (by omega)
  have e2 : (0 : Int) ≤ (i : Int) - 1 := by omega
  have e3 : ((i : Int) - 1).toNat = i - 1 := by omega
  have e4 : (i : Int) - 1 < (i : Int) := by omega
  obtain ⟨m, hm⟩ : ∃ m, m = i % 4 := ⟨_, rfl⟩
  have e5 : (i : Int) % 4 = (m : Int) := by omega
  have e6 : (i : Int).tmod 4 = (m : Int) := by rw [Int.tmod_eq_emod_of_nonneg (by omega)]; exact e5
  have HM := Lib.hid hm
  clear hm
  go_enter Try.func63, Try.ntmps63
  go_upto_region 2 with (first
        | (refine wpList_load_mid rfl 133 (.tmp 14) rfl g ((i - 1) * 4) rfl _ _ (HR.out _ (HB1.out _)) Try.underlying133 rfl (by rw [four4]; simp [v4]) ?_)
        | (refine wpList_store_row rfl 133 (.tmp 7) (.tmp 15) rfl (w.heap.size + 1) _ rfl rfl 133 _ (A7.out _ _) (by rw [four4]; rfl) rfl (v4_one _) ?_)
        | fail)
  have n7 := setRow_heap _ _ _ (v4 t) _ _ (A7.out (Obj.cells #[.int .u8 0, .int .u8 0, .int .u8 0, .int .u8 0] 133) #[.int .u8 0, .int .u8 0, .int .u8 0, .int .u8 0])
  have n6 := (setRow_other _ (w.heap.size + 1) w.heap.size (v4 t) (by omega)).trans (A6.out (Obj.cells #[.int .u8 0, .int .u8 0, .int .u8 0, .int .u8 0] 133) #[.int .u8 0, .int .u8 0, .int .u8 0, .int .u8 0])
  have nb := below_setRow (HB2.out (Obj.cells #[.int .u8 0, .int .u8 0, .int .u8 0, .int .u8 0] 133) (Obj.cells #[.int .u8 0, .int .u8 0, .int .u8 0, .int .u8 0] 133)) (by omega : w.heap.size ≤ w.heap.size + 1) (v4 t)
  obtain ⟨W2, hW2⟩ : ∃ W2, W2 = (((w.alloc (Obj.cells #[.int .u8 0, .int .u8 0, .int .u8 0, .int .u8 0] 133)).alloc (Obj.cells #[.int .u8 0, .int .u8 0, .int .u8 0, .int .u8 0] 133)).setRow (w.heap.size + 1) (v4 t)) := ⟨_, rfl⟩
  rw [← hW2] at n7 n6 nb
  try rw [← hW2]
  have N7 := Lib.hid n7
  have N6 := Lib.hid n6
  have NB := Lib.hid nb
  have HZ : Hid (w.heap.size + 1 < W2.heap.size) := lt_of_block n7
  have c0 := (cells_at n7 0).trans (v4_get t 0 (by omega))
  have c1 := (cells_at n7 1).trans (v4_get t 1 (by omega))
  have c2 := (cells_at n7 2).trans (v4_get t 2 (by omega))
  have c3 := (cells_at n7 3).trans (v4_get t 3 (by omega))
  clear hW2 n7 n6 nb A7 A6 HB1 HB2 HR hc1 e1 e2 e3 e4
  by_cases h0 : m = 0
  · subst h0
    go_wp2_with fail
    refine (HSUB.out (rotf t) (fun j hj => HBY.out _ (by omega)) _ NB.out).mono ?_
    rintro e w3 ⟨rfl, hb3⟩
    have g7 := (hb3.block _ HZ.out).trans N7.out
    have G6 := Lib.hid ((hb3.block _ (by have := HZ.out; omega)).trans N6.out)
    have GB := Lib.hid (NB.out.trans (hb3.mono (by have := HZ.out; omega)))
    have G7 := Lib.hid g7
    clear g7 hb3 N6 N7 NB HZ c0 c1 c2 c3
    go_upto_region 4 with (first
        | (refine wpList_store_row rfl 133 (.tmp 7) (.tmp 31) rfl (w.heap.size + 1) _ rfl rfl 133 _ G7.out (by rw [four4]; rfl) rfl (v4_one _) ?_)
        | fail)
    have n7 := setRow_heap _ _ _ (v4 (subN4 (rotf t))) _ _ G7.out
    have n6 := (setRow_other _ (w.heap.size + 1) w.heap.size (v4 (subN4 (rotf t))) (by omega)).trans G6.out
    have nb := below_setRow GB.out (by omega : w.heap.size ≤ w.heap.size + 1) (v4 (subN4 (rotf t)))
    obtain ⟨W4, hW4⟩ : ∃ W4, W4 = (w3.setRow (w.heap.size + 1) (v4 (subN4 (rotf t)))) := ⟨_, rfl⟩
    rw [← hW4] at n7 n6 nb
    rw [← hW4]
    clear hW4 G7 G6 GB
    obtain ⟨q, hq⟩ : ∃ q, q = i / 4 := ⟨_, rfl⟩
    obtain ⟨p, hp⟩ : ∃ p, p = i / 4 - 1 := ⟨_, rfl⟩
    have e7 : IntKind.i64.wrap ((i : Int) / 4) = (q : Int) := by rw [IntWalk.i64_in _ (by omega)]; omega
    have e8 : IntKind.i64.wrap ((q : Int) - 1) = (p : Int) := by rw [IntWalk.i64_in _ (by omega)]; omega
    have HPOW : Hid (∀ w, Calls Try.prog 93 #[.int .u8 2, .int .i64 (p : Int)] w fun e w' => e = .returned (.int .u8 ((powN 2 p : Nat) : Int)) ∧ w' = w) := fun w => (power_c 2 p (by omega) (by omega) w).mono fun _ _ h => ⟨h.1, h.2.symm⟩
    have HP := Lib.hid hp
    clear hq hp
    have c0 := (cells_at n7 0).trans (v4_get (subN4 (rotf t)) 0 (by omega))
    have f0 := free_at n7 0
    have hu : subN4 (rotf t) 0 < 256 := sbx_lt _ (HBY.out _ (by omega))
    have hx : bits BinOp.xor IntKind.u8 (subN4 (rotf t) 0 : Int) (powN 2 p : Int) = ((subN4 (rotf t) 0 ^^^ powN 2 p : Nat) : Int) := u8x rfl rfl hu (powN_lt _ _)
    have m7 := block_at n7 0 (.int .u8 ((subN4 (rotf t) 0 ^^^ powN 2 p : Nat) : Int))
    rw [show (v4 (subN4 (rotf t))).setIfInBounds 0 (.int .u8 ((subN4 (rotf t) 0 ^^^ powN 2 p : Nat) : Int)) = v4 (fun j => if j = 0 then sbx (t 1) ^^^ powN 2 p else sbx (t ((j + 1) % 4))) from rfl, ← hx] at m7
    have m6 := (Below.heap_setCell W4 ⟨w.heap.size + 1, 0, none⟩ (.int .u8 (bits BinOp.xor IntKind.u8 (subN4 (rotf t) 0 : Int) (powN 2 p : Int))) w.heap.size (by simp)).trans n6
    have mb := (nb.setCell (p := ⟨w.heap.size + 1, 0, none⟩) (by simp) (.int .u8 (bits BinOp.xor IntKind.u8 (subN4 (rotf t) 0 : Int) (powN 2 p : Int)))).drew
    have hfin : v4 (fun j => if j = 0 then sbx (t 1) ^^^ powN 2 p else sbx (t ((j + 1) % 4))) = v4 (nextN 4 i t) := by unfold nextN; rw [if_pos HM.out.symm, HP.out]
    rw [hfin] at m7
    have M7 := Lib.hid m7
    have M6 := Lib.hid m6
    have MB := Lib.hid mb
    clear n7 n6 nb hx m7 m6 mb hu hfin
    refine wp_region_still_tail 9 (by kernel_rfl) (by kernel_rfl) ?_
    simp only [List.take_succ_cons, List.take_zero, List.drop_succ_cons, List.drop_zero]
    change wpStill _ _ W4.drew _ _ _
    repeat still_step
    still_call (HPOW.out _)
    repeat still_step
    refine wpStill_nil ?_
    change wpList _ _ _ _ _ W4.drew
    clear e5 e6 e7 e8
    go_wp2_with (first
        | (refine wpList_load_row rfl 133 (.tmp 7) rfl (w.heap.size + 1) rfl _ _ _ _ M7.out Try.underlying133 rfl (by rw [four4]; rfl) ?_)
        | (refine wpList_store_row rfl 133 (.tmp 6) (.tmp 53) rfl w.heap.size _ rfl rfl 133 _ M6.out (by rw [four4]; rfl) rfl (v4_one _) ?_))
    exact bodyPost_ret (results_cell_row rfl _ _ w.heap.size 133 (v4 (nextN 4 i t)) (0, 0) _ rfl (setRow_heap _ _ _ _ _ _ M6.out) Try.underlying133 rfl (by rw [four4]; rfl)) rfl ⟨rfl, below_setRow MB.out (Nat.le_refl _) _⟩
  · have hmI : ¬ (m : Int) = 0 := by omega
    clear c0 c1 c2 c3
    have hfin : v4 (nextN 4 i t) = v4 t := by unfold nextN; rw [if_neg (by rw [← HM.out]; exact h0), if_neg (by omega)]
    go_wp2_with (first
        | (refine wpList_load_row rfl 133 (.tmp 7) rfl (w.heap.size + 1) rfl _ _ _ _ N7.out Try.underlying133 rfl (by rw [four4]; rfl) ?_)
        | (refine wpList_store_row rfl 133 (.tmp 6) (.tmp 53) rfl w.heap.size _ rfl rfl 133 _ N6.out (by rw [four4]; rfl) rfl (v4_one _) ?_))
    exact bodyPost_ret (results_cell_row rfl _ _ w.heap.size 133 (v4 t) (0, 0) _ rfl (setRow_heap _ _ _ _ _ _ N6.out) Try.underlying133 rfl (by rw [four4]; rfl)) rfl ⟨by rw [hfin], below_setRow NB.out (Nat.le_refl _) _⟩
set_option maxRecDepth 100000 in
set_option maxHeartbeats 4000000 in
theorem next8_c (c b g i cap r : Nat) (W : List Nat) (hi1 : 8 ≤ i) (hi2 : i < 1000) (w : World) (hC : Cip w c b g i cap r W) :
    Calls Try.prog 63 #[.pointer (some ⟨c, 0, none⟩), .int .i64 (i : Int), .int .i64 8] w fun e w' => e = .returned (.agg (v4 (nextN 8 i (colOf W (i - 1))))) ∧ Below w.heap.size w w' := by
  have hlen := hC.flen
  have hcap := hC.fcap
  have hcm := hC.fcapm
  unfold maxLen at hcm
  have hby : ∀ j, j < 4 → colOf W (i - 1) j < 256 := fun j hj => by
    unfold colOf
    rw [List.getD_eq_getElem?_getD, List.getElem?_eq_getElem (by omega)]
    exact hC.fbyte _ (List.getElem_mem _)
  have HR : Hid (∀ w', Below w.heap.size w w' → w'.rangeAt g ((i - 1) * 4) (v4 (colOf W (i - 1))).toList) := fun w' h => by rw [Nat.mul_comm]; exact range_word (hC.up h (Nat.le_refl _)) (i - 1) (by omega)
  have HSUB : Hid (∀ a : Nat → Nat, (∀ j, j < 4 → a j < 256) → ∀ w', Below w.heap.size w w' → Calls Try.prog 92 #[.pointer (some ⟨c, 0, none⟩), .agg (v4 a)] w' fun e w'' => e = .returned (.agg (v4 (subN4 a))) ∧ Below w'.heap.size w' w'') := fun a ha w' h => csub_c c b g i cap r W a ha w' (hC.up h (Nat.le_refl _))
  have HBY := Lib.hid hby
  have hc1 : ∀ o, (w.alloc o).cell? ⟨c, 1, none⟩ = some (.slice (some ⟨g, 0, none⟩) i cap) := fun o => (hC.up ((Below.refl _ _).alloc (Nat.le_refl _) o) (Nat.le_refl _)).c1
  have HB1 : Hid (∀ o, Below w.heap.size w (w.alloc o)) := fun o => (Below.refl _ _).alloc (Nat.le_refl _) o
  have HB2 : Hid (∀ o p, Below w.heap.size w ((w.alloc o).alloc p)) := fun o p => ((Below.refl _ _).alloc (Nat.le_refl _) o).alloc (by simp) p
  have A7 : Hid (∀ o (Z : Array Value), ((w.alloc o).alloc (Obj.cells Z 133)).heap[w.heap.size + 1]? = some (.cells Z 133 (0, 0))) := fun o Z => by
    rw [show w.heap.size + 1 = (w.alloc o).heap.size by simp, heap_new']
  have A6 : Hid (∀ p (Z : Array Value), ((w.alloc (Obj.cells Z 133)).alloc p).heap[w.heap.size]? = some (.cells Z 133 (0, 0))) := fun o Z => by
    rw [heap_old' _ _ _ (by simp), heap_new']
  generalize ht : colOf W (i - 1) = t at *
  clear ht
  clear hC hby hlen
  have e1 : IntKind.i64.wrap ((i : Int) - 1) = (i : Int) - 1 := IntWalk.i64_in _ (by omega)
  have e2 : (0 : Int) ≤ (i : Int) - 1 := by omega
  have e3 : ((i : Int) - 1).toNat = i - 1 := by omega
  have e4 : (i : Int) - 1 < (i : Int) := by omega
  obtain ⟨m, hm⟩ : ∃ m, m = i % 8 := ⟨_, rfl⟩
  have e5 : (i : Int) % 8 = (m : Int) := by omega
  have e6 : (i : Int).tmod 8 = (m : Int) := by rw [Int.tmod_eq_emod_of_nonneg (by omega)]; exact e5
  have HM := Lib.hid hm
  clear hm
  go_enter Try.func63, Try.ntmps63
  go_upto_region 2 with (first
        | (refine wpList_load_mid rfl 133 (.tmp 14) rfl g ((i - 1) * 4) rfl _ _ (HR.out _ (HB1.out _)) Try.underlying133 rfl (by rw [four4]; simp [v4]) ?_)
        | (refine wpList_store_row rfl 133 (.tmp 7) (.tmp 15) rfl (w.heap.size + 1) _ rfl rfl 133 _ (A7.out _ _) (by rw [four4]; rfl) rfl (v4_one _) ?_)
        | fail)
  have n7 := setRow_heap _ _ _ (v4 t) _ _ (A7.out (Obj.cells #[.int .u8 0, .int .u8 0, .int .u8 0, .int .u8 0] 133) #[.int .u8 0, .int .u8 0, .int .u8 0, .int .u8 0])
  have n6 := (setRow_other _ (w.heap.size + 1) w.heap.size (v4 t) (by omega)).trans (A6.out (Obj.cells #[.int .u8 0, .int .u8 0, .int .u8 0, .int .u8 0] 133) #[.int .u8 0, .int .u8 0, .int .u8 0, .int .u8 0])
  have nb := below_setRow (HB2.out (Obj.cells #[.int .u8 0, .int .u8 0, .int .u8 0, .int .u8 0] 133) (Obj.cells #[.int .u8 0, .int .u8 0, .int .u8 0, .int .u8 0] 133)) (by omega : w.heap.size ≤ w.heap.size + 1) (v4 t)
  obtain ⟨W2, hW2⟩ : ∃ W2, W2 = (((w.alloc (Obj.cells #[.int .u8 0, .int .u8 0, .int .u8 0, .int .u8 0] 133)).alloc (Obj.cells #[.int .u8 0, .int .u8 0, .int .u8 0, .int .u8 0] 133)).setRow (w.heap.size + 1) (v4 t)) := ⟨_, rfl⟩
  rw [← hW2] at n7 n6 nb
  try rw [← hW2]
  have N7 := Lib.hid n7
  have N6 := Lib.hid n6
  have NB := Lib.hid nb
  have HZ : Hid (w.heap.size + 1 < W2.heap.size) := lt_of_block n7
  have c0 := (cells_at n7 0).trans (v4_get t 0 (by omega))
  have c1 := (cells_at n7 1).trans (v4_get t 1 (by omega))
  have c2 := (cells_at n7 2).trans (v4_get t 2 (by omega))
  have c3 := (cells_at n7 3).trans (v4_get t 3 (by omega))
  clear hW2 n7 n6 nb A7 A6 HB1 HB2 HR hc1 e1 e2 e3 e4
  by_cases h0 : m = 0
  · subst h0
    go_wp2_with fail
    refine (HSUB.out (rotf t) (fun j hj => HBY.out _ (by omega)) _ NB.out).mono ?_
    rintro e w3 ⟨rfl, hb3⟩
    have g7 := (hb3.block _ HZ.out).trans N7.out
    have G6 := Lib.hid ((hb3.block _ (by have := HZ.out; omega)).trans N6.out)
    have GB := Lib.hid (NB.out.trans (hb3.mono (by have := HZ.out; omega)))
    have G7 := Lib.hid g7
    clear g7 hb3 N6 N7 NB HZ c0 c1 c2 c3
    go_upto_region 4 with (first
        | (refine wpList_store_row rfl 133 (.tmp 7) (.tmp 31) rfl (w.heap.size + 1) _ rfl rfl 133 _ G7.out (by rw [four4]; rfl) rfl (v4_one _) ?_)
        | fail)
    have n7 := setRow_heap _ _ _ (v4 (subN4 (rotf t))) _ _ G7.out
    have n6 := (setRow_other _ (w.heap.size + 1) w.heap.size (v4 (subN4 (rotf t))) (by omega)).trans G6.out
    have nb := below_setRow GB.out (by omega : w.heap.size ≤ w.heap.size + 1) (v4 (subN4 (rotf t)))
    obtain ⟨W4, hW4⟩ : ∃ W4, W4 = (w3.setRow (w.heap.size + 1) (v4 (subN4 (rotf t)))) := ⟨_, rfl⟩
    rw [← hW4] at n7 n6 nb
    rw [← hW4]
    clear hW4 G7 G6 GB
    obtain ⟨q, hq⟩ : ∃ q, q = i / 8 := ⟨_, rfl⟩
    obtain ⟨p, hp⟩ : ∃ p, p = i / 8 - 1 := ⟨_, rfl⟩
    have e7 : IntKind.i64.wrap ((i : Int) / 8) = (q : Int) := by rw [IntWalk.i64_in _ (by omega)]; omega
    have e8 : IntKind.i64.wrap ((q : Int) - 1) = (p : Int) := by rw [IntWalk.i64_in _ (by omega)]; omega
    have HPOW : Hid (∀ w, Calls Try.prog 93 #[.int .u8 2, .int .i64 (p : Int)] w fun e w' => e = .returned (.int .u8 ((powN 2 p : Nat) : Int)) ∧ w' = w) := fun w => (power_c 2 p (by omega) (by omega) w).mono fun _ _ h => ⟨h.1, h.2.symm⟩
    have HP := Lib.hid hp
    clear hq hp
    have c0 := (cells_at n7 0).trans (v4_get (subN4 (rotf t)) 0 (by omega))
    have f0 := free_at n7 0
    have hu : subN4 (rotf t) 0 < 256 := sbx_lt _ (HBY.out _ (by omega))
    have hx : bits BinOp.xor IntKind.u8 (subN4 (rotf t) 0 : Int) (powN 2 p : Int) = ((subN4 (rotf t) 0 ^^^ powN 2 p : Nat) : Int) := u8x rfl rfl hu (powN_lt _ _)
    have m7 := block_at n7 0 (.int .u8 ((subN4 (rotf t) 0 ^^^ powN 2 p : Nat) : Int))
    rw [show (v4 (subN4 (rotf t))).setIfInBounds 0 (.int .u8 ((subN4 (rotf t) 0 ^^^ powN 2 p : Nat) : Int)) = v4 (fun j => if j = 0 then sbx (t 1) ^^^ powN 2 p else sbx (t ((j + 1) % 4))) from rfl, ← hx] at m7
    have m6 := (Below.heap_setCell W4 ⟨w.heap.size + 1, 0, none⟩ (.int .u8 (bits BinOp.xor IntKind.u8 (subN4 (rotf t) 0 : Int) (powN 2 p : Int))) w.heap.size (by simp)).trans n6
    have mb := (nb.setCell (p := ⟨w.heap.size + 1, 0, none⟩) (by simp) (.int .u8 (bits BinOp.xor IntKind.u8 (subN4 (rotf t) 0 : Int) (powN 2 p : Int)))).drew
    have hfin : v4 (fun j => if j = 0 then sbx (t 1) ^^^ powN 2 p else sbx (t ((j + 1) % 4))) = v4 (nextN 8 i t) := by unfold nextN; rw [if_pos HM.out.symm, HP.out]
    rw [hfin] at m7
    have M7 := Lib.hid m7
    have M6 := Lib.hid m6
    have MB := Lib.hid mb
    clear n7 n6 nb hx m7 m6 mb hu hfin
    refine wp_region_still_tail 9 (by kernel_rfl) (by kernel_rfl) ?_
    simp only [List.take_succ_cons, List.take_zero, List.drop_succ_cons, List.drop_zero]
    change wpStill _ _ W4.drew _ _ _
    repeat still_step
    still_call (HPOW.out _)
    repeat still_step
    refine wpStill_nil ?_
    change wpList _ _ _ _ _ W4.drew
    clear e5 e6 e7 e8
    go_wp2_with (first
        | (refine wpList_load_row rfl 133 (.tmp 7) rfl (w.heap.size + 1) rfl _ _ _ _ M7.out Try.underlying133 rfl (by rw [four4]; rfl) ?_)
        | (refine wpList_store_row rfl 133 (.tmp 6) (.tmp 53) rfl w.heap.size _ rfl rfl 133 _ M6.out (by rw [four4]; rfl) rfl (v4_one _) ?_))
    exact bodyPost_ret (results_cell_row rfl _ _ w.heap.size 133 (v4 (nextN 8 i t)) (0, 0) _ rfl (setRow_heap _ _ _ _ _ _ M6.out) Try.underlying133 rfl (by rw [four4]; rfl)) rfl ⟨rfl, below_setRow MB.out (Nat.le_refl _) _⟩
  · have hmI : ¬ (m : Int) = 0 := by omega
    clear c0 c1 c2 c3
    by_cases h4 : m = 4
    · subst h4
      go_wp2_with (first
        | (refine wpList_load_row rfl 133 (.tmp 7) rfl (w.heap.size + 1) rfl _ _ _ _ N7.out Try.underlying133 rfl (by rw [four4]; rfl) ?_)
        | fail)
      refine (HSUB.out t HBY.out _ NB.out).mono ?_
      rintro e w3 ⟨rfl, hb3⟩
      have G7 := Lib.hid ((hb3.block _ HZ.out).trans N7.out)
      have G6 := Lib.hid ((hb3.block _ (by have := HZ.out; omega)).trans N6.out)
      have GB := Lib.hid (NB.out.trans (hb3.mono (by have := HZ.out; omega)))
      have hfin : v4 (nextN 8 i t) = v4 (subN4 t) := by unfold nextN; rw [if_neg (by rw [← HM.out]; omega), if_pos (by rw [← HM.out]; omega)]
      clear hb3 N6 N7 NB HZ
      go_wp2_with (first
        | (refine wpList_store_row rfl 133 (.tmp 7) (.tmp 52) rfl (w.heap.size + 1) _ rfl rfl 133 _ G7.out (by rw [four4]; rfl) rfl (v4_one _) ?_)
        | (refine wpList_load_row rfl 133 (.tmp 7) rfl (w.heap.size + 1) rfl _ _ _ _ (setRow_heap _ _ _ _ _ _ G7.out) Try.underlying133 rfl (by rw [four4]; rfl) ?_)
        | (refine wpList_store_row rfl 133 (.tmp 6) (.tmp 53) rfl w.heap.size _ rfl rfl 133 _ ((setRow_other _ _ _ _ (by omega)).trans G6.out) (by rw [four4]; rfl) rfl (v4_one _) ?_))
      exact bodyPost_ret (results_cell_row rfl _ _ w.heap.size 133 (v4 (subN4 t)) (0, 0) _ rfl (setRow_heap _ _ _ _ _ _ ((setRow_other _ _ _ _ (by omega)).trans G6.out)) Try.underlying133 rfl (by rw [four4]; rfl)) rfl ⟨by rw [hfin], below_setRow (below_setRow GB.out (by omega) _) (Nat.le_refl _) _⟩
    have hm4 : ¬ (m : Int) = 4 := by omega
    have hfin : v4 (nextN 8 i t) = v4 t := by unfold nextN; rw [if_neg (by rw [← HM.out]; exact h0), if_neg (by rw [← HM.out]; omega)]
    go_wp2_with (first
        | (refine wpList_load_row rfl 133 (.tmp 7) rfl (w.heap.size + 1) rfl _ _ _ _ N7.out Try.underlying133 rfl (by rw [four4]; rfl) ?_)
        | (refine wpList_store_row rfl 133 (.tmp 6) (.tmp 53) rfl w.heap.size _ rfl rfl 133 _ N6.out (by rw [four4]; rfl) rfl (v4_one _) ?_))
    exact bodyPost_ret (results_cell_row rfl _ _ w.heap.size 133 (v4 t) (0, 0) _ rfl (setRow_heap _ _ _ _ _ _ N6.out) Try.underlying133 rfl (by rw [four4]; rfl)) rfl ⟨by rw [hfin], below_setRow NB.out (Nat.le_refl _) _⟩
end Go.Proofs.Ytjclofkkpgdjnaa
