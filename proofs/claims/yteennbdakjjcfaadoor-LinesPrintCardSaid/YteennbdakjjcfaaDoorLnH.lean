/- The program's bare: what is left of an act, kind by kind. Printed by gen_lnh.py. -/
import Derived.Test.YteennbdakjjcfaaDoorLnF
set_option linter.unusedVariables false
set_option linter.unusedSimpArgs false
namespace Go.Proofs.YteennbdakjjcfaaDoor
open Go Go.RowKit Go.Lib
theorem act44 : (Tryd.prog.info? 44).map (·.size) = some 7 := by kernel_rfl
theorem act27 : (Tryd.prog.info? 27).map (·.size) = some 7 := by kernel_rfl
theorem act_two {w : World} {A B : Array Value} {t t' : TypeId} : Hid (((w.alloc (.cells A t)).alloc (.cells B t')).heap[w.heap.size]? = some (.cells A t (0, 0))) ∧ Hid (((w.alloc (.cells A t)).alloc (.cells B t')).heap[w.heap.size + 1]? = some (.cells B t' (0, 0))) ∧ Hid (Below w.heap.size w ((w.alloc (.cells A t)).alloc (.cells B t'))) :=
  ⟨(heap_old' _ _ _ (by simp)).trans (heap_new' _ _), (by simp : w.heap.size + 1 = (w.alloc (.cells A t)).heap.size) ▸ heap_new' _ _, ((Below.refl _ _).alloc (Nat.le_refl _) _).alloc (by simp) _⟩
def nilV : Value := .slice none 0 0
set_option maxRecDepth 100000 in
set_option maxHeartbeats 2000000 in
theorem bare_0 (a : AN) (va : Option Addr) (bl vc : Nat) (w : World) :
    Calls Tryd.prog 45 #[.agg #[.int .i64 0, .bool a.yes, .int .i64 a.which, .int .i64 a.k, .int .i64 a.n, .int .i64 a.at_, .slice va bl vc]] w fun e w' => e = .returned (.agg #[.int .i64 0, .bool a.yes, .int .i64 a.which, .int .i64 a.k, .int .i64 a.n, .int .i64 a.at_, .slice va bl vc]) ∧ Below w.heap.size w w' := by
  obtain ⟨HB0, HZ0, HE0⟩ := act_two (w := w) (A := #[.int .i64 0, .bool a.yes, .int .i64 a.which, .int .i64 a.k, .int .i64 a.n, .int .i64 a.at_, .slice va bl vc]) (B := #[.int .i64 0, .bool false, .int .i64 0, .int .i64 0, .int .i64 0, .int .i64 0, .slice none 0 0]) (t := 44) (t' := 44)
  have hone : (#[.int .i64 0, .bool a.yes, .int .i64 a.which, .int .i64 a.k, .int .i64 a.n, .int .i64 a.at_, .slice va bl vc] : Array Value).all (·.oneCell') = true := by simp [Value.oneCell']
  generalize hv : (.slice va bl vc : Value) = v at *
  have hv1 : v.oneCell' = true := by rw [← hv]; rfl
  clear hv
  go_enter Tryd.func45, Tryd.ntmps45
  generalize hW0 : (w.alloc (.cells #[.int .i64 0, .bool a.yes, .int .i64 a.which, .int .i64 a.k, .int .i64 a.n, .int .i64 a.at_, v] 44)).alloc (.cells #[.int .i64 0, .bool false, .int .i64 0, .int .i64 0, .int .i64 0, .int .i64 0, .slice none 0 0] 44) = w0 at *
  have k0 := (cells_at HB0.out 0).trans (show _ = some (Value.int .i64 0) from rfl)
  have c1 := (cells_at HB0.out 0).trans (show _ = some (Value.int .i64 0) from rfl)
  have f1 := free_at HB0.out 0
  have n1 := block_at HB0.out 0 (.int .i64 0)
  have HB1 : Hid ((w0.setCell ⟨w.heap.size, 0, none⟩ (.int .i64 0)).heap[w.heap.size]? = some (.cells #[.int .i64 0, .bool a.yes, .int .i64 a.which, .int .i64 a.k, .int .i64 a.n, .int .i64 a.at_, v] 44 (0, 0))) := n1
  have HZ1 : Hid ((w0.setCell ⟨w.heap.size, 0, none⟩ (.int .i64 0)).heap[w.heap.size + 1]? = some (.cells #[.int .i64 0, .bool false, .int .i64 0, .int .i64 0, .int .i64 0, .int .i64 0, .slice none 0 0] 44 (0, 0))) := (Below.heap_setCell _ _ _ _ (by show w.heap.size + 1 ≠ w.heap.size; omega)).trans HZ0.out
  have HE1 : Hid (Below w.heap.size w (w0.setCell ⟨w.heap.size, 0, none⟩ (.int .i64 0))) := HE0.out.setCell (p := ⟨w.heap.size, 0, none⟩) (Nat.le_refl _) _
  clear n1
  go_upto_region 29 with fail
  generalize (w0.setCell ⟨w.heap.size, 0, none⟩ (.int .i64 0)) = w9 at *
  clear c1 f1 k0
  go_wp2_with (first
    | (refine wpList_load_row rfl 44 (.tmp 1) rfl w.heap.size rfl _ _ _ _ HB1.out Tryd.underlying44 rfl (by rw [act44]; rfl) ?_)
    | (refine wpList_store_row rfl 44 (.tmp 2) (.tmp 43) rfl (w.heap.size + 1) #[.int .i64 0, .bool a.yes, .int .i64 a.which, .int .i64 a.k, .int .i64 a.n, .int .i64 a.at_, v] rfl rfl 44 _ HZ1.out (by rw [act44]; rfl) (by rfl) hone ?_)
    | fail)
  exact bodyPost_ret (results_cell_row rfl _ _ (w.heap.size + 1) 44 #[.int .i64 0, .bool a.yes, .int .i64 a.which, .int .i64 a.k, .int .i64 a.n, .int .i64 a.at_, v] (0, 0) _ rfl (setRow_heap _ _ _ _ _ _ HZ1.out) Tryd.underlying44 rfl (by rw [act44]; rfl)) rfl ⟨rfl, below_setRow HE1.out (Nat.le_succ _) _⟩
set_option maxRecDepth 100000 in
set_option maxHeartbeats 2000000 in
theorem bare_1 (a : AN) (va : Option Addr) (bl vc : Nat) (w : World) :
    Calls Tryd.prog 45 #[.agg #[.int .i64 1, .bool a.yes, .int .i64 a.which, .int .i64 a.k, .int .i64 a.n, .int .i64 a.at_, .slice va bl vc]] w fun e w' => e = .returned (.agg #[.int .i64 0, .bool false, .int .i64 a.which, .int .i64 a.k, .int .i64 a.n, .int .i64 a.at_, .slice va bl vc]) ∧ Below w.heap.size w w' := by
  obtain ⟨HB0, HZ0, HE0⟩ := act_two (w := w) (A := #[.int .i64 1, .bool a.yes, .int .i64 a.which, .int .i64 a.k, .int .i64 a.n, .int .i64 a.at_, .slice va bl vc]) (B := #[.int .i64 0, .bool false, .int .i64 0, .int .i64 0, .int .i64 0, .int .i64 0, .slice none 0 0]) (t := 44) (t' := 44)
  have hone : (#[.int .i64 0, .bool false, .int .i64 a.which, .int .i64 a.k, .int .i64 a.n, .int .i64 a.at_, .slice va bl vc] : Array Value).all (·.oneCell') = true := by simp [Value.oneCell']
  generalize hv : (.slice va bl vc : Value) = v at *
  have hv1 : v.oneCell' = true := by rw [← hv]; rfl
  clear hv
  go_enter Tryd.func45, Tryd.ntmps45
  generalize hW0 : (w.alloc (.cells #[.int .i64 1, .bool a.yes, .int .i64 a.which, .int .i64 a.k, .int .i64 a.n, .int .i64 a.at_, v] 44)).alloc (.cells #[.int .i64 0, .bool false, .int .i64 0, .int .i64 0, .int .i64 0, .int .i64 0, .slice none 0 0] 44) = w0 at *
  have k0 := (cells_at HB0.out 0).trans (show _ = some (Value.int .i64 1) from rfl)
  have c1 := (cells_at HB0.out 1).trans (show _ = some (Value.bool a.yes) from rfl)
  have f1 := free_at HB0.out 1
  have n1 := block_at HB0.out 1 (.bool false)
  have HB1 : Hid ((w0.setCell ⟨w.heap.size, 1, none⟩ (.bool false)).heap[w.heap.size]? = some (.cells #[.int .i64 1, .bool false, .int .i64 a.which, .int .i64 a.k, .int .i64 a.n, .int .i64 a.at_, v] 44 (0, 0))) := n1
  have HZ1 : Hid ((w0.setCell ⟨w.heap.size, 1, none⟩ (.bool false)).heap[w.heap.size + 1]? = some (.cells #[.int .i64 0, .bool false, .int .i64 0, .int .i64 0, .int .i64 0, .int .i64 0, .slice none 0 0] 44 (0, 0))) := (Below.heap_setCell _ _ _ _ (by show w.heap.size + 1 ≠ w.heap.size; omega)).trans HZ0.out
  have HE1 : Hid (Below w.heap.size w (w0.setCell ⟨w.heap.size, 1, none⟩ (.bool false))) := HE0.out.setCell (p := ⟨w.heap.size, 1, none⟩) (Nat.le_refl _) _
  clear n1
  have k1 := (cells_at HB1.out 0).trans (show _ = some (Value.int .i64 1) from rfl)
  have c2 := (cells_at HB1.out 0).trans (show _ = some (Value.int .i64 1) from rfl)
  have f2 := free_at HB1.out 0
  have n2 := block_at HB1.out 0 (.int .i64 0)
  have HB2 : Hid (((w0.setCell ⟨w.heap.size, 1, none⟩ (.bool false)).setCell ⟨w.heap.size, 0, none⟩ (.int .i64 0)).heap[w.heap.size]? = some (.cells #[.int .i64 0, .bool false, .int .i64 a.which, .int .i64 a.k, .int .i64 a.n, .int .i64 a.at_, v] 44 (0, 0))) := n2
  have HZ2 : Hid (((w0.setCell ⟨w.heap.size, 1, none⟩ (.bool false)).setCell ⟨w.heap.size, 0, none⟩ (.int .i64 0)).heap[w.heap.size + 1]? = some (.cells #[.int .i64 0, .bool false, .int .i64 0, .int .i64 0, .int .i64 0, .int .i64 0, .slice none 0 0] 44 (0, 0))) := (Below.heap_setCell _ _ _ _ (by show w.heap.size + 1 ≠ w.heap.size; omega)).trans HZ1.out
  have HE2 : Hid (Below w.heap.size w ((w0.setCell ⟨w.heap.size, 1, none⟩ (.bool false)).setCell ⟨w.heap.size, 0, none⟩ (.int .i64 0))) := HE1.out.setCell (p := ⟨w.heap.size, 0, none⟩) (Nat.le_refl _) _
  clear n2
  go_upto_region 29 with fail
  generalize ((w0.setCell ⟨w.heap.size, 1, none⟩ (.bool false)).setCell ⟨w.heap.size, 0, none⟩ (.int .i64 0)) = w9 at *
  clear c1 f1 c2 f2 k0 k1
  go_wp2_with (first
    | (refine wpList_load_row rfl 44 (.tmp 1) rfl w.heap.size rfl _ _ _ _ HB2.out Tryd.underlying44 rfl (by rw [act44]; rfl) ?_)
    | (refine wpList_store_row rfl 44 (.tmp 2) (.tmp 43) rfl (w.heap.size + 1) #[.int .i64 0, .bool false, .int .i64 a.which, .int .i64 a.k, .int .i64 a.n, .int .i64 a.at_, v] rfl rfl 44 _ HZ2.out (by rw [act44]; rfl) (by rfl) hone ?_)
    | fail)
  exact bodyPost_ret (results_cell_row rfl _ _ (w.heap.size + 1) 44 #[.int .i64 0, .bool false, .int .i64 a.which, .int .i64 a.k, .int .i64 a.n, .int .i64 a.at_, v] (0, 0) _ rfl (setRow_heap _ _ _ _ _ _ HZ2.out) Tryd.underlying44 rfl (by rw [act44]; rfl)) rfl ⟨rfl, below_setRow HE2.out (Nat.le_succ _) _⟩
set_option maxRecDepth 100000 in
set_option maxHeartbeats 2000000 in
theorem bare_2 (a : AN) (va : Option Addr) (bl vc : Nat) (w : World) :
    Calls Tryd.prog 45 #[.agg #[.int .i64 2, .bool a.yes, .int .i64 a.which, .int .i64 a.k, .int .i64 a.n, .int .i64 a.at_, .slice va bl vc]] w fun e w' => e = .returned (.agg #[.int .i64 0, .bool a.yes, .int .i64 a.which, .int .i64 a.k, .int .i64 a.n, .int .i64 a.at_, .slice va bl vc]) ∧ Below w.heap.size w w' := by
  obtain ⟨HB0, HZ0, HE0⟩ := act_two (w := w) (A := #[.int .i64 2, .bool a.yes, .int .i64 a.which, .int .i64 a.k, .int .i64 a.n, .int .i64 a.at_, .slice va bl vc]) (B := #[.int .i64 0, .bool false, .int .i64 0, .int .i64 0, .int .i64 0, .int .i64 0, .slice none 0 0]) (t := 44) (t' := 44)
  have hone : (#[.int .i64 0, .bool a.yes, .int .i64 a.which, .int .i64 a.k, .int .i64 a.n, .int .i64 a.at_, .slice va bl vc] : Array Value).all (·.oneCell') = true := by simp [Value.oneCell']
  generalize hv : (.slice va bl vc : Value) = v at *
  have hv1 : v.oneCell' = true := by rw [← hv]; rfl
  clear hv
  go_enter Tryd.func45, Tryd.ntmps45
  generalize hW0 : (w.alloc (.cells #[.int .i64 2, .bool a.yes, .int .i64 a.which, .int .i64 a.k, .int .i64 a.n, .int .i64 a.at_, v] 44)).alloc (.cells #[.int .i64 0, .bool false, .int .i64 0, .int .i64 0, .int .i64 0, .int .i64 0, .slice none 0 0] 44) = w0 at *
  have k0 := (cells_at HB0.out 0).trans (show _ = some (Value.int .i64 2) from rfl)
  have c1 := (cells_at HB0.out 0).trans (show _ = some (Value.int .i64 2) from rfl)
  have f1 := free_at HB0.out 0
  have n1 := block_at HB0.out 0 (.int .i64 0)
  have HB1 : Hid ((w0.setCell ⟨w.heap.size, 0, none⟩ (.int .i64 0)).heap[w.heap.size]? = some (.cells #[.int .i64 0, .bool a.yes, .int .i64 a.which, .int .i64 a.k, .int .i64 a.n, .int .i64 a.at_, v] 44 (0, 0))) := n1
  have HZ1 : Hid ((w0.setCell ⟨w.heap.size, 0, none⟩ (.int .i64 0)).heap[w.heap.size + 1]? = some (.cells #[.int .i64 0, .bool false, .int .i64 0, .int .i64 0, .int .i64 0, .int .i64 0, .slice none 0 0] 44 (0, 0))) := (Below.heap_setCell _ _ _ _ (by show w.heap.size + 1 ≠ w.heap.size; omega)).trans HZ0.out
  have HE1 : Hid (Below w.heap.size w (w0.setCell ⟨w.heap.size, 0, none⟩ (.int .i64 0))) := HE0.out.setCell (p := ⟨w.heap.size, 0, none⟩) (Nat.le_refl _) _
  clear n1
  go_upto_region 29 with fail
  generalize (w0.setCell ⟨w.heap.size, 0, none⟩ (.int .i64 0)) = w9 at *
  clear c1 f1 k0
  go_wp2_with (first
    | (refine wpList_load_row rfl 44 (.tmp 1) rfl w.heap.size rfl _ _ _ _ HB1.out Tryd.underlying44 rfl (by rw [act44]; rfl) ?_)
    | (refine wpList_store_row rfl 44 (.tmp 2) (.tmp 43) rfl (w.heap.size + 1) #[.int .i64 0, .bool a.yes, .int .i64 a.which, .int .i64 a.k, .int .i64 a.n, .int .i64 a.at_, v] rfl rfl 44 _ HZ1.out (by rw [act44]; rfl) (by rfl) hone ?_)
    | fail)
  exact bodyPost_ret (results_cell_row rfl _ _ (w.heap.size + 1) 44 #[.int .i64 0, .bool a.yes, .int .i64 a.which, .int .i64 a.k, .int .i64 a.n, .int .i64 a.at_, v] (0, 0) _ rfl (setRow_heap _ _ _ _ _ _ HZ1.out) Tryd.underlying44 rfl (by rw [act44]; rfl)) rfl ⟨rfl, below_setRow HE1.out (Nat.le_succ _) _⟩
set_option maxRecDepth 100000 in
set_option maxHeartbeats 2000000 in
theorem bare_3 (a : AN) (va : Option Addr) (bl vc : Nat) (w : World) :
    Calls Tryd.prog 45 #[.agg #[.int .i64 3, .bool a.yes, .int .i64 a.which, .int .i64 a.k, .int .i64 a.n, .int .i64 a.at_, .slice va bl vc]] w fun e w' => e = .returned (.agg #[.int .i64 0, .bool a.yes, .int .i64 a.which, .int .i64 a.k, .int .i64 a.n, .int .i64 a.at_, .slice va bl vc]) ∧ Below w.heap.size w w' := by
  obtain ⟨HB0, HZ0, HE0⟩ := act_two (w := w) (A := #[.int .i64 3, .bool a.yes, .int .i64 a.which, .int .i64 a.k, .int .i64 a.n, .int .i64 a.at_, .slice va bl vc]) (B := #[.int .i64 0, .bool false, .int .i64 0, .int .i64 0, .int .i64 0, .int .i64 0, .slice none 0 0]) (t := 44) (t' := 44)
  have hone : (#[.int .i64 0, .bool a.yes, .int .i64 a.which, .int .i64 a.k, .int .i64 a.n, .int .i64 a.at_, .slice va bl vc] : Array Value).all (·.oneCell') = true := by simp [Value.oneCell']
  generalize hv : (.slice va bl vc : Value) = v at *
  have hv1 : v.oneCell' = true := by rw [← hv]; rfl
  clear hv
  go_enter Tryd.func45, Tryd.ntmps45
  generalize hW0 : (w.alloc (.cells #[.int .i64 3, .bool a.yes, .int .i64 a.which, .int .i64 a.k, .int .i64 a.n, .int .i64 a.at_, v] 44)).alloc (.cells #[.int .i64 0, .bool false, .int .i64 0, .int .i64 0, .int .i64 0, .int .i64 0, .slice none 0 0] 44) = w0 at *
  have k0 := (cells_at HB0.out 0).trans (show _ = some (Value.int .i64 3) from rfl)
  have c1 := (cells_at HB0.out 0).trans (show _ = some (Value.int .i64 3) from rfl)
  have f1 := free_at HB0.out 0
  have n1 := block_at HB0.out 0 (.int .i64 0)
  have HB1 : Hid ((w0.setCell ⟨w.heap.size, 0, none⟩ (.int .i64 0)).heap[w.heap.size]? = some (.cells #[.int .i64 0, .bool a.yes, .int .i64 a.which, .int .i64 a.k, .int .i64 a.n, .int .i64 a.at_, v] 44 (0, 0))) := n1
  have HZ1 : Hid ((w0.setCell ⟨w.heap.size, 0, none⟩ (.int .i64 0)).heap[w.heap.size + 1]? = some (.cells #[.int .i64 0, .bool false, .int .i64 0, .int .i64 0, .int .i64 0, .int .i64 0, .slice none 0 0] 44 (0, 0))) := (Below.heap_setCell _ _ _ _ (by show w.heap.size + 1 ≠ w.heap.size; omega)).trans HZ0.out
  have HE1 : Hid (Below w.heap.size w (w0.setCell ⟨w.heap.size, 0, none⟩ (.int .i64 0))) := HE0.out.setCell (p := ⟨w.heap.size, 0, none⟩) (Nat.le_refl _) _
  clear n1
  go_upto_region 29 with fail
  generalize (w0.setCell ⟨w.heap.size, 0, none⟩ (.int .i64 0)) = w9 at *
  clear c1 f1 k0
  go_wp2_with (first
    | (refine wpList_load_row rfl 44 (.tmp 1) rfl w.heap.size rfl _ _ _ _ HB1.out Tryd.underlying44 rfl (by rw [act44]; rfl) ?_)
    | (refine wpList_store_row rfl 44 (.tmp 2) (.tmp 43) rfl (w.heap.size + 1) #[.int .i64 0, .bool a.yes, .int .i64 a.which, .int .i64 a.k, .int .i64 a.n, .int .i64 a.at_, v] rfl rfl 44 _ HZ1.out (by rw [act44]; rfl) (by rfl) hone ?_)
    | fail)
  exact bodyPost_ret (results_cell_row rfl _ _ (w.heap.size + 1) 44 #[.int .i64 0, .bool a.yes, .int .i64 a.which, .int .i64 a.k, .int .i64 a.n, .int .i64 a.at_, v] (0, 0) _ rfl (setRow_heap _ _ _ _ _ _ HZ1.out) Tryd.underlying44 rfl (by rw [act44]; rfl)) rfl ⟨rfl, below_setRow HE1.out (Nat.le_succ _) _⟩
set_option maxRecDepth 100000 in
set_option maxHeartbeats 2000000 in
theorem bare_4 (a : AN) (va : Option Addr) (bl vc : Nat) (w : World) :
    Calls Tryd.prog 45 #[.agg #[.int .i64 4, .bool a.yes, .int .i64 a.which, .int .i64 a.k, .int .i64 a.n, .int .i64 a.at_, .slice va bl vc]] w fun e w' => e = .returned (.agg #[.int .i64 0, .bool a.yes, .int .i64 a.which, .int .i64 a.k, .int .i64 a.n, .int .i64 a.at_, .slice va bl vc]) ∧ Below w.heap.size w w' := by
  obtain ⟨HB0, HZ0, HE0⟩ := act_two (w := w) (A := #[.int .i64 4, .bool a.yes, .int .i64 a.which, .int .i64 a.k, .int .i64 a.n, .int .i64 a.at_, .slice va bl vc]) (B := #[.int .i64 0, .bool false, .int .i64 0, .int .i64 0, .int .i64 0, .int .i64 0, .slice none 0 0]) (t := 44) (t' := 44)
  have hone : (#[.int .i64 0, .bool a.yes, .int .i64 a.which, .int .i64 a.k, .int .i64 a.n, .int .i64 a.at_, .slice va bl vc] : Array Value).all (·.oneCell') = true := by simp [Value.oneCell']
  generalize hv : (.slice va bl vc : Value) = v at *
  have hv1 : v.oneCell' = true := by rw [← hv]; rfl
  clear hv
  go_enter Tryd.func45, Tryd.ntmps45
  generalize hW0 : (w.alloc (.cells #[.int .i64 4, .bool a.yes, .int .i64 a.which, .int .i64 a.k, .int .i64 a.n, .int .i64 a.at_, v] 44)).alloc (.cells #[.int .i64 0, .bool false, .int .i64 0, .int .i64 0, .int .i64 0, .int .i64 0, .slice none 0 0] 44) = w0 at *
  have k0 := (cells_at HB0.out 0).trans (show _ = some (Value.int .i64 4) from rfl)
  have c1 := (cells_at HB0.out 0).trans (show _ = some (Value.int .i64 4) from rfl)
  have f1 := free_at HB0.out 0
  have n1 := block_at HB0.out 0 (.int .i64 0)
  have HB1 : Hid ((w0.setCell ⟨w.heap.size, 0, none⟩ (.int .i64 0)).heap[w.heap.size]? = some (.cells #[.int .i64 0, .bool a.yes, .int .i64 a.which, .int .i64 a.k, .int .i64 a.n, .int .i64 a.at_, v] 44 (0, 0))) := n1
  have HZ1 : Hid ((w0.setCell ⟨w.heap.size, 0, none⟩ (.int .i64 0)).heap[w.heap.size + 1]? = some (.cells #[.int .i64 0, .bool false, .int .i64 0, .int .i64 0, .int .i64 0, .int .i64 0, .slice none 0 0] 44 (0, 0))) := (Below.heap_setCell _ _ _ _ (by show w.heap.size + 1 ≠ w.heap.size; omega)).trans HZ0.out
  have HE1 : Hid (Below w.heap.size w (w0.setCell ⟨w.heap.size, 0, none⟩ (.int .i64 0))) := HE0.out.setCell (p := ⟨w.heap.size, 0, none⟩) (Nat.le_refl _) _
  clear n1
  go_upto_region 29 with fail
  generalize (w0.setCell ⟨w.heap.size, 0, none⟩ (.int .i64 0)) = w9 at *
  clear c1 f1 k0
  go_wp2_with (first
    | (refine wpList_load_row rfl 44 (.tmp 1) rfl w.heap.size rfl _ _ _ _ HB1.out Tryd.underlying44 rfl (by rw [act44]; rfl) ?_)
    | (refine wpList_store_row rfl 44 (.tmp 2) (.tmp 43) rfl (w.heap.size + 1) #[.int .i64 0, .bool a.yes, .int .i64 a.which, .int .i64 a.k, .int .i64 a.n, .int .i64 a.at_, v] rfl rfl 44 _ HZ1.out (by rw [act44]; rfl) (by rfl) hone ?_)
    | fail)
  exact bodyPost_ret (results_cell_row rfl _ _ (w.heap.size + 1) 44 #[.int .i64 0, .bool a.yes, .int .i64 a.which, .int .i64 a.k, .int .i64 a.n, .int .i64 a.at_, v] (0, 0) _ rfl (setRow_heap _ _ _ _ _ _ HZ1.out) Tryd.underlying44 rfl (by rw [act44]; rfl)) rfl ⟨rfl, below_setRow HE1.out (Nat.le_succ _) _⟩
set_option maxRecDepth 100000 in
set_option maxHeartbeats 2000000 in
theorem bare_5 (a : AN) (va : Option Addr) (bl vc : Nat) (w : World) :
    Calls Tryd.prog 45 #[.agg #[.int .i64 5, .bool a.yes, .int .i64 a.which, .int .i64 a.k, .int .i64 a.n, .int .i64 a.at_, .slice va bl vc]] w fun e w' => e = .returned (.agg #[.int .i64 0, .bool a.yes, .int .i64 a.which, .int .i64 a.k, .int .i64 a.n, .int .i64 a.at_, .slice va bl vc]) ∧ Below w.heap.size w w' := by
  obtain ⟨HB0, HZ0, HE0⟩ := act_two (w := w) (A := #[.int .i64 5, .bool a.yes, .int .i64 a.which, .int .i64 a.k, .int .i64 a.n, .int .i64 a.at_, .slice va bl vc]) (B := #[.int .i64 0, .bool false, .int .i64 0, .int .i64 0, .int .i64 0, .int .i64 0, .slice none 0 0]) (t := 44) (t' := 44)
  have hone : (#[.int .i64 0, .bool a.yes, .int .i64 a.which, .int .i64 a.k, .int .i64 a.n, .int .i64 a.at_, .slice va bl vc] : Array Value).all (·.oneCell') = true := by simp [Value.oneCell']
  generalize hv : (.slice va bl vc : Value) = v at *
  have hv1 : v.oneCell' = true := by rw [← hv]; rfl
  clear hv
  go_enter Tryd.func45, Tryd.ntmps45
  generalize hW0 : (w.alloc (.cells #[.int .i64 5, .bool a.yes, .int .i64 a.which, .int .i64 a.k, .int .i64 a.n, .int .i64 a.at_, v] 44)).alloc (.cells #[.int .i64 0, .bool false, .int .i64 0, .int .i64 0, .int .i64 0, .int .i64 0, .slice none 0 0] 44) = w0 at *
  have k0 := (cells_at HB0.out 0).trans (show _ = some (Value.int .i64 5) from rfl)
  have c1 := (cells_at HB0.out 0).trans (show _ = some (Value.int .i64 5) from rfl)
  have f1 := free_at HB0.out 0
  have n1 := block_at HB0.out 0 (.int .i64 0)
  have HB1 : Hid ((w0.setCell ⟨w.heap.size, 0, none⟩ (.int .i64 0)).heap[w.heap.size]? = some (.cells #[.int .i64 0, .bool a.yes, .int .i64 a.which, .int .i64 a.k, .int .i64 a.n, .int .i64 a.at_, v] 44 (0, 0))) := n1
  have HZ1 : Hid ((w0.setCell ⟨w.heap.size, 0, none⟩ (.int .i64 0)).heap[w.heap.size + 1]? = some (.cells #[.int .i64 0, .bool false, .int .i64 0, .int .i64 0, .int .i64 0, .int .i64 0, .slice none 0 0] 44 (0, 0))) := (Below.heap_setCell _ _ _ _ (by show w.heap.size + 1 ≠ w.heap.size; omega)).trans HZ0.out
  have HE1 : Hid (Below w.heap.size w (w0.setCell ⟨w.heap.size, 0, none⟩ (.int .i64 0))) := HE0.out.setCell (p := ⟨w.heap.size, 0, none⟩) (Nat.le_refl _) _
  clear n1
  go_upto_region 29 with fail
  generalize (w0.setCell ⟨w.heap.size, 0, none⟩ (.int .i64 0)) = w9 at *
  clear c1 f1 k0
  go_wp2_with (first
    | (refine wpList_load_row rfl 44 (.tmp 1) rfl w.heap.size rfl _ _ _ _ HB1.out Tryd.underlying44 rfl (by rw [act44]; rfl) ?_)
    | (refine wpList_store_row rfl 44 (.tmp 2) (.tmp 43) rfl (w.heap.size + 1) #[.int .i64 0, .bool a.yes, .int .i64 a.which, .int .i64 a.k, .int .i64 a.n, .int .i64 a.at_, v] rfl rfl 44 _ HZ1.out (by rw [act44]; rfl) (by rfl) hone ?_)
    | fail)
  exact bodyPost_ret (results_cell_row rfl _ _ (w.heap.size + 1) 44 #[.int .i64 0, .bool a.yes, .int .i64 a.which, .int .i64 a.k, .int .i64 a.n, .int .i64 a.at_, v] (0, 0) _ rfl (setRow_heap _ _ _ _ _ _ HZ1.out) Tryd.underlying44 rfl (by rw [act44]; rfl)) rfl ⟨rfl, below_setRow HE1.out (Nat.le_succ _) _⟩
set_option maxRecDepth 100000 in
set_option maxHeartbeats 2000000 in
theorem bare_6 (a : AN) (va : Option Addr) (bl vc : Nat) (w : World) :
    Calls Tryd.prog 45 #[.agg #[.int .i64 6, .bool a.yes, .int .i64 a.which, .int .i64 a.k, .int .i64 a.n, .int .i64 a.at_, .slice va bl vc]] w fun e w' => e = .returned (.agg #[.int .i64 0, .bool a.yes, .int .i64 a.which, .int .i64 a.k, .int .i64 0, .int .i64 a.at_, .slice va bl vc]) ∧ Below w.heap.size w w' := by
  obtain ⟨HB0, HZ0, HE0⟩ := act_two (w := w) (A := #[.int .i64 6, .bool a.yes, .int .i64 a.which, .int .i64 a.k, .int .i64 a.n, .int .i64 a.at_, .slice va bl vc]) (B := #[.int .i64 0, .bool false, .int .i64 0, .int .i64 0, .int .i64 0, .int .i64 0, .slice none 0 0]) (t := 44) (t' := 44)
  have hone : (#[.int .i64 0, .bool a.yes, .int .i64 a.which, .int .i64 a.k, .int .i64 0, .int .i64 a.at_, .slice va bl vc] : Array Value).all (·.oneCell') = true := by simp [Value.oneCell']
  generalize hv : (.slice va bl vc : Value) = v at *
  have hv1 : v.oneCell' = true := by rw [← hv]; rfl
  clear hv
  go_enter Tryd.func45, Tryd.ntmps45
  generalize hW0 : (w.alloc (.cells #[.int .i64 6, .bool a.yes, .int .i64 a.which, .int .i64 a.k, .int .i64 a.n, .int .i64 a.at_, v] 44)).alloc (.cells #[.int .i64 0, .bool false, .int .i64 0, .int .i64 0, .int .i64 0, .int .i64 0, .slice none 0 0] 44) = w0 at *
  have k0 := (cells_at HB0.out 0).trans (show _ = some (Value.int .i64 6) from rfl)
  have c1 := (cells_at HB0.out 4).trans (show _ = some (Value.int .i64 a.n) from rfl)
  have f1 := free_at HB0.out 4
  have n1 := block_at HB0.out 4 (.int .i64 0)
  have HB1 : Hid ((w0.setCell ⟨w.heap.size, 4, none⟩ (.int .i64 0)).heap[w.heap.size]? = some (.cells #[.int .i64 6, .bool a.yes, .int .i64 a.which, .int .i64 a.k, .int .i64 0, .int .i64 a.at_, v] 44 (0, 0))) := n1
  have HZ1 : Hid ((w0.setCell ⟨w.heap.size, 4, none⟩ (.int .i64 0)).heap[w.heap.size + 1]? = some (.cells #[.int .i64 0, .bool false, .int .i64 0, .int .i64 0, .int .i64 0, .int .i64 0, .slice none 0 0] 44 (0, 0))) := (Below.heap_setCell _ _ _ _ (by show w.heap.size + 1 ≠ w.heap.size; omega)).trans HZ0.out
  have HE1 : Hid (Below w.heap.size w (w0.setCell ⟨w.heap.size, 4, none⟩ (.int .i64 0))) := HE0.out.setCell (p := ⟨w.heap.size, 4, none⟩) (Nat.le_refl _) _
  clear n1
  have k1 := (cells_at HB1.out 0).trans (show _ = some (Value.int .i64 6) from rfl)
  have c2 := (cells_at HB1.out 0).trans (show _ = some (Value.int .i64 6) from rfl)
  have f2 := free_at HB1.out 0
  have n2 := block_at HB1.out 0 (.int .i64 0)
  have HB2 : Hid (((w0.setCell ⟨w.heap.size, 4, none⟩ (.int .i64 0)).setCell ⟨w.heap.size, 0, none⟩ (.int .i64 0)).heap[w.heap.size]? = some (.cells #[.int .i64 0, .bool a.yes, .int .i64 a.which, .int .i64 a.k, .int .i64 0, .int .i64 a.at_, v] 44 (0, 0))) := n2
  have HZ2 : Hid (((w0.setCell ⟨w.heap.size, 4, none⟩ (.int .i64 0)).setCell ⟨w.heap.size, 0, none⟩ (.int .i64 0)).heap[w.heap.size + 1]? = some (.cells #[.int .i64 0, .bool false, .int .i64 0, .int .i64 0, .int .i64 0, .int .i64 0, .slice none 0 0] 44 (0, 0))) := (Below.heap_setCell _ _ _ _ (by show w.heap.size + 1 ≠ w.heap.size; omega)).trans HZ1.out
  have HE2 : Hid (Below w.heap.size w ((w0.setCell ⟨w.heap.size, 4, none⟩ (.int .i64 0)).setCell ⟨w.heap.size, 0, none⟩ (.int .i64 0))) := HE1.out.setCell (p := ⟨w.heap.size, 0, none⟩) (Nat.le_refl _) _
  clear n2
  go_upto_region 29 with fail
  generalize ((w0.setCell ⟨w.heap.size, 4, none⟩ (.int .i64 0)).setCell ⟨w.heap.size, 0, none⟩ (.int .i64 0)) = w9 at *
  clear c1 f1 c2 f2 k0 k1
  go_wp2_with (first
    | (refine wpList_load_row rfl 44 (.tmp 1) rfl w.heap.size rfl _ _ _ _ HB2.out Tryd.underlying44 rfl (by rw [act44]; rfl) ?_)
    | (refine wpList_store_row rfl 44 (.tmp 2) (.tmp 43) rfl (w.heap.size + 1) #[.int .i64 0, .bool a.yes, .int .i64 a.which, .int .i64 a.k, .int .i64 0, .int .i64 a.at_, v] rfl rfl 44 _ HZ2.out (by rw [act44]; rfl) (by rfl) hone ?_)
    | fail)
  exact bodyPost_ret (results_cell_row rfl _ _ (w.heap.size + 1) 44 #[.int .i64 0, .bool a.yes, .int .i64 a.which, .int .i64 a.k, .int .i64 0, .int .i64 a.at_, v] (0, 0) _ rfl (setRow_heap _ _ _ _ _ _ HZ2.out) Tryd.underlying44 rfl (by rw [act44]; rfl)) rfl ⟨rfl, below_setRow HE2.out (Nat.le_succ _) _⟩
set_option maxRecDepth 100000 in
set_option maxHeartbeats 2000000 in
theorem bare_7 (a : AN) (va : Option Addr) (bl vc : Nat) (w : World) :
    Calls Tryd.prog 45 #[.agg #[.int .i64 7, .bool a.yes, .int .i64 a.which, .int .i64 a.k, .int .i64 a.n, .int .i64 a.at_, .slice va bl vc]] w fun e w' => e = .returned (.agg #[.int .i64 0, .bool a.yes, .int .i64 0, .int .i64 a.k, .int .i64 a.n, .int .i64 a.at_, .slice va bl vc]) ∧ Below w.heap.size w w' := by
  obtain ⟨HB0, HZ0, HE0⟩ := act_two (w := w) (A := #[.int .i64 7, .bool a.yes, .int .i64 a.which, .int .i64 a.k, .int .i64 a.n, .int .i64 a.at_, .slice va bl vc]) (B := #[.int .i64 0, .bool false, .int .i64 0, .int .i64 0, .int .i64 0, .int .i64 0, .slice none 0 0]) (t := 44) (t' := 44)
  have hone : (#[.int .i64 0, .bool a.yes, .int .i64 0, .int .i64 a.k, .int .i64 a.n, .int .i64 a.at_, .slice va bl vc] : Array Value).all (·.oneCell') = true := by simp [Value.oneCell']
  generalize hv : (.slice va bl vc : Value) = v at *
  have hv1 : v.oneCell' = true := by rw [← hv]; rfl
  clear hv
  go_enter Tryd.func45, Tryd.ntmps45
  generalize hW0 : (w.alloc (.cells #[.int .i64 7, .bool a.yes, .int .i64 a.which, .int .i64 a.k, .int .i64 a.n, .int .i64 a.at_, v] 44)).alloc (.cells #[.int .i64 0, .bool false, .int .i64 0, .int .i64 0, .int .i64 0, .int .i64 0, .slice none 0 0] 44) = w0 at *
  have k0 := (cells_at HB0.out 0).trans (show _ = some (Value.int .i64 7) from rfl)
  have c1 := (cells_at HB0.out 2).trans (show _ = some (Value.int .i64 a.which) from rfl)
  have f1 := free_at HB0.out 2
  have n1 := block_at HB0.out 2 (.int .i64 0)
  have HB1 : Hid ((w0.setCell ⟨w.heap.size, 2, none⟩ (.int .i64 0)).heap[w.heap.size]? = some (.cells #[.int .i64 7, .bool a.yes, .int .i64 0, .int .i64 a.k, .int .i64 a.n, .int .i64 a.at_, v] 44 (0, 0))) := n1
  have HZ1 : Hid ((w0.setCell ⟨w.heap.size, 2, none⟩ (.int .i64 0)).heap[w.heap.size + 1]? = some (.cells #[.int .i64 0, .bool false, .int .i64 0, .int .i64 0, .int .i64 0, .int .i64 0, .slice none 0 0] 44 (0, 0))) := (Below.heap_setCell _ _ _ _ (by show w.heap.size + 1 ≠ w.heap.size; omega)).trans HZ0.out
  have HE1 : Hid (Below w.heap.size w (w0.setCell ⟨w.heap.size, 2, none⟩ (.int .i64 0))) := HE0.out.setCell (p := ⟨w.heap.size, 2, none⟩) (Nat.le_refl _) _
  clear n1
  have k1 := (cells_at HB1.out 0).trans (show _ = some (Value.int .i64 7) from rfl)
  have c2 := (cells_at HB1.out 0).trans (show _ = some (Value.int .i64 7) from rfl)
  have f2 := free_at HB1.out 0
  have n2 := block_at HB1.out 0 (.int .i64 0)
  have HB2 : Hid (((w0.setCell ⟨w.heap.size, 2, none⟩ (.int .i64 0)).setCell ⟨w.heap.size, 0, none⟩ (.int .i64 0)).heap[w.heap.size]? = some (.cells #[.int .i64 0, .bool a.yes, .int .i64 0, .int .i64 a.k, .int .i64 a.n, .int .i64 a.at_, v] 44 (0, 0))) := n2
  have HZ2 : Hid (((w0.setCell ⟨w.heap.size, 2, none⟩ (.int .i64 0)).setCell ⟨w.heap.size, 0, none⟩ (.int .i64 0)).heap[w.heap.size + 1]? = some (.cells #[.int .i64 0, .bool false, .int .i64 0, .int .i64 0, .int .i64 0, .int .i64 0, .slice none 0 0] 44 (0, 0))) := (Below.heap_setCell _ _ _ _ (by show w.heap.size + 1 ≠ w.heap.size; omega)).trans HZ1.out
  have HE2 : Hid (Below w.heap.size w ((w0.setCell ⟨w.heap.size, 2, none⟩ (.int .i64 0)).setCell ⟨w.heap.size, 0, none⟩ (.int .i64 0))) := HE1.out.setCell (p := ⟨w.heap.size, 0, none⟩) (Nat.le_refl _) _
  clear n2
  go_upto_region 29 with fail
  generalize ((w0.setCell ⟨w.heap.size, 2, none⟩ (.int .i64 0)).setCell ⟨w.heap.size, 0, none⟩ (.int .i64 0)) = w9 at *
  clear c1 f1 c2 f2 k0 k1
  go_wp2_with (first
    | (refine wpList_load_row rfl 44 (.tmp 1) rfl w.heap.size rfl _ _ _ _ HB2.out Tryd.underlying44 rfl (by rw [act44]; rfl) ?_)
    | (refine wpList_store_row rfl 44 (.tmp 2) (.tmp 43) rfl (w.heap.size + 1) #[.int .i64 0, .bool a.yes, .int .i64 0, .int .i64 a.k, .int .i64 a.n, .int .i64 a.at_, v] rfl rfl 44 _ HZ2.out (by rw [act44]; rfl) (by rfl) hone ?_)
    | fail)
  exact bodyPost_ret (results_cell_row rfl _ _ (w.heap.size + 1) 44 #[.int .i64 0, .bool a.yes, .int .i64 0, .int .i64 a.k, .int .i64 a.n, .int .i64 a.at_, v] (0, 0) _ rfl (setRow_heap _ _ _ _ _ _ HZ2.out) Tryd.underlying44 rfl (by rw [act44]; rfl)) rfl ⟨rfl, below_setRow HE2.out (Nat.le_succ _) _⟩
set_option maxRecDepth 100000 in
set_option maxHeartbeats 2000000 in
theorem bare_8 (a : AN) (va : Option Addr) (bl vc : Nat) (w : World) :
    Calls Tryd.prog 45 #[.agg #[.int .i64 8, .bool a.yes, .int .i64 a.which, .int .i64 a.k, .int .i64 a.n, .int .i64 a.at_, .slice va bl vc]] w fun e w' => e = .returned (.agg #[.int .i64 0, .bool a.yes, .int .i64 0, .int .i64 a.k, .int .i64 0, .int .i64 a.at_, .slice va bl vc]) ∧ Below w.heap.size w w' := by
  obtain ⟨HB0, HZ0, HE0⟩ := act_two (w := w) (A := #[.int .i64 8, .bool a.yes, .int .i64 a.which, .int .i64 a.k, .int .i64 a.n, .int .i64 a.at_, .slice va bl vc]) (B := #[.int .i64 0, .bool false, .int .i64 0, .int .i64 0, .int .i64 0, .int .i64 0, .slice none 0 0]) (t := 44) (t' := 44)
  have hone : (#[.int .i64 0, .bool a.yes, .int .i64 0, .int .i64 a.k, .int .i64 0, .int .i64 a.at_, .slice va bl vc] : Array Value).all (·.oneCell') = true := by simp [Value.oneCell']
  generalize hv : (.slice va bl vc : Value) = v at *
  have hv1 : v.oneCell' = true := by rw [← hv]; rfl
  clear hv
  go_enter Tryd.func45, Tryd.ntmps45
  generalize hW0 : (w.alloc (.cells #[.int .i64 8, .bool a.yes, .int .i64 a.which, .int .i64 a.k, .int .i64 a.n, .int .i64 a.at_, v] 44)).alloc (.cells #[.int .i64 0, .bool false, .int .i64 0, .int .i64 0, .int .i64 0, .int .i64 0, .slice none 0 0] 44) = w0 at *
  have k0 := (cells_at HB0.out 0).trans (show _ = some (Value.int .i64 8) from rfl)
  have c1 := (cells_at HB0.out 4).trans (show _ = some (Value.int .i64 a.n) from rfl)
  have f1 := free_at HB0.out 4
  have n1 := block_at HB0.out 4 (.int .i64 0)
  have HB1 : Hid ((w0.setCell ⟨w.heap.size, 4, none⟩ (.int .i64 0)).heap[w.heap.size]? = some (.cells #[.int .i64 8, .bool a.yes, .int .i64 a.which, .int .i64 a.k, .int .i64 0, .int .i64 a.at_, v] 44 (0, 0))) := n1
  have HZ1 : Hid ((w0.setCell ⟨w.heap.size, 4, none⟩ (.int .i64 0)).heap[w.heap.size + 1]? = some (.cells #[.int .i64 0, .bool false, .int .i64 0, .int .i64 0, .int .i64 0, .int .i64 0, .slice none 0 0] 44 (0, 0))) := (Below.heap_setCell _ _ _ _ (by show w.heap.size + 1 ≠ w.heap.size; omega)).trans HZ0.out
  have HE1 : Hid (Below w.heap.size w (w0.setCell ⟨w.heap.size, 4, none⟩ (.int .i64 0))) := HE0.out.setCell (p := ⟨w.heap.size, 4, none⟩) (Nat.le_refl _) _
  clear n1
  have c2 := (cells_at HB1.out 2).trans (show _ = some (Value.int .i64 a.which) from rfl)
  have f2 := free_at HB1.out 2
  have n2 := block_at HB1.out 2 (.int .i64 0)
  have HB2 : Hid (((w0.setCell ⟨w.heap.size, 4, none⟩ (.int .i64 0)).setCell ⟨w.heap.size, 2, none⟩ (.int .i64 0)).heap[w.heap.size]? = some (.cells #[.int .i64 8, .bool a.yes, .int .i64 0, .int .i64 a.k, .int .i64 0, .int .i64 a.at_, v] 44 (0, 0))) := n2
  have HZ2 : Hid (((w0.setCell ⟨w.heap.size, 4, none⟩ (.int .i64 0)).setCell ⟨w.heap.size, 2, none⟩ (.int .i64 0)).heap[w.heap.size + 1]? = some (.cells #[.int .i64 0, .bool false, .int .i64 0, .int .i64 0, .int .i64 0, .int .i64 0, .slice none 0 0] 44 (0, 0))) := (Below.heap_setCell _ _ _ _ (by show w.heap.size + 1 ≠ w.heap.size; omega)).trans HZ1.out
  have HE2 : Hid (Below w.heap.size w ((w0.setCell ⟨w.heap.size, 4, none⟩ (.int .i64 0)).setCell ⟨w.heap.size, 2, none⟩ (.int .i64 0))) := HE1.out.setCell (p := ⟨w.heap.size, 2, none⟩) (Nat.le_refl _) _
  clear n2
  have k1 := (cells_at HB2.out 0).trans (show _ = some (Value.int .i64 8) from rfl)
  have c3 := (cells_at HB2.out 0).trans (show _ = some (Value.int .i64 8) from rfl)
  have f3 := free_at HB2.out 0
  have n3 := block_at HB2.out 0 (.int .i64 0)
  have HB3 : Hid ((((w0.setCell ⟨w.heap.size, 4, none⟩ (.int .i64 0)).setCell ⟨w.heap.size, 2, none⟩ (.int .i64 0)).setCell ⟨w.heap.size, 0, none⟩ (.int .i64 0)).heap[w.heap.size]? = some (.cells #[.int .i64 0, .bool a.yes, .int .i64 0, .int .i64 a.k, .int .i64 0, .int .i64 a.at_, v] 44 (0, 0))) := n3
  have HZ3 : Hid ((((w0.setCell ⟨w.heap.size, 4, none⟩ (.int .i64 0)).setCell ⟨w.heap.size, 2, none⟩ (.int .i64 0)).setCell ⟨w.heap.size, 0, none⟩ (.int .i64 0)).heap[w.heap.size + 1]? = some (.cells #[.int .i64 0, .bool false, .int .i64 0, .int .i64 0, .int .i64 0, .int .i64 0, .slice none 0 0] 44 (0, 0))) := (Below.heap_setCell _ _ _ _ (by show w.heap.size + 1 ≠ w.heap.size; omega)).trans HZ2.out
  have HE3 : Hid (Below w.heap.size w (((w0.setCell ⟨w.heap.size, 4, none⟩ (.int .i64 0)).setCell ⟨w.heap.size, 2, none⟩ (.int .i64 0)).setCell ⟨w.heap.size, 0, none⟩ (.int .i64 0))) := HE2.out.setCell (p := ⟨w.heap.size, 0, none⟩) (Nat.le_refl _) _
  clear n3
  go_upto_region 29 with fail
  generalize (((w0.setCell ⟨w.heap.size, 4, none⟩ (.int .i64 0)).setCell ⟨w.heap.size, 2, none⟩ (.int .i64 0)).setCell ⟨w.heap.size, 0, none⟩ (.int .i64 0)) = w9 at *
  clear c1 f1 c2 f2 c3 f3 k0 k1
  go_wp2_with (first
    | (refine wpList_load_row rfl 44 (.tmp 1) rfl w.heap.size rfl _ _ _ _ HB3.out Tryd.underlying44 rfl (by rw [act44]; rfl) ?_)
    | (refine wpList_store_row rfl 44 (.tmp 2) (.tmp 43) rfl (w.heap.size + 1) #[.int .i64 0, .bool a.yes, .int .i64 0, .int .i64 a.k, .int .i64 0, .int .i64 a.at_, v] rfl rfl 44 _ HZ3.out (by rw [act44]; rfl) (by rfl) hone ?_)
    | fail)
  exact bodyPost_ret (results_cell_row rfl _ _ (w.heap.size + 1) 44 #[.int .i64 0, .bool a.yes, .int .i64 0, .int .i64 a.k, .int .i64 0, .int .i64 a.at_, v] (0, 0) _ rfl (setRow_heap _ _ _ _ _ _ HZ3.out) Tryd.underlying44 rfl (by rw [act44]; rfl)) rfl ⟨rfl, below_setRow HE3.out (Nat.le_succ _) _⟩
set_option maxRecDepth 100000 in
set_option maxHeartbeats 2000000 in
theorem bare_9 (a : AN) (va : Option Addr) (bl vc : Nat) (w : World) :
    Calls Tryd.prog 45 #[.agg #[.int .i64 9, .bool a.yes, .int .i64 a.which, .int .i64 a.k, .int .i64 a.n, .int .i64 a.at_, .slice va bl vc]] w fun e w' => e = .returned (.agg #[.int .i64 0, .bool a.yes, .int .i64 0, .int .i64 a.k, .int .i64 a.n, .int .i64 0, .slice none 0 0]) ∧ Below w.heap.size w w' := by
  obtain ⟨HB0, HZ0, HE0⟩ := act_two (w := w) (A := #[.int .i64 9, .bool a.yes, .int .i64 a.which, .int .i64 a.k, .int .i64 a.n, .int .i64 a.at_, .slice va bl vc]) (B := #[.int .i64 0, .bool false, .int .i64 0, .int .i64 0, .int .i64 0, .int .i64 0, .slice none 0 0]) (t := 44) (t' := 44)
  have hone : (#[.int .i64 0, .bool a.yes, .int .i64 0, .int .i64 a.k, .int .i64 a.n, .int .i64 0, .slice none 0 0] : Array Value).all (·.oneCell') = true := by simp [Value.oneCell']
  generalize hv : (.slice va bl vc : Value) = v at *
  have hv1 : v.oneCell' = true := by rw [← hv]; rfl
  clear hv
  go_enter Tryd.func45, Tryd.ntmps45
  generalize hW0 : (w.alloc (.cells #[.int .i64 9, .bool a.yes, .int .i64 a.which, .int .i64 a.k, .int .i64 a.n, .int .i64 a.at_, v] 44)).alloc (.cells #[.int .i64 0, .bool false, .int .i64 0, .int .i64 0, .int .i64 0, .int .i64 0, .slice none 0 0] 44) = w0 at *
  have k0 := (cells_at HB0.out 0).trans (show _ = some (Value.int .i64 9) from rfl)
  have c1 := (cells_at HB0.out 5).trans (show _ = some (Value.int .i64 a.at_) from rfl)
  have f1 := free_at HB0.out 5
  have n1 := block_at HB0.out 5 (.int .i64 0)
  have HB1 : Hid ((w0.setCell ⟨w.heap.size, 5, none⟩ (.int .i64 0)).heap[w.heap.size]? = some (.cells #[.int .i64 9, .bool a.yes, .int .i64 a.which, .int .i64 a.k, .int .i64 a.n, .int .i64 0, v] 44 (0, 0))) := n1
  have HZ1 : Hid ((w0.setCell ⟨w.heap.size, 5, none⟩ (.int .i64 0)).heap[w.heap.size + 1]? = some (.cells #[.int .i64 0, .bool false, .int .i64 0, .int .i64 0, .int .i64 0, .int .i64 0, .slice none 0 0] 44 (0, 0))) := (Below.heap_setCell _ _ _ _ (by show w.heap.size + 1 ≠ w.heap.size; omega)).trans HZ0.out
  have HE1 : Hid (Below w.heap.size w (w0.setCell ⟨w.heap.size, 5, none⟩ (.int .i64 0))) := HE0.out.setCell (p := ⟨w.heap.size, 5, none⟩) (Nat.le_refl _) _
  clear n1
  have c2 := (cells_at HB1.out 6).trans (show _ = some ((v : Value)) from rfl)
  have f2 := free_at HB1.out 6
  have n2 := block_at HB1.out 6 (.slice none 0 0)
  have HB2 : Hid (((w0.setCell ⟨w.heap.size, 5, none⟩ (.int .i64 0)).setCell ⟨w.heap.size, 6, none⟩ (.slice none 0 0)).heap[w.heap.size]? = some (.cells #[.int .i64 9, .bool a.yes, .int .i64 a.which, .int .i64 a.k, .int .i64 a.n, .int .i64 0, .slice none 0 0] 44 (0, 0))) := n2
  have HZ2 : Hid (((w0.setCell ⟨w.heap.size, 5, none⟩ (.int .i64 0)).setCell ⟨w.heap.size, 6, none⟩ (.slice none 0 0)).heap[w.heap.size + 1]? = some (.cells #[.int .i64 0, .bool false, .int .i64 0, .int .i64 0, .int .i64 0, .int .i64 0, .slice none 0 0] 44 (0, 0))) := (Below.heap_setCell _ _ _ _ (by show w.heap.size + 1 ≠ w.heap.size; omega)).trans HZ1.out
  have HE2 : Hid (Below w.heap.size w ((w0.setCell ⟨w.heap.size, 5, none⟩ (.int .i64 0)).setCell ⟨w.heap.size, 6, none⟩ (.slice none 0 0))) := HE1.out.setCell (p := ⟨w.heap.size, 6, none⟩) (Nat.le_refl _) _
  clear n2
  have c3 := (cells_at HB2.out 2).trans (show _ = some (Value.int .i64 a.which) from rfl)
  have f3 := free_at HB2.out 2
  have n3 := block_at HB2.out 2 (.int .i64 0)
  have HB3 : Hid ((((w0.setCell ⟨w.heap.size, 5, none⟩ (.int .i64 0)).setCell ⟨w.heap.size, 6, none⟩ (.slice none 0 0)).setCell ⟨w.heap.size, 2, none⟩ (.int .i64 0)).heap[w.heap.size]? = some (.cells #[.int .i64 9, .bool a.yes, .int .i64 0, .int .i64 a.k, .int .i64 a.n, .int .i64 0, .slice none 0 0] 44 (0, 0))) := n3
  have HZ3 : Hid ((((w0.setCell ⟨w.heap.size, 5, none⟩ (.int .i64 0)).setCell ⟨w.heap.size, 6, none⟩ (.slice none 0 0)).setCell ⟨w.heap.size, 2, none⟩ (.int .i64 0)).heap[w.heap.size + 1]? = some (.cells #[.int .i64 0, .bool false, .int .i64 0, .int .i64 0, .int .i64 0, .int .i64 0, .slice none 0 0] 44 (0, 0))) := (Below.heap_setCell _ _ _ _ (by show w.heap.size + 1 ≠ w.heap.size; omega)).trans HZ2.out
  have HE3 : Hid (Below w.heap.size w (((w0.setCell ⟨w.heap.size, 5, none⟩ (.int .i64 0)).setCell ⟨w.heap.size, 6, none⟩ (.slice none 0 0)).setCell ⟨w.heap.size, 2, none⟩ (.int .i64 0))) := HE2.out.setCell (p := ⟨w.heap.size, 2, none⟩) (Nat.le_refl _) _
  clear n3
  have k1 := (cells_at HB3.out 0).trans (show _ = some (Value.int .i64 9) from rfl)
  have c4 := (cells_at HB3.out 0).trans (show _ = some (Value.int .i64 9) from rfl)
  have f4 := free_at HB3.out 0
  have n4 := block_at HB3.out 0 (.int .i64 0)
  have HB4 : Hid (((((w0.setCell ⟨w.heap.size, 5, none⟩ (.int .i64 0)).setCell ⟨w.heap.size, 6, none⟩ (.slice none 0 0)).setCell ⟨w.heap.size, 2, none⟩ (.int .i64 0)).setCell ⟨w.heap.size, 0, none⟩ (.int .i64 0)).heap[w.heap.size]? = some (.cells #[.int .i64 0, .bool a.yes, .int .i64 0, .int .i64 a.k, .int .i64 a.n, .int .i64 0, .slice none 0 0] 44 (0, 0))) := n4
  have HZ4 : Hid (((((w0.setCell ⟨w.heap.size, 5, none⟩ (.int .i64 0)).setCell ⟨w.heap.size, 6, none⟩ (.slice none 0 0)).setCell ⟨w.heap.size, 2, none⟩ (.int .i64 0)).setCell ⟨w.heap.size, 0, none⟩ (.int .i64 0)).heap[w.heap.size + 1]? = some (.cells #[.int .i64 0, .bool false, .int .i64 0, .int .i64 0, .int .i64 0, .int .i64 0, .slice none 0 0] 44 (0, 0))) := (Below.heap_setCell _ _ _ _ (by show w.heap.size + 1 ≠ w.heap.size; omega)).trans HZ3.out
  have HE4 : Hid (Below w.heap.size w ((((w0.setCell ⟨w.heap.size, 5, none⟩ (.int .i64 0)).setCell ⟨w.heap.size, 6, none⟩ (.slice none 0 0)).setCell ⟨w.heap.size, 2, none⟩ (.int .i64 0)).setCell ⟨w.heap.size, 0, none⟩ (.int .i64 0))) := HE3.out.setCell (p := ⟨w.heap.size, 0, none⟩) (Nat.le_refl _) _
  clear n4
  go_upto_region 29 with fail
  generalize ((((w0.setCell ⟨w.heap.size, 5, none⟩ (.int .i64 0)).setCell ⟨w.heap.size, 6, none⟩ (.slice none 0 0)).setCell ⟨w.heap.size, 2, none⟩ (.int .i64 0)).setCell ⟨w.heap.size, 0, none⟩ (.int .i64 0)) = w9 at *
  clear c1 f1 c2 f2 c3 f3 c4 f4 k0 k1
  go_wp2_with (first
    | (refine wpList_load_row rfl 44 (.tmp 1) rfl w.heap.size rfl _ _ _ _ HB4.out Tryd.underlying44 rfl (by rw [act44]; rfl) ?_)
    | (refine wpList_store_row rfl 44 (.tmp 2) (.tmp 43) rfl (w.heap.size + 1) #[.int .i64 0, .bool a.yes, .int .i64 0, .int .i64 a.k, .int .i64 a.n, .int .i64 0, .slice none 0 0] rfl rfl 44 _ HZ4.out (by rw [act44]; rfl) (by rfl) hone ?_)
    | fail)
  exact bodyPost_ret (results_cell_row rfl _ _ (w.heap.size + 1) 44 #[.int .i64 0, .bool a.yes, .int .i64 0, .int .i64 a.k, .int .i64 a.n, .int .i64 0, .slice none 0 0] (0, 0) _ rfl (setRow_heap _ _ _ _ _ _ HZ4.out) Tryd.underlying44 rfl (by rw [act44]; rfl)) rfl ⟨rfl, below_setRow HE4.out (Nat.le_succ _) _⟩
set_option maxRecDepth 100000 in
set_option maxHeartbeats 2000000 in
theorem bare_10 (a : AN) (va : Option Addr) (bl vc : Nat) (w : World) :
    Calls Tryd.prog 45 #[.agg #[.int .i64 10, .bool a.yes, .int .i64 a.which, .int .i64 a.k, .int .i64 a.n, .int .i64 a.at_, .slice va bl vc]] w fun e w' => e = .returned (.agg #[.int .i64 0, .bool a.yes, .int .i64 0, .int .i64 a.k, .int .i64 0, .int .i64 0, .slice va bl vc]) ∧ Below w.heap.size w w' := by
  obtain ⟨HB0, HZ0, HE0⟩ := act_two (w := w) (A := #[.int .i64 10, .bool a.yes, .int .i64 a.which, .int .i64 a.k, .int .i64 a.n, .int .i64 a.at_, .slice va bl vc]) (B := #[.int .i64 0, .bool false, .int .i64 0, .int .i64 0, .int .i64 0, .int .i64 0, .slice none 0 0]) (t := 44) (t' := 44)
  have hone : (#[.int .i64 0, .bool a.yes, .int .i64 0, .int .i64 a.k, .int .i64 0, .int .i64 0, .slice va bl vc] : Array Value).all (·.oneCell') = true := by simp [Value.oneCell']
  generalize hv : (.slice va bl vc : Value) = v at *
  have hv1 : v.oneCell' = true := by rw [← hv]; rfl
  clear hv
  go_enter Tryd.func45, Tryd.ntmps45
  generalize hW0 : (w.alloc (.cells #[.int .i64 10, .bool a.yes, .int .i64 a.which, .int .i64 a.k, .int .i64 a.n, .int .i64 a.at_, v] 44)).alloc (.cells #[.int .i64 0, .bool false, .int .i64 0, .int .i64 0, .int .i64 0, .int .i64 0, .slice none 0 0] 44) = w0 at *
  have k0 := (cells_at HB0.out 0).trans (show _ = some (Value.int .i64 10) from rfl)
  have c1 := (cells_at HB0.out 5).trans (show _ = some (Value.int .i64 a.at_) from rfl)
  have f1 := free_at HB0.out 5
  have n1 := block_at HB0.out 5 (.int .i64 0)
  have HB1 : Hid ((w0.setCell ⟨w.heap.size, 5, none⟩ (.int .i64 0)).heap[w.heap.size]? = some (.cells #[.int .i64 10, .bool a.yes, .int .i64 a.which, .int .i64 a.k, .int .i64 a.n, .int .i64 0, v] 44 (0, 0))) := n1
  have HZ1 : Hid ((w0.setCell ⟨w.heap.size, 5, none⟩ (.int .i64 0)).heap[w.heap.size + 1]? = some (.cells #[.int .i64 0, .bool false, .int .i64 0, .int .i64 0, .int .i64 0, .int .i64 0, .slice none 0 0] 44 (0, 0))) := (Below.heap_setCell _ _ _ _ (by show w.heap.size + 1 ≠ w.heap.size; omega)).trans HZ0.out
  have HE1 : Hid (Below w.heap.size w (w0.setCell ⟨w.heap.size, 5, none⟩ (.int .i64 0))) := HE0.out.setCell (p := ⟨w.heap.size, 5, none⟩) (Nat.le_refl _) _
  clear n1
  have c2 := (cells_at HB1.out 4).trans (show _ = some (Value.int .i64 a.n) from rfl)
  have f2 := free_at HB1.out 4
  have n2 := block_at HB1.out 4 (.int .i64 0)
  have HB2 : Hid (((w0.setCell ⟨w.heap.size, 5, none⟩ (.int .i64 0)).setCell ⟨w.heap.size, 4, none⟩ (.int .i64 0)).heap[w.heap.size]? = some (.cells #[.int .i64 10, .bool a.yes, .int .i64 a.which, .int .i64 a.k, .int .i64 0, .int .i64 0, v] 44 (0, 0))) := n2
  have HZ2 : Hid (((w0.setCell ⟨w.heap.size, 5, none⟩ (.int .i64 0)).setCell ⟨w.heap.size, 4, none⟩ (.int .i64 0)).heap[w.heap.size + 1]? = some (.cells #[.int .i64 0, .bool false, .int .i64 0, .int .i64 0, .int .i64 0, .int .i64 0, .slice none 0 0] 44 (0, 0))) := (Below.heap_setCell _ _ _ _ (by show w.heap.size + 1 ≠ w.heap.size; omega)).trans HZ1.out
  have HE2 : Hid (Below w.heap.size w ((w0.setCell ⟨w.heap.size, 5, none⟩ (.int .i64 0)).setCell ⟨w.heap.size, 4, none⟩ (.int .i64 0))) := HE1.out.setCell (p := ⟨w.heap.size, 4, none⟩) (Nat.le_refl _) _
  clear n2
  have c3 := (cells_at HB2.out 2).trans (show _ = some (Value.int .i64 a.which) from rfl)
  have f3 := free_at HB2.out 2
  have n3 := block_at HB2.out 2 (.int .i64 0)
  have HB3 : Hid ((((w0.setCell ⟨w.heap.size, 5, none⟩ (.int .i64 0)).setCell ⟨w.heap.size, 4, none⟩ (.int .i64 0)).setCell ⟨w.heap.size, 2, none⟩ (.int .i64 0)).heap[w.heap.size]? = some (.cells #[.int .i64 10, .bool a.yes, .int .i64 0, .int .i64 a.k, .int .i64 0, .int .i64 0, v] 44 (0, 0))) := n3
  have HZ3 : Hid ((((w0.setCell ⟨w.heap.size, 5, none⟩ (.int .i64 0)).setCell ⟨w.heap.size, 4, none⟩ (.int .i64 0)).setCell ⟨w.heap.size, 2, none⟩ (.int .i64 0)).heap[w.heap.size + 1]? = some (.cells #[.int .i64 0, .bool false, .int .i64 0, .int .i64 0, .int .i64 0, .int .i64 0, .slice none 0 0] 44 (0, 0))) := (Below.heap_setCell _ _ _ _ (by show w.heap.size + 1 ≠ w.heap.size; omega)).trans HZ2.out
  have HE3 : Hid (Below w.heap.size w (((w0.setCell ⟨w.heap.size, 5, none⟩ (.int .i64 0)).setCell ⟨w.heap.size, 4, none⟩ (.int .i64 0)).setCell ⟨w.heap.size, 2, none⟩ (.int .i64 0))) := HE2.out.setCell (p := ⟨w.heap.size, 2, none⟩) (Nat.le_refl _) _
  clear n3
  have k1 := (cells_at HB3.out 0).trans (show _ = some (Value.int .i64 10) from rfl)
  have c4 := (cells_at HB3.out 0).trans (show _ = some (Value.int .i64 10) from rfl)
  have f4 := free_at HB3.out 0
  have n4 := block_at HB3.out 0 (.int .i64 0)
  have HB4 : Hid (((((w0.setCell ⟨w.heap.size, 5, none⟩ (.int .i64 0)).setCell ⟨w.heap.size, 4, none⟩ (.int .i64 0)).setCell ⟨w.heap.size, 2, none⟩ (.int .i64 0)).setCell ⟨w.heap.size, 0, none⟩ (.int .i64 0)).heap[w.heap.size]? = some (.cells #[.int .i64 0, .bool a.yes, .int .i64 0, .int .i64 a.k, .int .i64 0, .int .i64 0, v] 44 (0, 0))) := n4
  have HZ4 : Hid (((((w0.setCell ⟨w.heap.size, 5, none⟩ (.int .i64 0)).setCell ⟨w.heap.size, 4, none⟩ (.int .i64 0)).setCell ⟨w.heap.size, 2, none⟩ (.int .i64 0)).setCell ⟨w.heap.size, 0, none⟩ (.int .i64 0)).heap[w.heap.size + 1]? = some (.cells #[.int .i64 0, .bool false, .int .i64 0, .int .i64 0, .int .i64 0, .int .i64 0, .slice none 0 0] 44 (0, 0))) := (Below.heap_setCell _ _ _ _ (by show w.heap.size + 1 ≠ w.heap.size; omega)).trans HZ3.out
  have HE4 : Hid (Below w.heap.size w ((((w0.setCell ⟨w.heap.size, 5, none⟩ (.int .i64 0)).setCell ⟨w.heap.size, 4, none⟩ (.int .i64 0)).setCell ⟨w.heap.size, 2, none⟩ (.int .i64 0)).setCell ⟨w.heap.size, 0, none⟩ (.int .i64 0))) := HE3.out.setCell (p := ⟨w.heap.size, 0, none⟩) (Nat.le_refl _) _
  clear n4
  go_upto_region 29 with fail
  generalize ((((w0.setCell ⟨w.heap.size, 5, none⟩ (.int .i64 0)).setCell ⟨w.heap.size, 4, none⟩ (.int .i64 0)).setCell ⟨w.heap.size, 2, none⟩ (.int .i64 0)).setCell ⟨w.heap.size, 0, none⟩ (.int .i64 0)) = w9 at *
  clear c1 f1 c2 f2 c3 f3 c4 f4 k0 k1
  go_wp2_with (first
    | (refine wpList_load_row rfl 44 (.tmp 1) rfl w.heap.size rfl _ _ _ _ HB4.out Tryd.underlying44 rfl (by rw [act44]; rfl) ?_)
    | (refine wpList_store_row rfl 44 (.tmp 2) (.tmp 43) rfl (w.heap.size + 1) #[.int .i64 0, .bool a.yes, .int .i64 0, .int .i64 a.k, .int .i64 0, .int .i64 0, v] rfl rfl 44 _ HZ4.out (by rw [act44]; rfl) (by rfl) hone ?_)
    | fail)
  exact bodyPost_ret (results_cell_row rfl _ _ (w.heap.size + 1) 44 #[.int .i64 0, .bool a.yes, .int .i64 0, .int .i64 a.k, .int .i64 0, .int .i64 0, v] (0, 0) _ rfl (setRow_heap _ _ _ _ _ _ HZ4.out) Tryd.underlying44 rfl (by rw [act44]; rfl)) rfl ⟨rfl, below_setRow HE4.out (Nat.le_succ _) _⟩
set_option maxRecDepth 100000 in
set_option maxHeartbeats 2000000 in
theorem bare_11 (a : AN) (va : Option Addr) (bl vc : Nat) (w : World) :
    Calls Tryd.prog 45 #[.agg #[.int .i64 11, .bool a.yes, .int .i64 a.which, .int .i64 a.k, .int .i64 a.n, .int .i64 a.at_, .slice va bl vc]] w fun e w' => e = .returned (.agg #[.int .i64 0, .bool false, .int .i64 0, .int .i64 0, .int .i64 a.n, .int .i64 a.at_, .slice va bl vc]) ∧ Below w.heap.size w w' := by
  obtain ⟨HB0, HZ0, HE0⟩ := act_two (w := w) (A := #[.int .i64 11, .bool a.yes, .int .i64 a.which, .int .i64 a.k, .int .i64 a.n, .int .i64 a.at_, .slice va bl vc]) (B := #[.int .i64 0, .bool false, .int .i64 0, .int .i64 0, .int .i64 0, .int .i64 0, .slice none 0 0]) (t := 44) (t' := 44)
  have hone : (#[.int .i64 0, .bool false, .int .i64 0, .int .i64 0, .int .i64 a.n, .int .i64 a.at_, .slice va bl vc] : Array Value).all (·.oneCell') = true := by simp [Value.oneCell']
  generalize hv : (.slice va bl vc : Value) = v at *
  have hv1 : v.oneCell' = true := by rw [← hv]; rfl
  clear hv
  go_enter Tryd.func45, Tryd.ntmps45
  generalize hW0 : (w.alloc (.cells #[.int .i64 11, .bool a.yes, .int .i64 a.which, .int .i64 a.k, .int .i64 a.n, .int .i64 a.at_, v] 44)).alloc (.cells #[.int .i64 0, .bool false, .int .i64 0, .int .i64 0, .int .i64 0, .int .i64 0, .slice none 0 0] 44) = w0 at *
  have k0 := (cells_at HB0.out 0).trans (show _ = some (Value.int .i64 11) from rfl)
  have c1 := (cells_at HB0.out 1).trans (show _ = some (Value.bool a.yes) from rfl)
  have f1 := free_at HB0.out 1
  have n1 := block_at HB0.out 1 (.bool false)
  have HB1 : Hid ((w0.setCell ⟨w.heap.size, 1, none⟩ (.bool false)).heap[w.heap.size]? = some (.cells #[.int .i64 11, .bool false, .int .i64 a.which, .int .i64 a.k, .int .i64 a.n, .int .i64 a.at_, v] 44 (0, 0))) := n1
  have HZ1 : Hid ((w0.setCell ⟨w.heap.size, 1, none⟩ (.bool false)).heap[w.heap.size + 1]? = some (.cells #[.int .i64 0, .bool false, .int .i64 0, .int .i64 0, .int .i64 0, .int .i64 0, .slice none 0 0] 44 (0, 0))) := (Below.heap_setCell _ _ _ _ (by show w.heap.size + 1 ≠ w.heap.size; omega)).trans HZ0.out
  have HE1 : Hid (Below w.heap.size w (w0.setCell ⟨w.heap.size, 1, none⟩ (.bool false))) := HE0.out.setCell (p := ⟨w.heap.size, 1, none⟩) (Nat.le_refl _) _
  clear n1
  have c2 := (cells_at HB1.out 3).trans (show _ = some (Value.int .i64 a.k) from rfl)
  have f2 := free_at HB1.out 3
  have n2 := block_at HB1.out 3 (.int .i64 0)
  have HB2 : Hid (((w0.setCell ⟨w.heap.size, 1, none⟩ (.bool false)).setCell ⟨w.heap.size, 3, none⟩ (.int .i64 0)).heap[w.heap.size]? = some (.cells #[.int .i64 11, .bool false, .int .i64 a.which, .int .i64 0, .int .i64 a.n, .int .i64 a.at_, v] 44 (0, 0))) := n2
  have HZ2 : Hid (((w0.setCell ⟨w.heap.size, 1, none⟩ (.bool false)).setCell ⟨w.heap.size, 3, none⟩ (.int .i64 0)).heap[w.heap.size + 1]? = some (.cells #[.int .i64 0, .bool false, .int .i64 0, .int .i64 0, .int .i64 0, .int .i64 0, .slice none 0 0] 44 (0, 0))) := (Below.heap_setCell _ _ _ _ (by show w.heap.size + 1 ≠ w.heap.size; omega)).trans HZ1.out
  have HE2 : Hid (Below w.heap.size w ((w0.setCell ⟨w.heap.size, 1, none⟩ (.bool false)).setCell ⟨w.heap.size, 3, none⟩ (.int .i64 0))) := HE1.out.setCell (p := ⟨w.heap.size, 3, none⟩) (Nat.le_refl _) _
  clear n2
  have c3 := (cells_at HB2.out 2).trans (show _ = some (Value.int .i64 a.which) from rfl)
  have f3 := free_at HB2.out 2
  have n3 := block_at HB2.out 2 (.int .i64 0)
  have HB3 : Hid ((((w0.setCell ⟨w.heap.size, 1, none⟩ (.bool false)).setCell ⟨w.heap.size, 3, none⟩ (.int .i64 0)).setCell ⟨w.heap.size, 2, none⟩ (.int .i64 0)).heap[w.heap.size]? = some (.cells #[.int .i64 11, .bool false, .int .i64 0, .int .i64 0, .int .i64 a.n, .int .i64 a.at_, v] 44 (0, 0))) := n3
  have HZ3 : Hid ((((w0.setCell ⟨w.heap.size, 1, none⟩ (.bool false)).setCell ⟨w.heap.size, 3, none⟩ (.int .i64 0)).setCell ⟨w.heap.size, 2, none⟩ (.int .i64 0)).heap[w.heap.size + 1]? = some (.cells #[.int .i64 0, .bool false, .int .i64 0, .int .i64 0, .int .i64 0, .int .i64 0, .slice none 0 0] 44 (0, 0))) := (Below.heap_setCell _ _ _ _ (by show w.heap.size + 1 ≠ w.heap.size; omega)).trans HZ2.out
  have HE3 : Hid (Below w.heap.size w (((w0.setCell ⟨w.heap.size, 1, none⟩ (.bool false)).setCell ⟨w.heap.size, 3, none⟩ (.int .i64 0)).setCell ⟨w.heap.size, 2, none⟩ (.int .i64 0))) := HE2.out.setCell (p := ⟨w.heap.size, 2, none⟩) (Nat.le_refl _) _
  clear n3
  have k1 := (cells_at HB3.out 0).trans (show _ = some (Value.int .i64 11) from rfl)
  have c4 := (cells_at HB3.out 0).trans (show _ = some (Value.int .i64 11) from rfl)
  have f4 := free_at HB3.out 0
  have n4 := block_at HB3.out 0 (.int .i64 0)
  have HB4 : Hid (((((w0.setCell ⟨w.heap.size, 1, none⟩ (.bool false)).setCell ⟨w.heap.size, 3, none⟩ (.int .i64 0)).setCell ⟨w.heap.size, 2, none⟩ (.int .i64 0)).setCell ⟨w.heap.size, 0, none⟩ (.int .i64 0)).heap[w.heap.size]? = some (.cells #[.int .i64 0, .bool false, .int .i64 0, .int .i64 0, .int .i64 a.n, .int .i64 a.at_, v] 44 (0, 0))) := n4
  have HZ4 : Hid (((((w0.setCell ⟨w.heap.size, 1, none⟩ (.bool false)).setCell ⟨w.heap.size, 3, none⟩ (.int .i64 0)).setCell ⟨w.heap.size, 2, none⟩ (.int .i64 0)).setCell ⟨w.heap.size, 0, none⟩ (.int .i64 0)).heap[w.heap.size + 1]? = some (.cells #[.int .i64 0, .bool false, .int .i64 0, .int .i64 0, .int .i64 0, .int .i64 0, .slice none 0 0] 44 (0, 0))) := (Below.heap_setCell _ _ _ _ (by show w.heap.size + 1 ≠ w.heap.size; omega)).trans HZ3.out
  have HE4 : Hid (Below w.heap.size w ((((w0.setCell ⟨w.heap.size, 1, none⟩ (.bool false)).setCell ⟨w.heap.size, 3, none⟩ (.int .i64 0)).setCell ⟨w.heap.size, 2, none⟩ (.int .i64 0)).setCell ⟨w.heap.size, 0, none⟩ (.int .i64 0))) := HE3.out.setCell (p := ⟨w.heap.size, 0, none⟩) (Nat.le_refl _) _
  clear n4
  go_upto_region 29 with fail
  generalize ((((w0.setCell ⟨w.heap.size, 1, none⟩ (.bool false)).setCell ⟨w.heap.size, 3, none⟩ (.int .i64 0)).setCell ⟨w.heap.size, 2, none⟩ (.int .i64 0)).setCell ⟨w.heap.size, 0, none⟩ (.int .i64 0)) = w9 at *
  clear c1 f1 c2 f2 c3 f3 c4 f4 k0 k1
  go_wp2_with (first
    | (refine wpList_load_row rfl 44 (.tmp 1) rfl w.heap.size rfl _ _ _ _ HB4.out Tryd.underlying44 rfl (by rw [act44]; rfl) ?_)
    | (refine wpList_store_row rfl 44 (.tmp 2) (.tmp 43) rfl (w.heap.size + 1) #[.int .i64 0, .bool false, .int .i64 0, .int .i64 0, .int .i64 a.n, .int .i64 a.at_, v] rfl rfl 44 _ HZ4.out (by rw [act44]; rfl) (by rfl) hone ?_)
    | fail)
  exact bodyPost_ret (results_cell_row rfl _ _ (w.heap.size + 1) 44 #[.int .i64 0, .bool false, .int .i64 0, .int .i64 0, .int .i64 a.n, .int .i64 a.at_, v] (0, 0) _ rfl (setRow_heap _ _ _ _ _ _ HZ4.out) Tryd.underlying44 rfl (by rw [act44]; rfl)) rfl ⟨rfl, below_setRow HE4.out (Nat.le_succ _) _⟩
set_option maxRecDepth 100000 in
set_option maxHeartbeats 2000000 in
theorem bare_12 (a : AN) (va : Option Addr) (bl vc : Nat) (w : World) :
    Calls Tryd.prog 45 #[.agg #[.int .i64 12, .bool a.yes, .int .i64 a.which, .int .i64 a.k, .int .i64 a.n, .int .i64 a.at_, .slice va bl vc]] w fun e w' => e = .returned (.agg #[.int .i64 0, .bool a.yes, .int .i64 a.which, .int .i64 0, .int .i64 a.n, .int .i64 a.at_, .slice va bl vc]) ∧ Below w.heap.size w w' := by
  obtain ⟨HB0, HZ0, HE0⟩ := act_two (w := w) (A := #[.int .i64 12, .bool a.yes, .int .i64 a.which, .int .i64 a.k, .int .i64 a.n, .int .i64 a.at_, .slice va bl vc]) (B := #[.int .i64 0, .bool false, .int .i64 0, .int .i64 0, .int .i64 0, .int .i64 0, .slice none 0 0]) (t := 44) (t' := 44)
  have hone : (#[.int .i64 0, .bool a.yes, .int .i64 a.which, .int .i64 0, .int .i64 a.n, .int .i64 a.at_, .slice va bl vc] : Array Value).all (·.oneCell') = true := by simp [Value.oneCell']
  generalize hv : (.slice va bl vc : Value) = v at *
  have hv1 : v.oneCell' = true := by rw [← hv]; rfl
  clear hv
  go_enter Tryd.func45, Tryd.ntmps45
  generalize hW0 : (w.alloc (.cells #[.int .i64 12, .bool a.yes, .int .i64 a.which, .int .i64 a.k, .int .i64 a.n, .int .i64 a.at_, v] 44)).alloc (.cells #[.int .i64 0, .bool false, .int .i64 0, .int .i64 0, .int .i64 0, .int .i64 0, .slice none 0 0] 44) = w0 at *
  have k0 := (cells_at HB0.out 0).trans (show _ = some (Value.int .i64 12) from rfl)
  have c1 := (cells_at HB0.out 3).trans (show _ = some (Value.int .i64 a.k) from rfl)
  have f1 := free_at HB0.out 3
  have n1 := block_at HB0.out 3 (.int .i64 0)
  have HB1 : Hid ((w0.setCell ⟨w.heap.size, 3, none⟩ (.int .i64 0)).heap[w.heap.size]? = some (.cells #[.int .i64 12, .bool a.yes, .int .i64 a.which, .int .i64 0, .int .i64 a.n, .int .i64 a.at_, v] 44 (0, 0))) := n1
  have HZ1 : Hid ((w0.setCell ⟨w.heap.size, 3, none⟩ (.int .i64 0)).heap[w.heap.size + 1]? = some (.cells #[.int .i64 0, .bool false, .int .i64 0, .int .i64 0, .int .i64 0, .int .i64 0, .slice none 0 0] 44 (0, 0))) := (Below.heap_setCell _ _ _ _ (by show w.heap.size + 1 ≠ w.heap.size; omega)).trans HZ0.out
  have HE1 : Hid (Below w.heap.size w (w0.setCell ⟨w.heap.size, 3, none⟩ (.int .i64 0))) := HE0.out.setCell (p := ⟨w.heap.size, 3, none⟩) (Nat.le_refl _) _
  clear n1
  have k1 := (cells_at HB1.out 0).trans (show _ = some (Value.int .i64 12) from rfl)
  have c2 := (cells_at HB1.out 0).trans (show _ = some (Value.int .i64 12) from rfl)
  have f2 := free_at HB1.out 0
  have n2 := block_at HB1.out 0 (.int .i64 0)
  have HB2 : Hid (((w0.setCell ⟨w.heap.size, 3, none⟩ (.int .i64 0)).setCell ⟨w.heap.size, 0, none⟩ (.int .i64 0)).heap[w.heap.size]? = some (.cells #[.int .i64 0, .bool a.yes, .int .i64 a.which, .int .i64 0, .int .i64 a.n, .int .i64 a.at_, v] 44 (0, 0))) := n2
  have HZ2 : Hid (((w0.setCell ⟨w.heap.size, 3, none⟩ (.int .i64 0)).setCell ⟨w.heap.size, 0, none⟩ (.int .i64 0)).heap[w.heap.size + 1]? = some (.cells #[.int .i64 0, .bool false, .int .i64 0, .int .i64 0, .int .i64 0, .int .i64 0, .slice none 0 0] 44 (0, 0))) := (Below.heap_setCell _ _ _ _ (by show w.heap.size + 1 ≠ w.heap.size; omega)).trans HZ1.out
  have HE2 : Hid (Below w.heap.size w ((w0.setCell ⟨w.heap.size, 3, none⟩ (.int .i64 0)).setCell ⟨w.heap.size, 0, none⟩ (.int .i64 0))) := HE1.out.setCell (p := ⟨w.heap.size, 0, none⟩) (Nat.le_refl _) _
  clear n2
  go_upto_region 29 with fail
  generalize ((w0.setCell ⟨w.heap.size, 3, none⟩ (.int .i64 0)).setCell ⟨w.heap.size, 0, none⟩ (.int .i64 0)) = w9 at *
  clear c1 f1 c2 f2 k0 k1
  go_wp2_with (first
    | (refine wpList_load_row rfl 44 (.tmp 1) rfl w.heap.size rfl _ _ _ _ HB2.out Tryd.underlying44 rfl (by rw [act44]; rfl) ?_)
    | (refine wpList_store_row rfl 44 (.tmp 2) (.tmp 43) rfl (w.heap.size + 1) #[.int .i64 0, .bool a.yes, .int .i64 a.which, .int .i64 0, .int .i64 a.n, .int .i64 a.at_, v] rfl rfl 44 _ HZ2.out (by rw [act44]; rfl) (by rfl) hone ?_)
    | fail)
  exact bodyPost_ret (results_cell_row rfl _ _ (w.heap.size + 1) 44 #[.int .i64 0, .bool a.yes, .int .i64 a.which, .int .i64 0, .int .i64 a.n, .int .i64 a.at_, v] (0, 0) _ rfl (setRow_heap _ _ _ _ _ _ HZ2.out) Tryd.underlying44 rfl (by rw [act44]; rfl)) rfl ⟨rfl, below_setRow HE2.out (Nat.le_succ _) _⟩
set_option maxRecDepth 100000 in
set_option maxHeartbeats 2000000 in
theorem bare_13 (a : AN) (va : Option Addr) (bl vc : Nat) (w : World) :
    Calls Tryd.prog 45 #[.agg #[.int .i64 13, .bool a.yes, .int .i64 a.which, .int .i64 a.k, .int .i64 a.n, .int .i64 a.at_, .slice va bl vc]] w fun e w' => e = .returned (.agg #[.int .i64 0, .bool a.yes, .int .i64 0, .int .i64 a.k, .int .i64 a.n, .int .i64 a.at_, .slice va bl vc]) ∧ Below w.heap.size w w' := by
  obtain ⟨HB0, HZ0, HE0⟩ := act_two (w := w) (A := #[.int .i64 13, .bool a.yes, .int .i64 a.which, .int .i64 a.k, .int .i64 a.n, .int .i64 a.at_, .slice va bl vc]) (B := #[.int .i64 0, .bool false, .int .i64 0, .int .i64 0, .int .i64 0, .int .i64 0, .slice none 0 0]) (t := 44) (t' := 44)
  have hone : (#[.int .i64 0, .bool a.yes, .int .i64 0, .int .i64 a.k, .int .i64 a.n, .int .i64 a.at_, .slice va bl vc] : Array Value).all (·.oneCell') = true := by simp [Value.oneCell']
  generalize hv : (.slice va bl vc : Value) = v at *
  have hv1 : v.oneCell' = true := by rw [← hv]; rfl
  clear hv
  go_enter Tryd.func45, Tryd.ntmps45
  generalize hW0 : (w.alloc (.cells #[.int .i64 13, .bool a.yes, .int .i64 a.which, .int .i64 a.k, .int .i64 a.n, .int .i64 a.at_, v] 44)).alloc (.cells #[.int .i64 0, .bool false, .int .i64 0, .int .i64 0, .int .i64 0, .int .i64 0, .slice none 0 0] 44) = w0 at *
  have k0 := (cells_at HB0.out 0).trans (show _ = some (Value.int .i64 13) from rfl)
  have c1 := (cells_at HB0.out 2).trans (show _ = some (Value.int .i64 a.which) from rfl)
  have f1 := free_at HB0.out 2
  have n1 := block_at HB0.out 2 (.int .i64 0)
  have HB1 : Hid ((w0.setCell ⟨w.heap.size, 2, none⟩ (.int .i64 0)).heap[w.heap.size]? = some (.cells #[.int .i64 13, .bool a.yes, .int .i64 0, .int .i64 a.k, .int .i64 a.n, .int .i64 a.at_, v] 44 (0, 0))) := n1
  have HZ1 : Hid ((w0.setCell ⟨w.heap.size, 2, none⟩ (.int .i64 0)).heap[w.heap.size + 1]? = some (.cells #[.int .i64 0, .bool false, .int .i64 0, .int .i64 0, .int .i64 0, .int .i64 0, .slice none 0 0] 44 (0, 0))) := (Below.heap_setCell _ _ _ _ (by show w.heap.size + 1 ≠ w.heap.size; omega)).trans HZ0.out
  have HE1 : Hid (Below w.heap.size w (w0.setCell ⟨w.heap.size, 2, none⟩ (.int .i64 0))) := HE0.out.setCell (p := ⟨w.heap.size, 2, none⟩) (Nat.le_refl _) _
  clear n1
  have k1 := (cells_at HB1.out 0).trans (show _ = some (Value.int .i64 13) from rfl)
  have c2 := (cells_at HB1.out 0).trans (show _ = some (Value.int .i64 13) from rfl)
  have f2 := free_at HB1.out 0
  have n2 := block_at HB1.out 0 (.int .i64 0)
  have HB2 : Hid (((w0.setCell ⟨w.heap.size, 2, none⟩ (.int .i64 0)).setCell ⟨w.heap.size, 0, none⟩ (.int .i64 0)).heap[w.heap.size]? = some (.cells #[.int .i64 0, .bool a.yes, .int .i64 0, .int .i64 a.k, .int .i64 a.n, .int .i64 a.at_, v] 44 (0, 0))) := n2
  have HZ2 : Hid (((w0.setCell ⟨w.heap.size, 2, none⟩ (.int .i64 0)).setCell ⟨w.heap.size, 0, none⟩ (.int .i64 0)).heap[w.heap.size + 1]? = some (.cells #[.int .i64 0, .bool false, .int .i64 0, .int .i64 0, .int .i64 0, .int .i64 0, .slice none 0 0] 44 (0, 0))) := (Below.heap_setCell _ _ _ _ (by show w.heap.size + 1 ≠ w.heap.size; omega)).trans HZ1.out
  have HE2 : Hid (Below w.heap.size w ((w0.setCell ⟨w.heap.size, 2, none⟩ (.int .i64 0)).setCell ⟨w.heap.size, 0, none⟩ (.int .i64 0))) := HE1.out.setCell (p := ⟨w.heap.size, 0, none⟩) (Nat.le_refl _) _
  clear n2
  go_upto_region 29 with fail
  generalize ((w0.setCell ⟨w.heap.size, 2, none⟩ (.int .i64 0)).setCell ⟨w.heap.size, 0, none⟩ (.int .i64 0)) = w9 at *
  clear c1 f1 c2 f2 k0 k1
  go_wp2_with (first
    | (refine wpList_load_row rfl 44 (.tmp 1) rfl w.heap.size rfl _ _ _ _ HB2.out Tryd.underlying44 rfl (by rw [act44]; rfl) ?_)
    | (refine wpList_store_row rfl 44 (.tmp 2) (.tmp 43) rfl (w.heap.size + 1) #[.int .i64 0, .bool a.yes, .int .i64 0, .int .i64 a.k, .int .i64 a.n, .int .i64 a.at_, v] rfl rfl 44 _ HZ2.out (by rw [act44]; rfl) (by rfl) hone ?_)
    | fail)
  exact bodyPost_ret (results_cell_row rfl _ _ (w.heap.size + 1) 44 #[.int .i64 0, .bool a.yes, .int .i64 0, .int .i64 a.k, .int .i64 a.n, .int .i64 a.at_, v] (0, 0) _ rfl (setRow_heap _ _ _ _ _ _ HZ2.out) Tryd.underlying44 rfl (by rw [act44]; rfl)) rfl ⟨rfl, below_setRow HE2.out (Nat.le_succ _) _⟩
set_option maxRecDepth 100000 in
set_option maxHeartbeats 2000000 in
theorem bare_14 (a : AN) (va : Option Addr) (bl vc : Nat) (w : World) :
    Calls Tryd.prog 45 #[.agg #[.int .i64 14, .bool a.yes, .int .i64 a.which, .int .i64 a.k, .int .i64 a.n, .int .i64 a.at_, .slice va bl vc]] w fun e w' => e = .returned (.agg #[.int .i64 0, .bool a.yes, .int .i64 a.which, .int .i64 a.k, .int .i64 a.n, .int .i64 a.at_, .slice va bl vc]) ∧ Below w.heap.size w w' := by
  obtain ⟨HB0, HZ0, HE0⟩ := act_two (w := w) (A := #[.int .i64 14, .bool a.yes, .int .i64 a.which, .int .i64 a.k, .int .i64 a.n, .int .i64 a.at_, .slice va bl vc]) (B := #[.int .i64 0, .bool false, .int .i64 0, .int .i64 0, .int .i64 0, .int .i64 0, .slice none 0 0]) (t := 44) (t' := 44)
  have hone : (#[.int .i64 0, .bool a.yes, .int .i64 a.which, .int .i64 a.k, .int .i64 a.n, .int .i64 a.at_, .slice va bl vc] : Array Value).all (·.oneCell') = true := by simp [Value.oneCell']
  generalize hv : (.slice va bl vc : Value) = v at *
  have hv1 : v.oneCell' = true := by rw [← hv]; rfl
  clear hv
  go_enter Tryd.func45, Tryd.ntmps45
  generalize hW0 : (w.alloc (.cells #[.int .i64 14, .bool a.yes, .int .i64 a.which, .int .i64 a.k, .int .i64 a.n, .int .i64 a.at_, v] 44)).alloc (.cells #[.int .i64 0, .bool false, .int .i64 0, .int .i64 0, .int .i64 0, .int .i64 0, .slice none 0 0] 44) = w0 at *
  have k0 := (cells_at HB0.out 0).trans (show _ = some (Value.int .i64 14) from rfl)
  have c1 := (cells_at HB0.out 0).trans (show _ = some (Value.int .i64 14) from rfl)
  have f1 := free_at HB0.out 0
  have n1 := block_at HB0.out 0 (.int .i64 0)
  have HB1 : Hid ((w0.setCell ⟨w.heap.size, 0, none⟩ (.int .i64 0)).heap[w.heap.size]? = some (.cells #[.int .i64 0, .bool a.yes, .int .i64 a.which, .int .i64 a.k, .int .i64 a.n, .int .i64 a.at_, v] 44 (0, 0))) := n1
  have HZ1 : Hid ((w0.setCell ⟨w.heap.size, 0, none⟩ (.int .i64 0)).heap[w.heap.size + 1]? = some (.cells #[.int .i64 0, .bool false, .int .i64 0, .int .i64 0, .int .i64 0, .int .i64 0, .slice none 0 0] 44 (0, 0))) := (Below.heap_setCell _ _ _ _ (by show w.heap.size + 1 ≠ w.heap.size; omega)).trans HZ0.out
  have HE1 : Hid (Below w.heap.size w (w0.setCell ⟨w.heap.size, 0, none⟩ (.int .i64 0))) := HE0.out.setCell (p := ⟨w.heap.size, 0, none⟩) (Nat.le_refl _) _
  clear n1
  go_upto_region 29 with fail
  generalize (w0.setCell ⟨w.heap.size, 0, none⟩ (.int .i64 0)) = w9 at *
  clear c1 f1 k0
  go_wp2_with (first
    | (refine wpList_load_row rfl 44 (.tmp 1) rfl w.heap.size rfl _ _ _ _ HB1.out Tryd.underlying44 rfl (by rw [act44]; rfl) ?_)
    | (refine wpList_store_row rfl 44 (.tmp 2) (.tmp 43) rfl (w.heap.size + 1) #[.int .i64 0, .bool a.yes, .int .i64 a.which, .int .i64 a.k, .int .i64 a.n, .int .i64 a.at_, v] rfl rfl 44 _ HZ1.out (by rw [act44]; rfl) (by rfl) hone ?_)
    | fail)
  exact bodyPost_ret (results_cell_row rfl _ _ (w.heap.size + 1) 44 #[.int .i64 0, .bool a.yes, .int .i64 a.which, .int .i64 a.k, .int .i64 a.n, .int .i64 a.at_, v] (0, 0) _ rfl (setRow_heap _ _ _ _ _ _ HZ1.out) Tryd.underlying44 rfl (by rw [act44]; rfl)) rfl ⟨rfl, below_setRow HE1.out (Nat.le_succ _) _⟩
set_option maxRecDepth 100000 in
set_option maxHeartbeats 2000000 in
theorem bare_15 (a : AN) (va : Option Addr) (bl vc : Nat) (w : World) :
    Calls Tryd.prog 45 #[.agg #[.int .i64 15, .bool a.yes, .int .i64 a.which, .int .i64 a.k, .int .i64 a.n, .int .i64 a.at_, .slice va bl vc]] w fun e w' => e = .returned (.agg #[.int .i64 0, .bool a.yes, .int .i64 a.which, .int .i64 a.k, .int .i64 a.n, .int .i64 a.at_, .slice va bl vc]) ∧ Below w.heap.size w w' := by
  obtain ⟨HB0, HZ0, HE0⟩ := act_two (w := w) (A := #[.int .i64 15, .bool a.yes, .int .i64 a.which, .int .i64 a.k, .int .i64 a.n, .int .i64 a.at_, .slice va bl vc]) (B := #[.int .i64 0, .bool false, .int .i64 0, .int .i64 0, .int .i64 0, .int .i64 0, .slice none 0 0]) (t := 44) (t' := 44)
  have hone : (#[.int .i64 0, .bool a.yes, .int .i64 a.which, .int .i64 a.k, .int .i64 a.n, .int .i64 a.at_, .slice va bl vc] : Array Value).all (·.oneCell') = true := by simp [Value.oneCell']
  generalize hv : (.slice va bl vc : Value) = v at *
  have hv1 : v.oneCell' = true := by rw [← hv]; rfl
  clear hv
  go_enter Tryd.func45, Tryd.ntmps45
  generalize hW0 : (w.alloc (.cells #[.int .i64 15, .bool a.yes, .int .i64 a.which, .int .i64 a.k, .int .i64 a.n, .int .i64 a.at_, v] 44)).alloc (.cells #[.int .i64 0, .bool false, .int .i64 0, .int .i64 0, .int .i64 0, .int .i64 0, .slice none 0 0] 44) = w0 at *
  have k0 := (cells_at HB0.out 0).trans (show _ = some (Value.int .i64 15) from rfl)
  have c1 := (cells_at HB0.out 0).trans (show _ = some (Value.int .i64 15) from rfl)
  have f1 := free_at HB0.out 0
  have n1 := block_at HB0.out 0 (.int .i64 0)
  have HB1 : Hid ((w0.setCell ⟨w.heap.size, 0, none⟩ (.int .i64 0)).heap[w.heap.size]? = some (.cells #[.int .i64 0, .bool a.yes, .int .i64 a.which, .int .i64 a.k, .int .i64 a.n, .int .i64 a.at_, v] 44 (0, 0))) := n1
  have HZ1 : Hid ((w0.setCell ⟨w.heap.size, 0, none⟩ (.int .i64 0)).heap[w.heap.size + 1]? = some (.cells #[.int .i64 0, .bool false, .int .i64 0, .int .i64 0, .int .i64 0, .int .i64 0, .slice none 0 0] 44 (0, 0))) := (Below.heap_setCell _ _ _ _ (by show w.heap.size + 1 ≠ w.heap.size; omega)).trans HZ0.out
  have HE1 : Hid (Below w.heap.size w (w0.setCell ⟨w.heap.size, 0, none⟩ (.int .i64 0))) := HE0.out.setCell (p := ⟨w.heap.size, 0, none⟩) (Nat.le_refl _) _
  clear n1
  go_upto_region 29 with fail
  generalize (w0.setCell ⟨w.heap.size, 0, none⟩ (.int .i64 0)) = w9 at *
  clear c1 f1 k0
  go_wp2_with (first
    | (refine wpList_load_row rfl 44 (.tmp 1) rfl w.heap.size rfl _ _ _ _ HB1.out Tryd.underlying44 rfl (by rw [act44]; rfl) ?_)
    | (refine wpList_store_row rfl 44 (.tmp 2) (.tmp 43) rfl (w.heap.size + 1) #[.int .i64 0, .bool a.yes, .int .i64 a.which, .int .i64 a.k, .int .i64 a.n, .int .i64 a.at_, v] rfl rfl 44 _ HZ1.out (by rw [act44]; rfl) (by rfl) hone ?_)
    | fail)
  exact bodyPost_ret (results_cell_row rfl _ _ (w.heap.size + 1) 44 #[.int .i64 0, .bool a.yes, .int .i64 a.which, .int .i64 a.k, .int .i64 a.n, .int .i64 a.at_, v] (0, 0) _ rfl (setRow_heap _ _ _ _ _ _ HZ1.out) Tryd.underlying44 rfl (by rw [act44]; rfl)) rfl ⟨rfl, below_setRow HE1.out (Nat.le_succ _) _⟩
set_option maxRecDepth 100000 in
set_option maxHeartbeats 2000000 in
theorem bare_16 (a : AN) (va : Option Addr) (bl vc : Nat) (w : World) :
    Calls Tryd.prog 45 #[.agg #[.int .i64 16, .bool a.yes, .int .i64 a.which, .int .i64 a.k, .int .i64 a.n, .int .i64 a.at_, .slice va bl vc]] w fun e w' => e = .returned (.agg #[.int .i64 0, .bool a.yes, .int .i64 a.which, .int .i64 a.k, .int .i64 a.n, .int .i64 a.at_, .slice none 0 0]) ∧ Below w.heap.size w w' := by
  obtain ⟨HB0, HZ0, HE0⟩ := act_two (w := w) (A := #[.int .i64 16, .bool a.yes, .int .i64 a.which, .int .i64 a.k, .int .i64 a.n, .int .i64 a.at_, .slice va bl vc]) (B := #[.int .i64 0, .bool false, .int .i64 0, .int .i64 0, .int .i64 0, .int .i64 0, .slice none 0 0]) (t := 44) (t' := 44)
  have hone : (#[.int .i64 0, .bool a.yes, .int .i64 a.which, .int .i64 a.k, .int .i64 a.n, .int .i64 a.at_, .slice none 0 0] : Array Value).all (·.oneCell') = true := by simp [Value.oneCell']
  generalize hv : (.slice va bl vc : Value) = v at *
  have hv1 : v.oneCell' = true := by rw [← hv]; rfl
  clear hv
  go_enter Tryd.func45, Tryd.ntmps45
  generalize hW0 : (w.alloc (.cells #[.int .i64 16, .bool a.yes, .int .i64 a.which, .int .i64 a.k, .int .i64 a.n, .int .i64 a.at_, v] 44)).alloc (.cells #[.int .i64 0, .bool false, .int .i64 0, .int .i64 0, .int .i64 0, .int .i64 0, .slice none 0 0] 44) = w0 at *
  have k0 := (cells_at HB0.out 0).trans (show _ = some (Value.int .i64 16) from rfl)
  have c1 := (cells_at HB0.out 6).trans (show _ = some ((v : Value)) from rfl)
  have f1 := free_at HB0.out 6
  have n1 := block_at HB0.out 6 (.slice none 0 0)
  have HB1 : Hid ((w0.setCell ⟨w.heap.size, 6, none⟩ (.slice none 0 0)).heap[w.heap.size]? = some (.cells #[.int .i64 16, .bool a.yes, .int .i64 a.which, .int .i64 a.k, .int .i64 a.n, .int .i64 a.at_, .slice none 0 0] 44 (0, 0))) := n1
  have HZ1 : Hid ((w0.setCell ⟨w.heap.size, 6, none⟩ (.slice none 0 0)).heap[w.heap.size + 1]? = some (.cells #[.int .i64 0, .bool false, .int .i64 0, .int .i64 0, .int .i64 0, .int .i64 0, .slice none 0 0] 44 (0, 0))) := (Below.heap_setCell _ _ _ _ (by show w.heap.size + 1 ≠ w.heap.size; omega)).trans HZ0.out
  have HE1 : Hid (Below w.heap.size w (w0.setCell ⟨w.heap.size, 6, none⟩ (.slice none 0 0))) := HE0.out.setCell (p := ⟨w.heap.size, 6, none⟩) (Nat.le_refl _) _
  clear n1
  have k1 := (cells_at HB1.out 0).trans (show _ = some (Value.int .i64 16) from rfl)
  have c2 := (cells_at HB1.out 0).trans (show _ = some (Value.int .i64 16) from rfl)
  have f2 := free_at HB1.out 0
  have n2 := block_at HB1.out 0 (.int .i64 0)
  have HB2 : Hid (((w0.setCell ⟨w.heap.size, 6, none⟩ (.slice none 0 0)).setCell ⟨w.heap.size, 0, none⟩ (.int .i64 0)).heap[w.heap.size]? = some (.cells #[.int .i64 0, .bool a.yes, .int .i64 a.which, .int .i64 a.k, .int .i64 a.n, .int .i64 a.at_, .slice none 0 0] 44 (0, 0))) := n2
  have HZ2 : Hid (((w0.setCell ⟨w.heap.size, 6, none⟩ (.slice none 0 0)).setCell ⟨w.heap.size, 0, none⟩ (.int .i64 0)).heap[w.heap.size + 1]? = some (.cells #[.int .i64 0, .bool false, .int .i64 0, .int .i64 0, .int .i64 0, .int .i64 0, .slice none 0 0] 44 (0, 0))) := (Below.heap_setCell _ _ _ _ (by show w.heap.size + 1 ≠ w.heap.size; omega)).trans HZ1.out
  have HE2 : Hid (Below w.heap.size w ((w0.setCell ⟨w.heap.size, 6, none⟩ (.slice none 0 0)).setCell ⟨w.heap.size, 0, none⟩ (.int .i64 0))) := HE1.out.setCell (p := ⟨w.heap.size, 0, none⟩) (Nat.le_refl _) _
  clear n2
  go_upto_region 29 with fail
  generalize ((w0.setCell ⟨w.heap.size, 6, none⟩ (.slice none 0 0)).setCell ⟨w.heap.size, 0, none⟩ (.int .i64 0)) = w9 at *
  clear c1 f1 c2 f2 k0 k1
  go_wp2_with (first
    | (refine wpList_load_row rfl 44 (.tmp 1) rfl w.heap.size rfl _ _ _ _ HB2.out Tryd.underlying44 rfl (by rw [act44]; rfl) ?_)
    | (refine wpList_store_row rfl 44 (.tmp 2) (.tmp 43) rfl (w.heap.size + 1) #[.int .i64 0, .bool a.yes, .int .i64 a.which, .int .i64 a.k, .int .i64 a.n, .int .i64 a.at_, .slice none 0 0] rfl rfl 44 _ HZ2.out (by rw [act44]; rfl) (by rfl) hone ?_)
    | fail)
  exact bodyPost_ret (results_cell_row rfl _ _ (w.heap.size + 1) 44 #[.int .i64 0, .bool a.yes, .int .i64 a.which, .int .i64 a.k, .int .i64 a.n, .int .i64 a.at_, .slice none 0 0] (0, 0) _ rfl (setRow_heap _ _ _ _ _ _ HZ2.out) Tryd.underlying44 rfl (by rw [act44]; rfl)) rfl ⟨rfl, below_setRow HE2.out (Nat.le_succ _) _⟩
set_option maxRecDepth 100000 in
set_option maxHeartbeats 2000000 in
theorem bare_17 (a : AN) (va : Option Addr) (bl vc : Nat) (w : World) :
    Calls Tryd.prog 45 #[.agg #[.int .i64 17, .bool a.yes, .int .i64 a.which, .int .i64 a.k, .int .i64 a.n, .int .i64 a.at_, .slice va bl vc]] w fun e w' => e = .returned (.agg #[.int .i64 0, .bool a.yes, .int .i64 a.which, .int .i64 a.k, .int .i64 0, .int .i64 a.at_, .slice none 0 0]) ∧ Below w.heap.size w w' := by
  obtain ⟨HB0, HZ0, HE0⟩ := act_two (w := w) (A := #[.int .i64 17, .bool a.yes, .int .i64 a.which, .int .i64 a.k, .int .i64 a.n, .int .i64 a.at_, .slice va bl vc]) (B := #[.int .i64 0, .bool false, .int .i64 0, .int .i64 0, .int .i64 0, .int .i64 0, .slice none 0 0]) (t := 44) (t' := 44)
  have hone : (#[.int .i64 0, .bool a.yes, .int .i64 a.which, .int .i64 a.k, .int .i64 0, .int .i64 a.at_, .slice none 0 0] : Array Value).all (·.oneCell') = true := by simp [Value.oneCell']
  generalize hv : (.slice va bl vc : Value) = v at *
  have hv1 : v.oneCell' = true := by rw [← hv]; rfl
  clear hv
  go_enter Tryd.func45, Tryd.ntmps45
  generalize hW0 : (w.alloc (.cells #[.int .i64 17, .bool a.yes, .int .i64 a.which, .int .i64 a.k, .int .i64 a.n, .int .i64 a.at_, v] 44)).alloc (.cells #[.int .i64 0, .bool false, .int .i64 0, .int .i64 0, .int .i64 0, .int .i64 0, .slice none 0 0] 44) = w0 at *
  have k0 := (cells_at HB0.out 0).trans (show _ = some (Value.int .i64 17) from rfl)
  have c1 := (cells_at HB0.out 4).trans (show _ = some (Value.int .i64 a.n) from rfl)
  have f1 := free_at HB0.out 4
  have n1 := block_at HB0.out 4 (.int .i64 0)
  have HB1 : Hid ((w0.setCell ⟨w.heap.size, 4, none⟩ (.int .i64 0)).heap[w.heap.size]? = some (.cells #[.int .i64 17, .bool a.yes, .int .i64 a.which, .int .i64 a.k, .int .i64 0, .int .i64 a.at_, v] 44 (0, 0))) := n1
  have HZ1 : Hid ((w0.setCell ⟨w.heap.size, 4, none⟩ (.int .i64 0)).heap[w.heap.size + 1]? = some (.cells #[.int .i64 0, .bool false, .int .i64 0, .int .i64 0, .int .i64 0, .int .i64 0, .slice none 0 0] 44 (0, 0))) := (Below.heap_setCell _ _ _ _ (by show w.heap.size + 1 ≠ w.heap.size; omega)).trans HZ0.out
  have HE1 : Hid (Below w.heap.size w (w0.setCell ⟨w.heap.size, 4, none⟩ (.int .i64 0))) := HE0.out.setCell (p := ⟨w.heap.size, 4, none⟩) (Nat.le_refl _) _
  clear n1
  have c2 := (cells_at HB1.out 6).trans (show _ = some ((v : Value)) from rfl)
  have f2 := free_at HB1.out 6
  have n2 := block_at HB1.out 6 (.slice none 0 0)
  have HB2 : Hid (((w0.setCell ⟨w.heap.size, 4, none⟩ (.int .i64 0)).setCell ⟨w.heap.size, 6, none⟩ (.slice none 0 0)).heap[w.heap.size]? = some (.cells #[.int .i64 17, .bool a.yes, .int .i64 a.which, .int .i64 a.k, .int .i64 0, .int .i64 a.at_, .slice none 0 0] 44 (0, 0))) := n2
  have HZ2 : Hid (((w0.setCell ⟨w.heap.size, 4, none⟩ (.int .i64 0)).setCell ⟨w.heap.size, 6, none⟩ (.slice none 0 0)).heap[w.heap.size + 1]? = some (.cells #[.int .i64 0, .bool false, .int .i64 0, .int .i64 0, .int .i64 0, .int .i64 0, .slice none 0 0] 44 (0, 0))) := (Below.heap_setCell _ _ _ _ (by show w.heap.size + 1 ≠ w.heap.size; omega)).trans HZ1.out
  have HE2 : Hid (Below w.heap.size w ((w0.setCell ⟨w.heap.size, 4, none⟩ (.int .i64 0)).setCell ⟨w.heap.size, 6, none⟩ (.slice none 0 0))) := HE1.out.setCell (p := ⟨w.heap.size, 6, none⟩) (Nat.le_refl _) _
  clear n2
  have k1 := (cells_at HB2.out 0).trans (show _ = some (Value.int .i64 17) from rfl)
  have c3 := (cells_at HB2.out 0).trans (show _ = some (Value.int .i64 17) from rfl)
  have f3 := free_at HB2.out 0
  have n3 := block_at HB2.out 0 (.int .i64 0)
  have HB3 : Hid ((((w0.setCell ⟨w.heap.size, 4, none⟩ (.int .i64 0)).setCell ⟨w.heap.size, 6, none⟩ (.slice none 0 0)).setCell ⟨w.heap.size, 0, none⟩ (.int .i64 0)).heap[w.heap.size]? = some (.cells #[.int .i64 0, .bool a.yes, .int .i64 a.which, .int .i64 a.k, .int .i64 0, .int .i64 a.at_, .slice none 0 0] 44 (0, 0))) := n3
  have HZ3 : Hid ((((w0.setCell ⟨w.heap.size, 4, none⟩ (.int .i64 0)).setCell ⟨w.heap.size, 6, none⟩ (.slice none 0 0)).setCell ⟨w.heap.size, 0, none⟩ (.int .i64 0)).heap[w.heap.size + 1]? = some (.cells #[.int .i64 0, .bool false, .int .i64 0, .int .i64 0, .int .i64 0, .int .i64 0, .slice none 0 0] 44 (0, 0))) := (Below.heap_setCell _ _ _ _ (by show w.heap.size + 1 ≠ w.heap.size; omega)).trans HZ2.out
  have HE3 : Hid (Below w.heap.size w (((w0.setCell ⟨w.heap.size, 4, none⟩ (.int .i64 0)).setCell ⟨w.heap.size, 6, none⟩ (.slice none 0 0)).setCell ⟨w.heap.size, 0, none⟩ (.int .i64 0))) := HE2.out.setCell (p := ⟨w.heap.size, 0, none⟩) (Nat.le_refl _) _
  clear n3
  go_upto_region 29 with fail
  generalize (((w0.setCell ⟨w.heap.size, 4, none⟩ (.int .i64 0)).setCell ⟨w.heap.size, 6, none⟩ (.slice none 0 0)).setCell ⟨w.heap.size, 0, none⟩ (.int .i64 0)) = w9 at *
  clear c1 f1 c2 f2 c3 f3 k0 k1
  go_wp2_with (first
    | (refine wpList_load_row rfl 44 (.tmp 1) rfl w.heap.size rfl _ _ _ _ HB3.out Tryd.underlying44 rfl (by rw [act44]; rfl) ?_)
    | (refine wpList_store_row rfl 44 (.tmp 2) (.tmp 43) rfl (w.heap.size + 1) #[.int .i64 0, .bool a.yes, .int .i64 a.which, .int .i64 a.k, .int .i64 0, .int .i64 a.at_, .slice none 0 0] rfl rfl 44 _ HZ3.out (by rw [act44]; rfl) (by rfl) hone ?_)
    | fail)
  exact bodyPost_ret (results_cell_row rfl _ _ (w.heap.size + 1) 44 #[.int .i64 0, .bool a.yes, .int .i64 a.which, .int .i64 a.k, .int .i64 0, .int .i64 a.at_, .slice none 0 0] (0, 0) _ rfl (setRow_heap _ _ _ _ _ _ HZ3.out) Tryd.underlying44 rfl (by rw [act44]; rfl)) rfl ⟨rfl, below_setRow HE3.out (Nat.le_succ _) _⟩
set_option maxRecDepth 100000 in
set_option maxHeartbeats 2000000 in
theorem bare_18 (a : AN) (va : Option Addr) (bl vc : Nat) (w : World) :
    Calls Tryd.prog 45 #[.agg #[.int .i64 18, .bool a.yes, .int .i64 a.which, .int .i64 a.k, .int .i64 a.n, .int .i64 a.at_, .slice va bl vc]] w fun e w' => e = .returned (.agg #[.int .i64 0, .bool a.yes, .int .i64 a.which, .int .i64 a.k, .int .i64 a.n, .int .i64 0, .slice none 0 0]) ∧ Below w.heap.size w w' := by
  obtain ⟨HB0, HZ0, HE0⟩ := act_two (w := w) (A := #[.int .i64 18, .bool a.yes, .int .i64 a.which, .int .i64 a.k, .int .i64 a.n, .int .i64 a.at_, .slice va bl vc]) (B := #[.int .i64 0, .bool false, .int .i64 0, .int .i64 0, .int .i64 0, .int .i64 0, .slice none 0 0]) (t := 44) (t' := 44)
  have hone : (#[.int .i64 0, .bool a.yes, .int .i64 a.which, .int .i64 a.k, .int .i64 a.n, .int .i64 0, .slice none 0 0] : Array Value).all (·.oneCell') = true := by simp [Value.oneCell']
  generalize hv : (.slice va bl vc : Value) = v at *
  have hv1 : v.oneCell' = true := by rw [← hv]; rfl
  clear hv
  go_enter Tryd.func45, Tryd.ntmps45
  generalize hW0 : (w.alloc (.cells #[.int .i64 18, .bool a.yes, .int .i64 a.which, .int .i64 a.k, .int .i64 a.n, .int .i64 a.at_, v] 44)).alloc (.cells #[.int .i64 0, .bool false, .int .i64 0, .int .i64 0, .int .i64 0, .int .i64 0, .slice none 0 0] 44) = w0 at *
  have k0 := (cells_at HB0.out 0).trans (show _ = some (Value.int .i64 18) from rfl)
  have c1 := (cells_at HB0.out 5).trans (show _ = some (Value.int .i64 a.at_) from rfl)
  have f1 := free_at HB0.out 5
  have n1 := block_at HB0.out 5 (.int .i64 0)
  have HB1 : Hid ((w0.setCell ⟨w.heap.size, 5, none⟩ (.int .i64 0)).heap[w.heap.size]? = some (.cells #[.int .i64 18, .bool a.yes, .int .i64 a.which, .int .i64 a.k, .int .i64 a.n, .int .i64 0, v] 44 (0, 0))) := n1
  have HZ1 : Hid ((w0.setCell ⟨w.heap.size, 5, none⟩ (.int .i64 0)).heap[w.heap.size + 1]? = some (.cells #[.int .i64 0, .bool false, .int .i64 0, .int .i64 0, .int .i64 0, .int .i64 0, .slice none 0 0] 44 (0, 0))) := (Below.heap_setCell _ _ _ _ (by show w.heap.size + 1 ≠ w.heap.size; omega)).trans HZ0.out
  have HE1 : Hid (Below w.heap.size w (w0.setCell ⟨w.heap.size, 5, none⟩ (.int .i64 0))) := HE0.out.setCell (p := ⟨w.heap.size, 5, none⟩) (Nat.le_refl _) _
  clear n1
  have c2 := (cells_at HB1.out 6).trans (show _ = some ((v : Value)) from rfl)
  have f2 := free_at HB1.out 6
  have n2 := block_at HB1.out 6 (.slice none 0 0)
  have HB2 : Hid (((w0.setCell ⟨w.heap.size, 5, none⟩ (.int .i64 0)).setCell ⟨w.heap.size, 6, none⟩ (.slice none 0 0)).heap[w.heap.size]? = some (.cells #[.int .i64 18, .bool a.yes, .int .i64 a.which, .int .i64 a.k, .int .i64 a.n, .int .i64 0, .slice none 0 0] 44 (0, 0))) := n2
  have HZ2 : Hid (((w0.setCell ⟨w.heap.size, 5, none⟩ (.int .i64 0)).setCell ⟨w.heap.size, 6, none⟩ (.slice none 0 0)).heap[w.heap.size + 1]? = some (.cells #[.int .i64 0, .bool false, .int .i64 0, .int .i64 0, .int .i64 0, .int .i64 0, .slice none 0 0] 44 (0, 0))) := (Below.heap_setCell _ _ _ _ (by show w.heap.size + 1 ≠ w.heap.size; omega)).trans HZ1.out
  have HE2 : Hid (Below w.heap.size w ((w0.setCell ⟨w.heap.size, 5, none⟩ (.int .i64 0)).setCell ⟨w.heap.size, 6, none⟩ (.slice none 0 0))) := HE1.out.setCell (p := ⟨w.heap.size, 6, none⟩) (Nat.le_refl _) _
  clear n2
  have k1 := (cells_at HB2.out 0).trans (show _ = some (Value.int .i64 18) from rfl)
  have c3 := (cells_at HB2.out 0).trans (show _ = some (Value.int .i64 18) from rfl)
  have f3 := free_at HB2.out 0
  have n3 := block_at HB2.out 0 (.int .i64 0)
  have HB3 : Hid ((((w0.setCell ⟨w.heap.size, 5, none⟩ (.int .i64 0)).setCell ⟨w.heap.size, 6, none⟩ (.slice none 0 0)).setCell ⟨w.heap.size, 0, none⟩ (.int .i64 0)).heap[w.heap.size]? = some (.cells #[.int .i64 0, .bool a.yes, .int .i64 a.which, .int .i64 a.k, .int .i64 a.n, .int .i64 0, .slice none 0 0] 44 (0, 0))) := n3
  have HZ3 : Hid ((((w0.setCell ⟨w.heap.size, 5, none⟩ (.int .i64 0)).setCell ⟨w.heap.size, 6, none⟩ (.slice none 0 0)).setCell ⟨w.heap.size, 0, none⟩ (.int .i64 0)).heap[w.heap.size + 1]? = some (.cells #[.int .i64 0, .bool false, .int .i64 0, .int .i64 0, .int .i64 0, .int .i64 0, .slice none 0 0] 44 (0, 0))) := (Below.heap_setCell _ _ _ _ (by show w.heap.size + 1 ≠ w.heap.size; omega)).trans HZ2.out
  have HE3 : Hid (Below w.heap.size w (((w0.setCell ⟨w.heap.size, 5, none⟩ (.int .i64 0)).setCell ⟨w.heap.size, 6, none⟩ (.slice none 0 0)).setCell ⟨w.heap.size, 0, none⟩ (.int .i64 0))) := HE2.out.setCell (p := ⟨w.heap.size, 0, none⟩) (Nat.le_refl _) _
  clear n3
  go_upto_region 29 with fail
  generalize (((w0.setCell ⟨w.heap.size, 5, none⟩ (.int .i64 0)).setCell ⟨w.heap.size, 6, none⟩ (.slice none 0 0)).setCell ⟨w.heap.size, 0, none⟩ (.int .i64 0)) = w9 at *
  clear c1 f1 c2 f2 c3 f3 k0 k1
  go_wp2_with (first
    | (refine wpList_load_row rfl 44 (.tmp 1) rfl w.heap.size rfl _ _ _ _ HB3.out Tryd.underlying44 rfl (by rw [act44]; rfl) ?_)
    | (refine wpList_store_row rfl 44 (.tmp 2) (.tmp 43) rfl (w.heap.size + 1) #[.int .i64 0, .bool a.yes, .int .i64 a.which, .int .i64 a.k, .int .i64 a.n, .int .i64 0, .slice none 0 0] rfl rfl 44 _ HZ3.out (by rw [act44]; rfl) (by rfl) hone ?_)
    | fail)
  exact bodyPost_ret (results_cell_row rfl _ _ (w.heap.size + 1) 44 #[.int .i64 0, .bool a.yes, .int .i64 a.which, .int .i64 a.k, .int .i64 a.n, .int .i64 0, .slice none 0 0] (0, 0) _ rfl (setRow_heap _ _ _ _ _ _ HZ3.out) Tryd.underlying44 rfl (by rw [act44]; rfl)) rfl ⟨rfl, below_setRow HE3.out (Nat.le_succ _) _⟩
set_option maxRecDepth 100000 in
set_option maxHeartbeats 2000000 in
theorem bare_19 (a : AN) (va : Option Addr) (bl vc : Nat) (w : World) :
    Calls Tryd.prog 45 #[.agg #[.int .i64 19, .bool a.yes, .int .i64 a.which, .int .i64 a.k, .int .i64 a.n, .int .i64 a.at_, .slice va bl vc]] w fun e w' => e = .returned (.agg #[.int .i64 0, .bool a.yes, .int .i64 a.which, .int .i64 a.k, .int .i64 a.n, .int .i64 a.at_, .slice va bl vc]) ∧ Below w.heap.size w w' := by
  obtain ⟨HB0, HZ0, HE0⟩ := act_two (w := w) (A := #[.int .i64 19, .bool a.yes, .int .i64 a.which, .int .i64 a.k, .int .i64 a.n, .int .i64 a.at_, .slice va bl vc]) (B := #[.int .i64 0, .bool false, .int .i64 0, .int .i64 0, .int .i64 0, .int .i64 0, .slice none 0 0]) (t := 44) (t' := 44)
  have hone : (#[.int .i64 0, .bool a.yes, .int .i64 a.which, .int .i64 a.k, .int .i64 a.n, .int .i64 a.at_, .slice va bl vc] : Array Value).all (·.oneCell') = true := by simp [Value.oneCell']
  generalize hv : (.slice va bl vc : Value) = v at *
  have hv1 : v.oneCell' = true := by rw [← hv]; rfl
  clear hv
  go_enter Tryd.func45, Tryd.ntmps45
  generalize hW0 : (w.alloc (.cells #[.int .i64 19, .bool a.yes, .int .i64 a.which, .int .i64 a.k, .int .i64 a.n, .int .i64 a.at_, v] 44)).alloc (.cells #[.int .i64 0, .bool false, .int .i64 0, .int .i64 0, .int .i64 0, .int .i64 0, .slice none 0 0] 44) = w0 at *
  have k0 := (cells_at HB0.out 0).trans (show _ = some (Value.int .i64 19) from rfl)
  have c1 := (cells_at HB0.out 0).trans (show _ = some (Value.int .i64 19) from rfl)
  have f1 := free_at HB0.out 0
  have n1 := block_at HB0.out 0 (.int .i64 0)
  have HB1 : Hid ((w0.setCell ⟨w.heap.size, 0, none⟩ (.int .i64 0)).heap[w.heap.size]? = some (.cells #[.int .i64 0, .bool a.yes, .int .i64 a.which, .int .i64 a.k, .int .i64 a.n, .int .i64 a.at_, v] 44 (0, 0))) := n1
  have HZ1 : Hid ((w0.setCell ⟨w.heap.size, 0, none⟩ (.int .i64 0)).heap[w.heap.size + 1]? = some (.cells #[.int .i64 0, .bool false, .int .i64 0, .int .i64 0, .int .i64 0, .int .i64 0, .slice none 0 0] 44 (0, 0))) := (Below.heap_setCell _ _ _ _ (by show w.heap.size + 1 ≠ w.heap.size; omega)).trans HZ0.out
  have HE1 : Hid (Below w.heap.size w (w0.setCell ⟨w.heap.size, 0, none⟩ (.int .i64 0))) := HE0.out.setCell (p := ⟨w.heap.size, 0, none⟩) (Nat.le_refl _) _
  clear n1
  go_upto_region 29 with fail
  generalize (w0.setCell ⟨w.heap.size, 0, none⟩ (.int .i64 0)) = w9 at *
  clear c1 f1 k0
  go_wp2_with (first
    | (refine wpList_load_row rfl 44 (.tmp 1) rfl w.heap.size rfl _ _ _ _ HB1.out Tryd.underlying44 rfl (by rw [act44]; rfl) ?_)
    | (refine wpList_store_row rfl 44 (.tmp 2) (.tmp 43) rfl (w.heap.size + 1) #[.int .i64 0, .bool a.yes, .int .i64 a.which, .int .i64 a.k, .int .i64 a.n, .int .i64 a.at_, v] rfl rfl 44 _ HZ1.out (by rw [act44]; rfl) (by rfl) hone ?_)
    | fail)
  exact bodyPost_ret (results_cell_row rfl _ _ (w.heap.size + 1) 44 #[.int .i64 0, .bool a.yes, .int .i64 a.which, .int .i64 a.k, .int .i64 a.n, .int .i64 a.at_, v] (0, 0) _ rfl (setRow_heap _ _ _ _ _ _ HZ1.out) Tryd.underlying44 rfl (by rw [act44]; rfl)) rfl ⟨rfl, below_setRow HE1.out (Nat.le_succ _) _⟩
end Go.Proofs.YteennbdakjjcfaaDoor
