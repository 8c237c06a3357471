/- Contracts of state.shift, state.unshift. -/
import Derived.Test.YtjclofkkpgdjnaaAesC
set_option linter.unusedVariables false
namespace Go.Proofs.Ytjclofkkpgdjnaa
open Go Go.RowKit GfM
def sig (k : Nat) : Nat := (k + 4 * (k % 4)) % 16
def shiftL (l : List Nat) : List Nat := (List.range 16).map fun k => l.getD (sig k) 0
theorem range_st (l : List Nat) (b : Nat) (hl : l.length = 16) {w : World} {g : Nat} (h : w.heap[g]? = some (.cells (stA l b) 148 (0, 0))) : w.rangeAt g 0 (l.map fun (n : Nat) => Value.int .u8 (n : Int)) := by
  intro j v hv
  have hj : j < l.length := by
    have := (List.getElem?_eq_some_iff.1 hv).1; simpa using this
  rw [Nat.zero_add, cells_at h j, stA_get l b j hj]
  simp only [List.getElem?_map] at hv
  rw [List.getElem?_eq_getElem hj] at hv
  simp only [Option.map_some, Option.some.injEq] at hv
  rw [← hv]; simp [hj]
set_option maxRecDepth 100000 in
set_option maxHeartbeats 2000000 in
theorem shift_c (l : List Nat) (hl : l.length = 16) (b : Nat) (w : World) :
    Calls Try.prog 77 #[.agg (stA l b)] w fun e w' => e = .returned (.agg (stA (shiftL l) b)) ∧ Below w.heap.size w w' := by
  have b0 : ∀ (o1 o2 : Obj), (((w.alloc (Obj.cells (stA l b) 148)).alloc o1).alloc o2).heap[w.heap.size]? = some (.cells (stA l b) 148 (0, 0)) := fun o1 o2 => by
    rw [heap_old' _ _ _ (by simp; omega), heap_old' _ _ _ (by simp), heap_new']
  have b1 : ∀ (o0 o2 : Obj) (Z : Array Value), (((w.alloc o0).alloc (Obj.cells Z 148)).alloc o2).heap[w.heap.size + 1]? = some (.cells Z 148 (0, 0)) := fun o0 o2 Z => by
    rw [heap_old' _ _ _ (by simp), show w.heap.size + 1 = (w.alloc o0).heap.size by simp, heap_new']
  have b2 : ∀ (o0 o1 : Obj) (Z : Array Value), (((w.alloc o0).alloc o1).alloc (Obj.cells Z 88)).heap[w.heap.size + 1 + 1]? = some (.cells Z 88 (0, 0)) := fun o0 o1 Z => by
    rw [show w.heap.size + 1 + 1 = ((w.alloc o0).alloc o1).heap.size by simp, heap_new']
  have B0 := Lib.hid b0
  have B1 := Lib.hid b1
  have B2 := Lib.hid b2
  have HL := Lib.hid hl
  have hb0 : ∀ (o1 : Obj), ((w.alloc (Obj.cells (stA l b) 148)).alloc o1).heap[w.heap.size]? = some (.cells (stA l b) 148 (0, 0)) := fun o1 => by
    rw [heap_old' _ _ _ (by simp), heap_new']
  have HB0 := Lib.hid hb0
  clear b0 b1 b2 hl hb0
  go_enter Try.func77, Try.ntmps77
  go_wp2_with (first
    | (refine wpList_load_mid rfl 88 (.tmp 5) rfl w.heap.size 0 rfl _ _ (range_st l b HL.out (HB0.out _)) Try.underlying88 rfl (by rw [zero16]; simp [HL.out]) ?_)
    | (refine wpList_store_row rfl 88 (.tmp 3) (.tmp 6) rfl (w.heap.size + 1 + 1) _ rfl rfl 88 _ (B2.out _ _ _) (by rw [zero16]; simp [HL.out]) (by simp [HL.out]) (by rw [← Array.all_toList]; simp [Value.oneCell']) ?_))
  go_loopw [7] (fun vi wr => ∃ k : Nat, k ≤ 16 ∧ vi = .int .i64 k ∧ Hid (wr.heap[w.heap.size]? = some (.cells (stA (upd (fun k => l.getD (sig k) 0) l k) b) 148 (0, 0))) ∧ Hid (∃ Z, Z.size = 17 ∧ wr.heap[w.heap.size + 1]? = some (.cells Z 148 (0, 0))) ∧ Hid (wr.heap[w.heap.size + 1 + 1]? = some (.cells (bA l) 88 (0, 0))) ∧ Hid (Below w.heap.size w wr)) (fun vi _ => 16 - (intOf vi).toNat)
  case atStart => exact ⟨0, by omega, rfl, (setRow_other _ _ _ _ (by omega)).trans (by rw [upd_zero]; exact B0.out _ _), ⟨_, rfl, (setRow_other _ _ _ _ (by omega)).trans (B1.out _ _ _)⟩, setRow_heap _ _ _ _ _ _ (B2.out _ _ _), below_setRow ((((Below.refl _ _).alloc (Nat.le_refl _) _).alloc (by simp) _).alloc (by simp; omega) _) (by omega) _⟩
  case round =>
    clear B0 B1 B2 HB0
    obtain ⟨k, hk, rfl, h0, h1, h2, hbel⟩ := hrel
    have hlen : (upd (fun k => l.getD (sig k) 0) l k).length = 16 := by rw [upd_len _ _ _ (by rw [HL.out]; exact hk), HL.out]
    by_cases hlt : k < 16
    · obtain ⟨m, hm⟩ : ∃ m, m = sig k := ⟨_, rfl⟩
      have hmI : ((k : Int) + 4 * ((k : Int) % 4)) % 16 = (m : Int) := by rw [hm]; unfold sig; omega
      have hm16 : m < 16 := by rw [hm]; unfold sig; omega
      have c0 := (cells_at h2.out m).trans (bA_get l m (by rw [HL.out]; omega))
      have c1 := (cells_at h0.out k).trans (stA_get _ b k (by omega))
      have f1 := free_at h0.out k
      have d6 : (k : Int) < 16 := by omega
      have d7 : (m : Int) < 16 := by omega
      have HM := Lib.hid hm
      have HLEN := Lib.hid hlen
      obtain ⟨v, hv⟩ : ∃ v, v = l.getD m 0 := ⟨_, rfl⟩
      have HVV := Lib.hid hv
      rw [← hv] at c0
      clear hm hlen hv
      go_wp2
      go_roundw
      case rel =>
        have n0 := block_at h0.out k (.int .u8 (v : Int))
        rw [stA_set _ _ _ _ (by rw [HLEN.out]; omega)] at n0
        have he : v = (fun k => l.getD (sig k) 0) k := by rw [HVV.out, HM.out]
        rw [he, upd_set _ _ _ (by rw [HL.out]; exact hlt), ← he] at n0
        obtain ⟨Z, hZ, hZ2⟩ := h1.out
        exact ⟨k + 1, by omega, by go_num, n0, ⟨Z, hZ, (Below.heap_setCell _ _ _ _ (by simp)).trans hZ2⟩, (Below.heap_setCell _ _ _ _ (by simp; omega)).trans h2.out, hbel.out.setCell (by simp) _⟩
      case measure => simp [intOf]; omega
    · obtain rfl : k = 16 := by omega
      have h3 := h0
      rw [upd_full _ _ 16 HL.out] at h3
      obtain ⟨Z, hZ, hZ2⟩ := h1.out
      have HZ := Lib.hid hZ
      have HZ2 := Lib.hid hZ2
      clear hZ hZ2 h1 hlen
      go_wp2_with (first
        | (refine wpList_load_row rfl 148 (.tmp 1) rfl w.heap.size rfl _ _ _ _ h3.out Try.underlying148 rfl (by rw [st17, stA_size]; simp) ?_)
        | (refine wpList_store_row rfl 148 (.tmp 2) (.tmp 22) rfl (w.heap.size + 1) _ rfl rfl 148 _ HZ2.out (by rw [st17, stA_size]; simp) (by rw [HZ.out, stA_size]; simp) (stA_one _ _) ?_))
      exact bodyPost_ret (results_cell_row rfl _ _ (w.heap.size + 1) 148 (stA (shiftL l) b) (0, 0) _ rfl (setRow_heap _ _ _ _ _ _ HZ2.out) Try.underlying148 rfl (by rw [st17, stA_size]; simp [shiftL])) rfl ⟨rfl, below_setRow hbel.out (by omega) _⟩
def ush (l : List Nat) : Nat → List Nat
  | 0 => l
  | k + 1 => (ush l k).set (sig k) (l.getD k 0)
theorem ush_len (l : List Nat) (k : Nat) : (ush l k).length = l.length := by
  induction k with
  | zero => rfl
  | succ k ih => simp [ush, ih]
def gis (k : Nat) : Nat := (k + 12 * (k % 4)) % 16
def unshiftL (l : List Nat) : List Nat := (List.range 16).map fun k => l.getD (gis k) 0
theorem ush_full (l : List Nat) (h : l.length = 16) : ush l 16 = unshiftL l := by
  match l, h with
  | [a0, a1, a2, a3, a4, a5, a6, a7, a8, a9, a10, a11, a12, a13, a14, a15], _ => rfl
end Go.Proofs.Ytjclofkkpgdjnaa
