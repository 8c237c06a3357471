/- Contract of Cipher.key. -/
import Derived.Test.YtjclofkkpgdjnaaAesD
set_option linter.unusedVariables false
namespace Go.Proofs.Ytjclofkkpgdjnaa
open Go Go.RowKit GfM
def keyL (l W : List Nat) (r : Nat) : List Nat := (List.range 16).map fun k => l.getD k 0 ^^^ W.getD (16 * r + k) 0
set_option maxRecDepth 100000 in
set_option maxHeartbeats 4000000 in
theorem key_c (c b g n cap rd : Nat) (W l : List Nat) (hl : l.length = 16) (hb : ∀ j, j < 16 → l.getD j 0 < 256) (r : Nat) (hr : 16 * r + 16 ≤ W.length) (hr2 : r < 1000) (w : World) (hC : Cip w c b g n cap rd W) :
    Calls Try.prog 74 #[.pointer (some ⟨c, 0, none⟩), .agg (stA l b), .int .i64 (r : Int)] w fun e w' => e = .returned (.agg (stA (keyL l W r) b)) ∧ Below w.heap.size w w' := by
  have b0 : ∀ (o1 : Obj), ((w.alloc (Obj.cells (stA l b) 148)).alloc o1).heap[w.heap.size]? = some (.cells (stA (upd (fun k => l.getD k 0 ^^^ W.getD (16 * r + k) 0) l 0) b) 148 (0, 0)) := fun o1 => by
    rw [heap_old' _ _ _ (by simp), heap_new', upd_zero]
  have b2 : ∀ (o0 : Obj) (Z : Array Value), ((w.alloc o0).alloc (Obj.cells Z 148)).heap[w.heap.size + 1]? = some (.cells Z 148 (0, 0)) := fun o0 Z => by
    rw [show w.heap.size + 1 = (w.alloc o0).heap.size by simp, heap_new']
  have B0 := Lib.hid b0
  have B2 := Lib.hid b2
  have HL := Lib.hid hl
  have HV := Lib.hid hb
  have HC := Lib.hid hC
  have hn4 := hC.flen
  have hncap := hC.fcap
  have hcm := hC.fcapm
  unfold maxLen at hcm
  have hn : 4 * r + 4 ≤ n := by omega
  clear b0 b2 hl hb hC hn4
  go_enter Try.func74, Try.ntmps74
  go_wp2
  go_loopw [8] (fun vi wr => ∃ k : Nat, k ≤ 16 ∧ vi = .int .i64 k ∧ Hid (wr.heap[w.heap.size]? = some (.cells (stA (upd (fun k => l.getD k 0 ^^^ W.getD (16 * r + k) 0) l k) b) 148 (0, 0))) ∧ Hid (∃ Z, Z.size = 17 ∧ wr.heap[w.heap.size + 1]? = some (.cells Z 148 (0, 0))) ∧ Hid (Below w.heap.size w wr)) (fun vi _ => 16 - (intOf vi).toNat)
  case atStart => exact ⟨0, by omega, rfl, B0.out _, ⟨_, rfl, B2.out _ _⟩, (((Below.refl _ _).alloc (Nat.le_refl _) _).alloc (by simp) _)⟩
  case round =>
    clear B0 B2
    obtain ⟨k, hk, rfl, h0, h2, hbel⟩ := hrel
    have hlen : (upd (fun k => l.getD k 0 ^^^ W.getD (16 * r + k) 0) l k).length = 16 := by rw [upd_len _ _ _ (by rw [HL.out]; exact hk), HL.out]
    by_cases hlt : k < 16
    · have c0 := (cells_at h0.out k).trans (stA_get _ b k (by omega))
      rw [upd_get] at c0
      have f0 := free_at h0.out k
      have hCr := HC.out.up hbel.out (Nat.le_refl _)
      have c1 := hCr.c1
      obtain ⟨q, hq⟩ : ∃ q, q = k / 4 := ⟨_, rfl⟩
      obtain ⟨m, hm⟩ : ∃ m, m = k % 4 := ⟨_, rfl⟩
      have c2 := hCr.wd ((4 * r + q) * 4 + m) (by omega)
      rw [show (4 * r + q) * 4 + m = 16 * r + k by omega] at c2
      rw [show 16 * r + k = (4 * r + q) * 4 + m by omega] at c2
      obtain ⟨v, hv⟩ : ∃ v, v = l.getD k 0 := ⟨_, rfl⟩
      obtain ⟨u, hu⟩ : ∃ u, u = W.getD ((4 * r + q) * 4 + m) 0 := ⟨_, rfl⟩
      rw [← hv] at c0
      rw [← hu] at c2
      have hvb : v < 256 := by rw [hv]; exact HV.out k hlt
      have hub : u < 256 := by
        rw [hu, List.getD_eq_getElem?_getD, List.getElem?_eq_getElem (by omega)]
        exact HC.out.fbyte _ (List.getElem_mem _)
      have hx : bits BinOp.xor IntKind.u8 (v : Int) (u : Int) = ((v ^^^ u : Nat) : Int) := u8x rfl rfl hvb hub
      have hvu : v ^^^ u = (fun k => l.getD k 0 ^^^ W.getD (16 * r + k) 0) k := by
        show _ = l.getD k 0 ^^^ W.getD (16 * r + k) 0
        rw [hv, hu, show 16 * r + k = (4 * r + q) * 4 + m by omega]
      have HX := Lib.hid hx
      have HVU := Lib.hid hvu
      have HLEN := Lib.hid hlen
      have e1 : IntKind.i64.wrap (4 * (r : Int)) = 4 * (r : Int) := IntWalk.i64_in _ (by omega)
      have e2 : IntKind.i64.wrap ((k : Int) / 4) = (q : Int) := by rw [IntWalk.i64_in _ (by omega)]; omega
      have e3 : (k : Int).tmod 4 = (m : Int) := by rw [Int.tmod_eq_emod_of_nonneg (by omega)]; omega
      have e4 : IntKind.i64.wrap (4 * (r : Int) + (q : Int)) = 4 * (r : Int) + (q : Int) := IntWalk.i64_in _ (by omega)
      have e5 : (0 : Int) ≤ 4 * (r : Int) + (q : Int) ∧ 4 * (r : Int) + (q : Int) < (n : Int) := by omega
      have e6 : (4 * (r : Int) + (q : Int)).toNat = 4 * r + q := by omega
      have d6 : (k : Int) < 16 := by omega
      have d7 : (m : Int) < 4 := by omega
      have hd : decide ((k : Int) < 16) = true := by simp; omega
      clear hq hm hv hu hCr hlen hx hvu
      go_wp2
      refine wp_region_still_tail 21 (by kernel_rfl) (by kernel_rfl) ?_
      simp only [List.take_succ_cons, List.take_zero, List.drop_succ_cons, List.drop_zero]
      change wpStill _ _ wr.drew _ _ _
      repeat still_step
      refine wpStill_nil ?_
      change wpList _ _ _ _ _ wr.drew
      have n0 := block_at h0.out k (.int .u8 ((v ^^^ u : Nat) : Int))
      rw [stA_set _ _ _ _ (by rw [HLEN.out]; exact hlt), HVU.out, upd_set _ _ _ (by rw [HL.out]; exact hlt), ← HVU.out, ← HX.out] at n0
      have N0 := Lib.hid n0
      clear n0 e1 e2 e3 e4 e5 e6
      go_wp2
      go_roundw
      case rel =>
        obtain ⟨Z, hZ, hZ2⟩ := h2.out
        exact ⟨k + 1, by omega, by go_num, N0.out, ⟨Z, hZ, (Below.heap_setCell _ _ _ _ (by simp)).trans hZ2⟩, (hbel.out.setCell (by simp) _).drew⟩
      case measure => simp [intOf]; omega
    · obtain rfl : k = 16 := by omega
      have h3 := h0
      rw [upd_full _ _ 16 HL.out] at h3
      obtain ⟨Z, hZ, hZ2⟩ := h2.out
      have HZ := Lib.hid hZ
      have HZ2 := Lib.hid hZ2
      clear hZ hZ2 h2 hlen
      go_wp2_with (first
        | (refine wpList_load_row rfl 148 (.tmp 4) rfl w.heap.size rfl _ _ _ _ h3.out Try.underlying148 rfl (by rw [st17, stA_size]; simp) ?_)
        | (refine wpList_store_row rfl 148 (.tmp 6) (.tmp 33) rfl (w.heap.size + 1) _ rfl rfl 148 _ HZ2.out (by rw [st17, stA_size]; simp) (by rw [HZ.out, stA_size]; simp) (stA_one _ _) ?_))
      exact bodyPost_ret (results_cell_row rfl _ _ (w.heap.size + 1) 148 (stA (keyL l W r) b) (0, 0) _ rfl (setRow_heap _ _ _ _ _ _ HZ2.out) Try.underlying148 rfl (by rw [st17, stA_size]; simp [keyL])) rfl ⟨rfl, below_setRow hbel.out (by omega) _⟩
end Go.Proofs.Ytjclofkkpgdjnaa
