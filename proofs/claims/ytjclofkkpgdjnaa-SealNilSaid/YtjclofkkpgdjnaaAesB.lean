/- Contracts of Cipher.sub, state.sub, state.unsub. -/
import Derived.Test.YtjclofkkpgdjnaaAesA
set_option linter.unusedVariables false
namespace Go.Proofs.Ytjclofkkpgdjnaa
open Go Go.RowKit GfM
/-- block c is a cipher over the box at block b and the words' bytes W at block g -/
structure Cip (w : World) (c b g n cap r : Nat) (W : List Nat) : Prop where
  fcells : w.heap[c]? = some (.cells #[.pointer (some ⟨b, 0, none⟩), .slice (some ⟨g, 0, none⟩) n cap, .int .i64 (r : Int)] 129 (0, 0))
  fbox : IsBox w b
  flen : W.length = 4 * n
  fcap : n ≤ cap
  fcapm : cap ≤ maxLen
  fwords : ∃ A, w.heap[g]? = some (.cells A 133 (0, 0)) ∧ A.size = 4 * cap ∧ ∀ k, k < W.length → A[k]? = some (.int .u8 ((W.getD k 0 : Nat) : Int))
  fbyte : ∀ x ∈ W, x < 256
theorem Cip.later {w w' : World} {c b g n cap r B : Nat} {W : List Nat} (h : Cip w c b g n cap r W) (hb : Below B w w') (hc : c < B) (hbb : b < B) (hg : g < B) : Cip w' c b g n cap r W := by
  obtain ⟨h1, h2, h3, h3a, h3b, ⟨A, h4, h4b, h5⟩, h6⟩ := h
  exact ⟨(hb.block c hc).trans h1, (hb.block b hbb).trans h2, h3, h3a, h3b, ⟨A, (hb.block g hg).trans h4, h4b, h5⟩, h6⟩
theorem Cip.lt {w : World} {c b g n cap r : Nat} {W : List Nat} (h : Cip w c b g n cap r W) : c < w.heap.size ∧ b < w.heap.size ∧ g < w.heap.size := by
  obtain ⟨h1, h2, h3, _, _, ⟨A, h4, _, h5⟩, h6⟩ := h
  exact ⟨lt_of_block h1, lt_of_block h2, lt_of_block h4⟩
theorem Cip.up {w w' : World} {c b g n cap r B : Nat} {W : List Nat} (h : Cip w c b g n cap r W) (hb : Below B w w') (hB : w.heap.size ≤ B) : Cip w' c b g n cap r W := by
  obtain ⟨h1, h2, h3⟩ := h.lt
  exact h.later hb (by omega) (by omega) (by omega)
theorem Cip.c0 {w : World} {c b g n cap r : Nat} {W : List Nat} (h : Cip w c b g n cap r W) : w.cell? ⟨c, 0, none⟩ = some (.pointer (some ⟨b, 0, none⟩)) := (cells_at h.fcells 0).trans rfl
theorem Cip.c1 {w : World} {c b g n cap r : Nat} {W : List Nat} (h : Cip w c b g n cap r W) : w.cell? ⟨c, 1, none⟩ = some (.slice (some ⟨g, 0, none⟩) n cap) := (cells_at h.fcells 1).trans rfl
theorem Cip.c2 {w : World} {c b g n cap r : Nat} {W : List Nat} (h : Cip w c b g n cap r W) : w.cell? ⟨c, 2, none⟩ = some (.int .i64 (r : Int)) := (cells_at h.fcells 2).trans rfl
theorem Cip.wd {w : World} {c b g n cap r : Nat} {W : List Nat} (h : Cip w c b g n cap r W) (k : Nat) (hk : k < W.length) : w.cell? ⟨g, k, none⟩ = some (.int .u8 ((W.getD k 0 : Nat) : Int)) := by
  obtain ⟨A, h4, _, h5⟩ := h.fwords
  exact (cells_at h4 k).trans (h5 k hk)
theorem sub_same (b c : Nat) (hc : c < 256) (w : World) (h : IsBox w b) :
    Calls Try.prog 100 #[.pointer (some ⟨b, 0, none⟩), .int .u8 (c : Int)] w fun e w' => e = .returned (.int .u8 (sbx c : Int)) ∧ w' = w :=
  (sub_c w b c hc h).mono fun _ _ h => ⟨h.1, h.2.symm⟩
def subN4 (a : Nat → Nat) (k : Nat) : Nat := sbx (a k)
set_option maxRecDepth 100000 in
set_option maxHeartbeats 2000000 in
theorem csub_c (c b g n cap r : Nat) (W : List Nat) (a : Nat → Nat) (ha : ∀ j, j < 4 → a j < 256) (w : World) (hC : Cip w c b g n cap r W) :
    Calls Try.prog 92 #[.pointer (some ⟨c, 0, none⟩), .agg (v4 a)] w fun e w' => e = .returned (.agg (v4 (subN4 a))) ∧ Below w.heap.size w w' := by
  have b0 : ∀ (o1 : Obj), ((w.alloc (Obj.cells (v4 a) 133)).alloc o1).heap[w.heap.size]? = some (.cells (v4 (cut4 (subN4 a) a 0)) 133 (0, 0)) := fun o1 => by
    rw [heap_old' _ _ _ (by simp), heap_new', cut4_zero]
  have b2 : ∀ (o0 : Obj), ((w.alloc o0).alloc (Obj.cells (v4 (cutf a 0)) 133)).heap[w.heap.size + 1]? = some (.cells (v4 (cutf a 0)) 133 (0, 0)) := fun o0 => by
    rw [show w.heap.size + 1 = (w.alloc o0).heap.size by simp, heap_new']
  have B0 := Lib.hid b0
  have B2 := Lib.hid b2
  have HA := Lib.hid ha
  have HC := Lib.hid hC
  clear b0 b2 ha hC
  go_enter Try.func92, Try.ntmps92
  go_wp2
  go_loopw [6] (fun vi wr => ∃ k : Nat, k ≤ 4 ∧ vi = .int .i64 k ∧ Hid (wr.heap[w.heap.size]? = some (.cells (v4 (cut4 (subN4 a) a k)) 133 (0, 0))) ∧ Hid (wr.heap[w.heap.size + 1]? = some (.cells (v4 (cutf a 0)) 133 (0, 0))) ∧ Hid (Below w.heap.size w wr)) (fun vi _ => 4 - (intOf vi).toNat)
  case atStart => exact ⟨0, by omega, rfl, B0.out _, B2.out _, (((Below.refl _ _).alloc (Nat.le_refl _) _).alloc (by simp) _)⟩
  case round =>
    clear B0 B2
    obtain ⟨k, hk, rfl, h0, h2, hbel⟩ := hrel
    by_cases hlt : k < 4
    · have c0 := (cells_at h0.out k).trans (v4_get _ k hlt)
      rw [cut4_at] at c0
      have f0 := free_at h0.out k
      have hCr := HC.out.up hbel.out (Nat.le_refl _)
      have c1 := hCr.c0
      have HM : Hid (∀ w, IsBox w b → Calls Try.prog 100 #[.pointer (some ⟨b, 0, none⟩), .int .u8 (a k : Int)] w fun e w' => e = .returned (.int .u8 (subN4 a k : Int)) ∧ w' = w) := fun w h => sub_same b (a k) (HA.out k hlt) w h
      have HBX : Hid (IsBox wr.drew b) := hCr.fbox
      clear hCr
      have hd : decide ((k : Int) < 4) = true := by simp; omega
      go_wp2
      have d6 : (k : Int) < 4 := by omega
      refine wp_region_still_tail 10 (by kernel_rfl) (by kernel_rfl) ?_
      simp only [List.take_succ_cons, List.take_zero, List.drop_succ_cons, List.drop_zero]
      change wpStill _ _ wr.drew _ _ _
      repeat still_step
      still_call (HM.out _ HBX.out)
      repeat still_step
      refine wpStill_nil ?_
      change wpList _ _ _ _ _ wr.drew
      have n0 := block_at h0.out k (.int .u8 (subN4 a k : Int))
      rw [cut4_set _ _ _ hlt] at n0
      have N0 := Lib.hid n0
      clear n0
      go_wp2
      go_roundw
      case rel => exact ⟨k + 1, by omega, by go_num, N0.out, (Below.heap_setCell _ _ _ _ (by simp)).trans h2.out, (hbel.out.setCell (by simp) _).drew⟩
      case measure => simp [intOf]; omega
    · obtain rfl : k = 4 := by omega
      have h3 := h0
      rw [cut4_full] at h3
      go_wp2_with (first
        | (refine wpList_load_row rfl 133 (.tmp 3) rfl w.heap.size rfl _ _ _ _ h3.out Try.underlying133 rfl (by rw [four4]; rfl) ?_)
        | (refine wpList_store_row rfl 133 (.tmp 4) (.tmp 20) rfl (w.heap.size + 1) _ rfl rfl 133 _ h2.out (by rw [four4]; rfl) rfl (v4_one _) ?_))
      exact bodyPost_ret (results_cell_row rfl _ _ (w.heap.size + 1) 133 (v4 (subN4 a)) (0, 0) _ rfl (setRow_heap _ _ _ _ _ _ h2.out) Try.underlying133 rfl (by rw [four4]; rfl)) rfl ⟨rfl, below_setRow hbel.out (by omega) _⟩
end Go.Proofs.Ytjclofkkpgdjnaa
