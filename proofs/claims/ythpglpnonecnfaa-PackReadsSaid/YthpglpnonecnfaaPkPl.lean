/- The law's Plain. -/
import Derived.Test.YthpglpnonecnfaaPkF
set_option linter.unusedVariables false
set_option linter.unusedSimpArgs false
namespace Go.Proofs.Ythpglpnonecnfaa
open Go Go.RowKit Sha
set_option maxRecDepth 100000 in
set_option maxHeartbeats 4000000 in
theorem plain_c (a : Option Addr) (n cap : Nat) (R : List Int) (hR16 : R.length = 16) (w : World) :
    Calls Try.prog 13 #[.agg (packA (.slice a n cap) R)] w fun e w' => e = .returned (.agg (packA (.slice a n cap) R)) ∧ Below w.heap.size w w' := by
  have HB1 : Hid (((w.alloc (.cells (packA (.slice a n cap) R) 33)).alloc (.cells #[.slice none 0 0, .int .i64 0, .int .i64 0, .int .i64 0, .int .i64 0, .int .i64 0, .int .i64 0, .int .i64 0, .int .i64 0, .int .i64 0, .int .i64 0, .int .i64 0, .int .i64 0, .int .i64 0, .int .i64 0, .int .i64 0, .int .i64 0] 25)).heap[w.heap.size]? = some (.cells (packA (.slice a n cap) R) 33 (0, 0))) := (heap_old' _ _ _ (by simp)).trans (heap_new' _ _)
  have HZ1 : Hid (((w.alloc (.cells (packA (.slice a n cap) R) 33)).alloc (.cells #[.slice none 0 0, .int .i64 0, .int .i64 0, .int .i64 0, .int .i64 0, .int .i64 0, .int .i64 0, .int .i64 0, .int .i64 0, .int .i64 0, .int .i64 0, .int .i64 0, .int .i64 0, .int .i64 0, .int .i64 0, .int .i64 0, .int .i64 0] 25)).heap[w.heap.size + 1]? = some (.cells #[.slice none 0 0, .int .i64 0, .int .i64 0, .int .i64 0, .int .i64 0, .int .i64 0, .int .i64 0, .int .i64 0, .int .i64 0, .int .i64 0, .int .i64 0, .int .i64 0, .int .i64 0, .int .i64 0, .int .i64 0, .int .i64 0, .int .i64 0] 25 (0, 0))) := by
    exact (by simp : w.heap.size + 1 = (w.alloc (.cells (packA (.slice a n cap) R) 33)).heap.size) ▸ heap_new' _ _
  have HE1 : Hid (Below w.heap.size w ((w.alloc (.cells (packA (.slice a n cap) R) 33)).alloc (.cells #[.slice none 0 0, .int .i64 0, .int .i64 0, .int .i64 0, .int .i64 0, .int .i64 0, .int .i64 0, .int .i64 0, .int .i64 0, .int .i64 0, .int .i64 0, .int .i64 0, .int .i64 0, .int .i64 0, .int .i64 0, .int .i64 0, .int .i64 0] 25))) := ((Below.refl _ _).alloc (Nat.le_refl _) _).alloc (by simp) _
  have HS1 : Hid (((w.alloc (.cells (packA (.slice a n cap) R) 33)).alloc (.cells #[.slice none 0 0, .int .i64 0, .int .i64 0, .int .i64 0, .int .i64 0, .int .i64 0, .int .i64 0, .int .i64 0, .int .i64 0, .int .i64 0, .int .i64 0, .int .i64 0, .int .i64 0, .int .i64 0, .int .i64 0, .int .i64 0, .int .i64 0] 25)).heap.size = w.heap.size + 2) := by show _ = _; simp
  have c00 := (cells_at HB1.out 0).trans (show _ = some (Value.slice a n cap) from rfl)
  have H16 := Lib.hid hR16
  have HIX := Lib.hid (index_R R hR16)
  clear hR16
  go_enter Try.func13, Try.ntmps13
  have HZ2 : Hid ((((w.alloc (.cells (packA (.slice a n cap) R) 33)).alloc (.cells #[.slice none 0 0, .int .i64 0, .int .i64 0, .int .i64 0, .int .i64 0, .int .i64 0, .int .i64 0, .int .i64 0, .int .i64 0, .int .i64 0, .int .i64 0, .int .i64 0, .int .i64 0, .int .i64 0, .int .i64 0, .int .i64 0, .int .i64 0] 25)).alloc (.cells #[.slice none 0 0, .int .i64 0, .int .i64 0, .int .i64 0, .int .i64 0, .int .i64 0, .int .i64 0, .int .i64 0, .int .i64 0, .int .i64 0, .int .i64 0, .int .i64 0, .int .i64 0, .int .i64 0, .int .i64 0, .int .i64 0, .int .i64 0] 25)).heap[((w.alloc (.cells (packA (.slice a n cap) R) 33)).alloc (.cells #[.slice none 0 0, .int .i64 0, .int .i64 0, .int .i64 0, .int .i64 0, .int .i64 0, .int .i64 0, .int .i64 0, .int .i64 0, .int .i64 0, .int .i64 0, .int .i64 0, .int .i64 0, .int .i64 0, .int .i64 0, .int .i64 0, .int .i64 0] 25)).heap.size]? = some (.cells #[.slice none 0 0, .int .i64 0, .int .i64 0, .int .i64 0, .int .i64 0, .int .i64 0, .int .i64 0, .int .i64 0, .int .i64 0, .int .i64 0, .int .i64 0, .int .i64 0, .int .i64 0, .int .i64 0, .int .i64 0, .int .i64 0, .int .i64 0] 25 (0, 0))) := heap_new' _ _
  rw [HS1.out] at HZ2
  have hone : (#[.slice a n cap, .int .i64 0, .int .i64 0, .int .i64 0, .int .i64 0, .int .i64 0, .int .i64 0, .int .i64 0, .int .i64 0, .int .i64 0, .int .i64 0, .int .i64 0, .int .i64 0, .int .i64 0, .int .i64 0, .int .i64 0, .int .i64 0] : Array Value).all (·.oneCell') = true := by simp [Value.oneCell']
  go_wp2_with (first
    | (refine wpList_store_row rfl 25 (.tmp 3) (.tmp 8) rfl (w.heap.size + 1 + 1) #[.slice a n cap, .int .i64 0, .int .i64 0, .int .i64 0, .int .i64 0, .int .i64 0, .int .i64 0, .int .i64 0, .int .i64 0, .int .i64 0, .int .i64 0, .int .i64 0, .int .i64 0, .int .i64 0, .int .i64 0, .int .i64 0, .int .i64 0] rfl rfl 25 _ HZ2.out (by rw [pack25]; rfl) (by rfl) hone ?_; generalize hW5 : World.setRow _ _ _ = w5; have HO5 : Hid (w5.heap[w.heap.size + 1 + 1]? = some (.cells (packA (.slice a n cap) (partR R 0)) 25 (0, 0))) := (by rw [← hW5]; exact setRow_heap _ _ _ _ _ _ HZ2.out); have HB5 : Hid (Below (w.heap.size + 2) ((w.alloc (.cells (packA (.slice a n cap) R) 33)).alloc (.cells #[.slice none 0 0, .int .i64 0, .int .i64 0, .int .i64 0, .int .i64 0, .int .i64 0, .int .i64 0, .int .i64 0, .int .i64 0, .int .i64 0, .int .i64 0, .int .i64 0, .int .i64 0, .int .i64 0, .int .i64 0, .int .i64 0, .int .i64 0] 25)) w5) := (by rw [← hW5]; exact below_setRow ((Below.refl _ _).alloc (by rw [HS1.out]; exact Nat.le_refl _) _) (Nat.le_refl _) _); clear hW5; have HRX := Lib.hid (pack_roots ((HB5.out.block _ (by omega)).trans HB1.out)))
    | (refine wpList_load_mid rfl 23 (.tmp 9) rfl w.heap.size 1 rfl _ _ HRX.out Try.underlying23 rfl (by rw [sixteen23, List.length_map, H16.out]) ?_)
    | fail)
  have HZ5 := Lib.hid ((HB5.out.block _ (by omega)).trans HZ1.out)
  have HE5 : Hid (Below w.heap.size w w5) := HE1.out.trans (HB5.out.mono (by omega))
  obtain ⟨ob, hob⟩ : ∃ ob, ob = w.heap.size + 1 + 1 := ⟨_, rfl⟩
  rw [← hob] at HO5 ⊢
  have HOB : Hid (ob = w.heap.size + 2) := hob
  clear HB5 HZ1 HE1 HB1 HZ2 hone HS1 c00 hob HRX
  go_loopw [11] (fun vi wx => ∃ j : Nat, j ≤ 16 ∧ vi = .int .i64 (j : Int) ∧ Hid (wx.heap[ob]? = some (.cells (packA (.slice a n cap) (partR R j)) 25 (0, 0))) ∧ Hid (wx.heap[w.heap.size + 1]? = some (.cells #[.slice none 0 0, .int .i64 0, .int .i64 0, .int .i64 0, .int .i64 0, .int .i64 0, .int .i64 0, .int .i64 0, .int .i64 0, .int .i64 0, .int .i64 0, .int .i64 0, .int .i64 0, .int .i64 0, .int .i64 0, .int .i64 0, .int .i64 0] 25 (0, 0))) ∧ Hid (Below w.heap.size w wx)) (fun vi _ => 16 - (intOf vi).toNat)
  case atStart => exact ⟨0, by omega, rfl, HO5.out, HZ5.out, HE5.out⟩
  case round =>
    clear HO5 HZ5 HE5
    obtain ⟨j, hj, rfl, hob, hz, hbel⟩ := hrel
    by_cases hlj : j < 16
    · have hd2 : decide ((j : Int) < 16) = true := by simp; omega
      have dl2 : (j : Int) < 16 := by omega
      have dn2 : ¬ (j : Int) < 0 := by omega
      have hix := HIX.out j hlj
      have f0 := free_at hob.out (1 + j)
      have c0 := (cells_at hob.out (1 + j)).trans (packA_get _ _ j (by rw [partR_len R H16.out j hj]; exact hlj))
      have nb := block_at hob.out (1 + j) (.int .i64 (R.getD j 0))
      rw [partR_set _ R H16.out j hlj] at nb
      have HN1 := Lib.hid nb
      obtain ⟨r, hr⟩ : ∃ r, r = R.getD j 0 := ⟨_, rfl⟩
      simp only [← hr] at hix HN1
      have HJ := Lib.hid hlj
      have HQ : Hid (∀ q, q ≠ ob → (wr.setCell ⟨ob, 1 + j, none⟩ (.int .i64 r)).heap[q]? = wr.heap[q]?) := fun q h => Below.heap_setCell _ _ _ _ h
      clear nb hr hj hlj
      go_wp2
      go_roundw
      case rel =>
        refine ⟨j + 1, by have := HJ.out; omega, by go_num, HN1.out, ?_, ?_⟩
        · exact (HQ.out _ (by have := HOB.out; omega)).trans hz.out
        · exact hbel.out.setCell (p := ⟨ob, 1 + j, none⟩) (by have := HOB.out; show w.heap.size ≤ ob; omega) _
      case measure => simp [intOf]; have := HJ.out; omega
    · have hj16 : j = 16 := by omega
      have hd2 : decide ((j : Int) < 16) = false := by simp; omega
      have HF : Hid (wr.heap[ob]? = some (.cells (packA (.slice a n cap) R) 25 (0, 0))) := by
        have h := hob.out; rw [hj16, partR_full R H16.out] at h; exact h
      have HPS : Hid ((packA (.slice a n cap) R).size = 17) := by show _ = _; rw [pack_size, H16.out]
      clear hob hj16 hj
      go_wp2_with (first
        | (refine wpList_load_row rfl 25 (.tmp 3) rfl ob rfl _ _ _ _ HF.out Try.underlying25 rfl (by rw [pack25, HPS.out]) ?_)
        | (refine wpList_store_row rfl 25 (.tmp 2) (.tmp 20) rfl (w.heap.size + 1) (packA (.slice a n cap) R) rfl rfl 25 _ hz.out (by rw [pack25, HPS.out]) (by rw [HPS.out]; rfl) (packA_one _ _ _ _) ?_)
        | fail)
      exact bodyPost_ret (results_cell_row rfl _ _ (w.heap.size + 1) 25 (packA (.slice a n cap) R) (0, 0) _ rfl (setRow_heap _ _ _ _ _ _ hz.out) Try.underlying25 rfl (by rw [pack25, HPS.out])) rfl ⟨rfl, below_setRow hbel.out (Nat.le_succ _) _⟩
end Go.Proofs.Ythpglpnonecnfaa
