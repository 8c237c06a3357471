/- A growing sum in memory; the contract of sha.New. -/
import Derived.Test.YthpglpnonecnfaaShaE
set_option linter.unusedVariables false
set_option linter.unusedSimpArgs false
namespace Go.Proofs.Ythpglpnonecnfaa
open Go Go.RowKit Sha
/-- the cells of a Hash: table, eight words, the rest, the number -/
def hashA (t : Nat) (s : List Nat) (r : Value) (n : Int) : Array Value := (Value.pointer (some ⟨t, 0, none⟩) :: ((s.map fun (x : Nat) => Value.int .u32 (x : Int)) ++ [r, .int .i64 n])).toArray
theorem hash_word (t : Nat) (s : List Nat) (r : Value) (n : Int) (k : Nat) (h : k < s.length) : (hashA t s r n)[1 + k]? = some (.int .u32 ((s.getD k 0 : Nat) : Int)) := by
  unfold hashA
  rw [Nat.add_comm 1 k]
  simp [List.getElem?_append_left, h]
theorem hash_set (t : Nat) (s : List Nat) (r : Value) (n : Int) (k x : Nat) (h : k < s.length) : (hashA t s r n).setIfInBounds (1 + k) (.int .u32 (x : Int)) = hashA t (s.set k x) r n := by
  unfold hashA
  rw [Nat.add_comm 1 k]
  simp [List.set_append_left, h, List.map_set]
theorem eight53 : (Try.prog.info? 53).map (·.size) = some 8 := by kernel_rfl
theorem tab_range {w : World} {t : Nat} (h : w.heap[t]? = some (.cells (wA (KT ++ HL)) 80 (0, 0))) : w.rangeAt t 64 (wA HL).toList := by
  intro j v hv
  have hj : j < 8 := by
    have := (List.getElem?_eq_some_iff.1 hv).1
    simpa [wA, HL] using this
  rw [cells_at h (64 + j), wA_get _ _ (by rw [List.length_append, KT_len, HL_len]; omega), List.getD_eq_getElem?_getD, List.getElem?_append_right (by rw [KT_len]; omega), KT_len, Nat.add_sub_cancel_left, ← List.getD_eq_getElem?_getD]
  rw [Array.getElem?_toList, wA_get _ j (by rw [HL_len]; exact hj)] at hv
  exact hv
set_option maxRecDepth 100000 in
theorem index_h (k : Nat) (hk : k < 8) (w : World) : (Instr.index 53 (.agg (wA HL)) (.int .i64 (k : Int))).run Try.prog w = .ok (.int .u32 ((HL.getD k 0 : Nat) : Int)) w := by
  rcases (by omega : k = 0 ∨ k = 1 ∨ k = 2 ∨ k = 3 ∨ k = 4 ∨ k = 5 ∨ k = 6 ∨ k = 7) with rfl | rfl | rfl | rfl | rfl | rfl | rfl | rfl <;> rfl
set_option maxRecDepth 100000 in
set_option maxHeartbeats 4000000 in
theorem hnew_c (t : Nat) (w : World) (hT : w.heap[t]? = some (.cells (wA (KT ++ HL)) 80 (0, 0))) :
    Calls Try.prog 49 #[.pointer (some ⟨t, 0, none⟩)] w fun e w' => e = .returned (.pointer (some ⟨w.heap.size, 0, none⟩)) ∧ w'.heap[w.heap.size]? = some (.cells (hashA t HL (.slice none 0 0) 0) 102 (0, 0)) ∧ Below w.heap.size w w' := by
  have H0 : Hid ((w.alloc (.cells (hashA t (partW HL 0) (.slice none 0 0) 0) 102)).heap[w.heap.size]? = some (.cells (hashA t (partW HL 0) (.slice none 0 0) 0) 102 (0, 0))) := heap_new' _ _
  have HB0 : Hid (Below w.heap.size w (w.alloc (.cells (hashA t (partW HL 0) (.slice none 0 0) 0) 102))) := (Below.refl _ _).alloc (Nat.le_refl _) _
  have HR : Hid (∀ w', Below w.heap.size w w' → w'.rangeAt t 64 (wA HL).toList) := fun w' h => tab_range ((h.block _ (lt_of_block hT)).trans hT)
  clear hT
  go_enter Try.func49, Try.ntmps49
  go_wp2_with (first
    | (refine wpList_load_mid rfl 53 (.tmp 13) rfl t 64 rfl _ _ (HR.out _ HB0.out) Try.underlying53 rfl (by rw [eight53]; rfl) ?_)
    | fail)
  go_loopw [15] (fun vi wr => ∃ k : Nat, k ≤ 8 ∧ vi = .int .i64 (k : Int) ∧ Hid (wr.heap[w.heap.size]? = some (.cells (hashA t (partW HL k) (.slice none 0 0) 0) 102 (0, 0))) ∧ Hid (Below w.heap.size w wr)) (fun vi _ => 8 - (intOf vi).toNat)
  case atStart => exact ⟨0, by omega, rfl, H0.out, HB0.out⟩
  case round =>
    clear H0 HB0 HR
    obtain ⟨k, hk, rfl, hh, hbel⟩ := hrel
    have hpl : (partW HL k).length = 8 := by rw [partW_len _ _ (by rw [HL_len]; exact hk), HL_len]
    by_cases hlt : k < 8
    · have hd : decide ((k : Int) < 8) = true := by simp; omega
      have dl : (k : Int) < 8 := by omega
      have hv := index_h k hlt
      have hxl : HL.getD k 0 < 4294967296 := (by decide : ∀ k, k < 8 → HL.getD k 0 < 4294967296) k hlt
      have f0 := free_at hh.out (1 + k)
      have c0 := (cells_at hh.out (1 + k)).trans (hash_word t _ _ _ k (by rw [hpl]; exact hlt))
      have hset := partW_set HL k (by rw [HL_len]; exact hlt)
      obtain ⟨x, hx⟩ : ∃ x, x = HL.getD k 0 := ⟨_, rfl⟩
      rw [← hx] at hv hset hxl
      have ew : IntKind.u32.wrap (x : Int) = (x : Int) := by rw [IntKind.wrap_u32]; omega
      have nb := block_at hh.out (1 + k) (.int .u32 (x : Int))
      rw [hash_set t _ _ _ k x (by rw [hpl]; exact hlt), hset] at nb
      have NB := Lib.hid nb
      have HK := Lib.hid hlt
      clear hset hx nb hpl hk hxl
      go_wp2
      go_roundw
      case rel => exact ⟨k + 1, by have := HK.out; omega, by go_num, NB.out, hbel.out.setCell (by simp) _⟩
      case measure => simp [intOf]; have := HK.out; omega
    · have hk8 : k = 8 := by omega
      have hd : decide ((k : Int) < 8) = false := by simp; omega
      have HF : Hid (wr.heap[w.heap.size]? = some (.cells (hashA t HL (.slice none 0 0) 0) 102 (0, 0))) := by
        have h := hh.out
        rw [hk8, ← HL_len, partW_full] at h
        exact h
      clear hh hpl hk
      go_wp2
      go_ret
      exact ⟨rfl, HF.out, hbel.out⟩
end Go.Proofs.Ythpglpnonecnfaa
