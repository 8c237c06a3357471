/- The reference's SHA: turn, Words, Firsts. -/
import Derived.Test.YthpglpnonecnfaaShaJ
set_option linter.unusedVariables false
set_option linter.unusedSimpArgs false
namespace Go.Proofs.Ythpglpnonecnfaa
open Go Go.RowKit Sha
set_option maxRecDepth 100000 in
theorem turn_c (x k : Nat) (hx : x < 4294967296) (h1 : 1 ≤ k) (h2 : k ≤ 31) (w : World) :
    Calls Try.prog 36 #[.int .u32 (x : Int), .int .u64 (k : Int)] w fun e w' => e = .returned (.int .u32 ((rotr x k : Nat) : Int)) ∧ w = w' := by
  obtain ⟨q, hq⟩ : ∃ q, q = 32 - k := ⟨_, rfl⟩
  have e1 : IntKind.u64.wrap (32 - (k : Int)) = (q : Int) := by rw [IntKind.wrap_u64]; omega
  have HX := Lib.hid hx
  have HK := Lib.hid h1
  have HK2 := Lib.hid h2
  have HQ := Lib.hid hq
  have hk2 : ¬ 32 ≤ k := by omega
  have hq2 : ¬ 32 ≤ q := by omega
  clear hx h1 h2 hq
  go_enter Try.func36, Try.ntmps36
  go_wp2
  go_ret
  refine ⟨ret_i ((u32o (a := shr x k) (b := shl x (32 - k)) ?_ ?_ (shr_lt _ _ HX.out) (shl_lt _ _)).trans (by rw [Nat.or_comm]; rfl)), rfl⟩
  · simp [shr]
  · rw [← HQ.out]; simp [shl]
set_option maxRecDepth 100000 in
theorem words_c (w : World) : Calls Try.prog 35 #[] w fun e w' => e = .returned (.slice (some ⟨w.heap.size, 0, none⟩) 64 64) ∧ w'.heap[w.heap.size]? = some (.cells (wA KT) 52 (0, 0)) ∧ Below w.heap.size w w' := by
  have H0 : Hid ((w.alloc (.cells (wA KT) 52)).heap[w.heap.size]? = some (.cells (wA KT) 52 (0, 0))) := heap_new' _ _
  have HB : Hid (Below w.heap.size w (w.alloc (.cells (wA KT) 52))) := (Below.refl _ _).alloc (Nat.le_refl _) _
  go_enter Try.func35, Try.ntmps35
  go_wp2
  go_ret
  exact ⟨rfl, H0.out, HB.out⟩
set_option maxRecDepth 100000 in
theorem firsts_c (w : World) : Calls Try.prog 22 #[] w fun e w' => e = .returned (.agg (wA HL)) ∧ Below w.heap.size w w' := by
  have hz := heap_new' w (.cells #[.int .u32 0, .int .u32 0, .int .u32 0, .int .u32 0, .int .u32 0, .int .u32 0, .int .u32 0, .int .u32 0] 53)
  have HZ := Lib.hid hz
  have HB : Hid (Below w.heap.size w (w.alloc (.cells #[.int .u32 0, .int .u32 0, .int .u32 0, .int .u32 0, .int .u32 0, .int .u32 0, .int .u32 0, .int .u32 0] 53))) := (Below.refl _ _).alloc (Nat.le_refl _) _
  clear hz
  go_enter Try.func22, Try.ntmps22
  go_wp2_with (first
    | (refine wpList_store_row rfl 53 (.tmp 0) (.tmp 1) rfl w.heap.size (wA HL) rfl rfl 53 _ HZ.out (by rw [eight53]; rfl) (by rfl) (wA_one _) ?_)
    | fail)
  exact bodyPost_ret (results_cell_row rfl _ _ w.heap.size 53 (wA HL) (0, 0) _ rfl (setRow_heap _ _ _ _ _ _ HZ.out) Try.underlying53 rfl (by rw [eight53]; rfl)) rfl ⟨rfl, below_setRow HB.out (Nat.le_refl _) _⟩
end Go.Proofs.Ythpglpnonecnfaa
