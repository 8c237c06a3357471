/- The walk of the law SealNil, and contracts of a sealer that is not there. -/
import Derived.Test.YtjclofkkpgdjnaaSealD
import Derived.Test.YtjclofkkpgdjnaaArrOpen
set_option linter.unusedVariables false
set_option linter.unusedSimpArgs false
namespace Go.Proofs.Ytjclofkkpgdjnaa
open Go Go.RowKit GfM
set_option maxRecDepth 100000 in
theorem may_nil (b : Int) (v : Value) (w : World) : Calls Try.prog 24 #[.pointer none, .int .i64 b, v] w fun e w' => e = .returned (.int .i64 2) ∧ w = w' := by
  go_enter Try.func24, Try.ntmps24
  go_wp2
  go_ret
  exact ⟨rfl, rfl⟩
set_option maxRecDepth 100000 in
theorem seal_nil (e b : Int) (v : Value) (w : World) : Calls Try.prog 9 #[.pointer none, .int .u64 e, .int .i64 b, v] w fun r w' => r = .returned (.tuple #[.slice none 0 0, .int .i64 2]) ∧ w = w' := by
  go_enter Try.func9, Try.ntmps9
  go_wp2_with fail
  refine (may_nil b v w).mono ?_
  rintro r w' ⟨rfl, rfl⟩
  go_wp2
  go_ret2
  exact ⟨rfl, rfl⟩
set_option maxRecDepth 100000 in
theorem open_nil (e b : Int) (v : Value) (w : World) : Calls Try.prog 10 #[.pointer none, .int .u64 e, .int .i64 b, v] w fun r w' => r = .returned (.tuple #[.slice none 0 0, .int .i64 2]) ∧ w = w' := by
  go_enter Try.func10, Try.ntmps10
  go_wp2_with fail
  refine (may_nil b v w).mono ?_
  rintro r w' ⟨rfl, rfl⟩
  go_wp2
  go_ret2
  exact ⟨rfl, rfl⟩
set_option maxRecDepth 100000 in
theorem pad_nil (w : World) : Calls Try.prog 28 #[.slice none 0 0, .int .i64 256] w fun r w' => (∃ v, r = .returned v) ∧ Below w.heap.size w w' := by
  have hmk : ∀ w : World, (Instr.makeSlice 32 (.int .i64 256) (.int .i64 256)).run Try.prog w = .ok (.slice (some ⟨w.heap.size, 0, none⟩) 256 256) (w.alloc (.cells (bA (List.replicate 256 0)) 5)) := mk_bytes 256 (by omega)
  go_enter Try.func28, Try.ntmps28
  go_wp2_with (first
    | (refine wpList_copy_nothing rfl (.tmp 14) (.tmp 15) 32 32 rfl 5 Try.underlying32 (by kernel_rfl) (some ⟨w.heap.size, 0, none⟩) none 256 256 0 0 rfl rfl rfl ?_)
    | fail)
  go_ret
  exact ⟨⟨_, rfl⟩, (Below.refl _ _).alloc (Nat.le_refl _) _⟩
set_option maxRecDepth 100000 in
theorem blank_nil (e b : Int) (w : World) : Calls Try.prog 11 #[.pointer none, .int .u64 e, .int .i64 b] w fun r w' => r = .returned (.tuple #[.slice none 0 0, .int .i64 2]) ∧ Below w.heap.size w w' := by
  go_enter Try.func11, Try.ntmps11
  go_wp2_with fail
  refine (pad_nil w).mono ?_
  rintro r w1 ⟨⟨v, rfl⟩, hb1⟩
  have HB1 := Lib.hid hb1
  clear hb1
  go_wp2_with fail
  refine (seal_nil e b v w1).mono ?_
  rintro r w' ⟨rfl, rfl⟩
  go_wp2
  go_ret2
  exact ⟨rfl, HB1.out⟩
set_option maxRecDepth 100000 in
theorem used_nil (w : World) : Calls Try.prog 13 #[.pointer none] w fun r w' => r = .returned (.slice none 0 0) ∧ w = w' := by
  go_enter Try.func13, Try.ntmps13
  go_wp2
  go_ret
  exact ⟨rfl, rfl⟩
set_option maxRecDepth 100000 in
theorem snew_nil (w : World) : Calls Try.prog 14 #[.pointer none] w fun r w' => r = .returned (.pointer none) ∧ w = w' := by
  go_enter Try.func14, Try.ntmps14
  go_wp2
  go_ret
  exact ⟨rfl, rfl⟩
set_option maxRecDepth 100000 in
set_option maxHeartbeats 4000000 in
theorem stwice_nil (w : World) : Calls Try.prog 12 #[.pointer none] w fun r w' => r = .returned (.tuple #[nonV (0, 0), .bool false]) ∧ Below w.heap.size w w' := by
  have HBA : Hid (∀ o, Below w.heap.size w (w.alloc o)) := fun o => (Below.refl _ _).alloc (Nat.le_refl _) _
  go_enter Try.func12, Try.ntmps12
  go_wp2_with (first
    | (refine wpList_store_row rfl 38 (.tmp 2) (.tmp 14) rfl w.heap.size #[.int .u64 0, .int .i64 0] rfl rfl 38 _ (heap_new' _ _) (by rw [two85]; rfl) (by rfl) (by simp [Value.oneCell']) ?_; generalize hW5 : World.setRow _ _ _ = W5; have HN5 : Hid (W5.heap[w.heap.size]? = some (.cells #[.int .u64 0, .int .i64 0] 38 (0, 0))) := (by rw [← hW5]; exact setRow_heap _ _ _ _ _ _ (heap_new' _ _)); have HB5 : Hid (Below w.heap.size w W5) := (by rw [← hW5]; exact below_setRow (HBA.out _) (Nat.le_refl _) _); clear hW5)
    | fail)
  have hrow := run_loadVar_row (P := Try.prog) W5 w.heap.size 38 38 #[.int .u64 0, .int .i64 0] (0, 0) _ HN5.out Try.underlying38 rfl (by rw [two85]; rfl)
  refine bodyPost_ret (v := .tuple #[nonV (0, 0), .bool false]) ?_ rfl ⟨rfl, HB5.out⟩
  simp [results, Try.f12, asAddr, hrow]
  try rfl
set_option maxRecDepth 100000 in
set_option maxHeartbeats 4000000 in
theorem walkSealNil (w : World) (e : Int) (we : (Lit.int .u64 e).wf = true) (b : Int) (wb : (Lit.int .i64 b).wf = true) (a : Option Addr) (len cap : Nat) (zs : List Int) (hrow : IsRow .u8 w a len cap zs) :
    Calls Try.prog 4 #[.int .u64 e, .int .i64 b, .slice a len cap] w fun e w' => e = .returned (.bool true) ∧ Below w.heap.size w w' := by
  clear we wb hrow
  go_enter Try.func4, Try.ntmps4
  go_wp2_with fail
  refine (seal_nil e b _ w).mono ?_
  rintro r w' ⟨rfl, rfl⟩
  go_wp2_with fail
  refine (open_nil e b _ w).mono ?_
  rintro r w' ⟨rfl, rfl⟩
  go_wp2_with fail
  refine (blank_nil e b w).mono ?_
  rintro r w1 ⟨rfl, hb1⟩
  have HB1 := Lib.hid hb1
  clear hb1
  go_wp2_with fail
  refine (stwice_nil w1).mono ?_
  rintro r w2 ⟨rfl, hb2⟩
  have HB2 : Hid (Below w.heap.size w w2) := HB1.out.trans (hb2.mono HB1.out.size)
  clear hb2
  go_wp2_with (first
    | (refine wpList_store_row rfl 38 (.tmp 14) (.tmp 42) rfl w2.heap.size #[.int .u64 0, .int .i64 0] rfl rfl 38 _ (heap_new' _ _) (by rw [two85]; rfl) (by rfl) (by simp [Value.oneCell']) ?_; generalize hW3 : World.setRow _ _ _ = w3; have HB3 : Hid (Below w.heap.size w w3) := (by rw [← hW3]; exact below_setRow (HB2.out.alloc HB2.out.size _) HB2.out.size _); clear hW3)
    | fail)
  refine (used_nil w3).mono ?_
  rintro r w' ⟨rfl, rfl⟩
  go_wp2_with fail
  refine (snew_nil w3).mono ?_
  rintro r w' ⟨rfl, rfl⟩
  go_wp2_with fail
  refine (awake10_c w3).mono ?_
  rintro r w4 ⟨rfl, hb4⟩
  have HB4 : Hid (Below w.heap.size w w4) := HB3.out.trans (hb4.mono HB3.out.size)
  clear hb4
  go_wp2
  go_ret
  exact ⟨rfl, HB4.out⟩
end Go.Proofs.Ytjclofkkpgdjnaa
