/- The walk of the law PackNil. -/
import Derived.Test.YthpglpnonecnfaaGreatPkF
import Derived.Test.YthpglpnonecnfaaGreatPkOpen
import Derived.Test.YthpglpnonecnfaaGreatResRow
set_option linter.unusedVariables false
set_option linter.unusedSimpArgs false
namespace Go.Proofs.YthpglpnonecnfaaGreat
open Go Go.RowKit Sha
set_option maxRecDepth 100000 in
theorem walk_nil (w : World) : Calls Tryz.prog 9 #[.pointer none] w fun e w' => e = .returned (.tuple #[.slice none 0 0, .int .i64 2]) ∧ w = w' := by
  go_enter Tryz.func9, Tryz.ntmps9
  go_wp2
  go_ret2
  exact ⟨rfl, rfl⟩
theorem zp_one : ((#[.slice none 0 0, .int .i64 0, .int .i64 0, .int .i64 0, .int .i64 0, .int .i64 0, .int .i64 0, .int .i64 0, .int .i64 0, .int .i64 0, .int .i64 0, .int .i64 0, .int .i64 0, .int .i64 0, .int .i64 0, .int .i64 0, .int .i64 0] : Array Value)).all (·.oneCell') = true := by simp [Value.oneCell']
set_option maxRecDepth 100000 in
set_option maxHeartbeats 2000000 in
theorem of_nil (w : World) : Calls Tryz.prog 4 #[.pointer none] w fun e w' => e = .returned (.tuple #[.agg #[.slice none 0 0, .int .i64 0, .int .i64 0, .int .i64 0, .int .i64 0, .int .i64 0, .int .i64 0, .int .i64 0, .int .i64 0, .int .i64 0, .int .i64 0, .int .i64 0, .int .i64 0, .int .i64 0, .int .i64 0, .int .i64 0, .int .i64 0], .int .i64 2]) ∧ Below w.heap.size w w' := by
  have HZ : Hid ((w.alloc (.cells #[.slice none 0 0, .int .i64 0, .int .i64 0, .int .i64 0, .int .i64 0, .int .i64 0, .int .i64 0, .int .i64 0, .int .i64 0, .int .i64 0, .int .i64 0, .int .i64 0, .int .i64 0, .int .i64 0, .int .i64 0, .int .i64 0, .int .i64 0] 26)).heap[w.heap.size]? = some (.cells #[.slice none 0 0, .int .i64 0, .int .i64 0, .int .i64 0, .int .i64 0, .int .i64 0, .int .i64 0, .int .i64 0, .int .i64 0, .int .i64 0, .int .i64 0, .int .i64 0, .int .i64 0, .int .i64 0, .int .i64 0, .int .i64 0, .int .i64 0] 26 (0, 0))) := heap_new' _ _
  have HE : Hid (Below w.heap.size w (w.alloc (.cells #[.slice none 0 0, .int .i64 0, .int .i64 0, .int .i64 0, .int .i64 0, .int .i64 0, .int .i64 0, .int .i64 0, .int .i64 0, .int .i64 0, .int .i64 0, .int .i64 0, .int .i64 0, .int .i64 0, .int .i64 0, .int .i64 0, .int .i64 0] 26))) := (Below.refl _ _).alloc (Nat.le_refl _) _
  go_enter Tryz.func4, Tryz.ntmps4
  go_wp2_with fail
  refine (walk_nil _).mono ?_
  rintro e w1 ⟨rfl, rfl⟩
  go_wp2_with (first
    | (refine wpList_store_row rfl 26 (.tmp 2) (.tmp 21) rfl w.heap.size #[.slice none 0 0, .int .i64 0, .int .i64 0, .int .i64 0, .int .i64 0, .int .i64 0, .int .i64 0, .int .i64 0, .int .i64 0, .int .i64 0, .int .i64 0, .int .i64 0, .int .i64 0, .int .i64 0, .int .i64 0, .int .i64 0, .int .i64 0] rfl rfl 26 _ HZ.out (by rw [pack33]; rfl) (by rfl) zp_one ?_)
    | fail)
  exact bodyPost_ret (results_row_tmp rfl _ _ w.heap.size 26 #[.slice none 0 0, .int .i64 0, .int .i64 0, .int .i64 0, .int .i64 0, .int .i64 0, .int .i64 0, .int .i64 0, .int .i64 0, .int .i64 0, .int .i64 0, .int .i64 0, .int .i64 0, .int .i64 0, .int .i64 0, .int .i64 0, .int .i64 0] (0, 0) _ rfl (setRow_heap _ _ _ _ _ _ HZ.out) Tryz.underlying26 rfl (by rw [pack33]; rfl)) rfl ⟨rfl, below_setRow HE.out (Nat.le_refl _) _⟩
set_option maxRecDepth 100000 in
set_option maxHeartbeats 2000000 in
theorem into_nil (p : Array Value) (w : World) : Calls Tryz.prog 5 #[.pointer none, .agg p] w fun e w' => e = .returned (.tuple #[.slice none 0 0, .int .i64 2]) ∧ Below w.heap.size w w' := by
  have HE : Hid (Below w.heap.size w (w.alloc (.cells p 26))) := (Below.refl _ _).alloc (Nat.le_refl _) _
  go_enter Tryz.func5, Tryz.ntmps5
  go_wp2
  go_ret2
  exact ⟨rfl, HE.out⟩
set_option maxRecDepth 100000 in
set_option maxHeartbeats 4000000 in
theorem walkPackNil (W : World) (a : Option Addr) (n cap : Nat) (L : List (List Nat)) (R : List Int) (hl : L.length = n) (hr : R.length = 16) (hw : ∀ r ∈ R, (Lit.int .i64 r).wf = true) (hrows : RowsAt W a L) :
    Calls Tryz.prog 3 #[.agg (packA (.slice a n cap) R)] W fun e W' => e = .returned (.bool true) ∧ Below W.heap.size W W' := by
  have HB0 : Hid ((W.alloc (.cells (packA (.slice a n cap) R) 25)).heap[W.heap.size]? = some (.cells (packA (.slice a n cap) R) 25 (0, 0))) := heap_new' _ _
  have HE0 : Hid (Below W.heap.size W (W.alloc (.cells (packA (.slice a n cap) R) 25))) := (Below.refl _ _).alloc (Nat.le_refl _) _
  have HPS : Hid ((packA (.slice a n cap) R).size = 17) := by show _ = _; rw [pack_size, hr]
  have HR := Lib.hid hrows
  have HL := Lib.hid hl
  have H16 := Lib.hid hr
  clear hrows hl hw hr
  go_enter Tryz.func3, Tryz.ntmps3
  go_wp2_with fail
  refine (of_nil _).mono ?_
  rintro e w1 ⟨rfl, hb1⟩
  have HB1 := Lib.hid ((hb1.block _ (lt_of_block HB0.out)).trans HB0.out)
  have HE1 : Hid (Below W.heap.size W w1) := HE0.out.trans (hb1.mono HE0.out.size)
  clear hb1
  have HZ2 : Hid ((w1.alloc (.cells #[.slice none 0 0, .int .i64 0, .int .i64 0, .int .i64 0, .int .i64 0, .int .i64 0, .int .i64 0, .int .i64 0, .int .i64 0, .int .i64 0, .int .i64 0, .int .i64 0, .int .i64 0, .int .i64 0, .int .i64 0, .int .i64 0, .int .i64 0] 26)).heap[w1.heap.size]? = some (.cells #[.slice none 0 0, .int .i64 0, .int .i64 0, .int .i64 0, .int .i64 0, .int .i64 0, .int .i64 0, .int .i64 0, .int .i64 0, .int .i64 0, .int .i64 0, .int .i64 0, .int .i64 0, .int .i64 0, .int .i64 0, .int .i64 0, .int .i64 0] 26 (0, 0))) := heap_new' _ _
  go_wp2_with (first
    | (refine wpList_store_row rfl 26 (.tmp 3) (.tmp 9) rfl w1.heap.size #[.slice none 0 0, .int .i64 0, .int .i64 0, .int .i64 0, .int .i64 0, .int .i64 0, .int .i64 0, .int .i64 0, .int .i64 0, .int .i64 0, .int .i64 0, .int .i64 0, .int .i64 0, .int .i64 0, .int .i64 0, .int .i64 0, .int .i64 0] rfl rfl 26 _ HZ2.out (by rw [pack33]; rfl) (by rfl) zp_one ?_; generalize hW2 : World.setRow _ _ _ = w2; have HZ3 : Hid (w2.heap[w1.heap.size]? = some (.cells #[.slice none 0 0, .int .i64 0, .int .i64 0, .int .i64 0, .int .i64 0, .int .i64 0, .int .i64 0, .int .i64 0, .int .i64 0, .int .i64 0, .int .i64 0, .int .i64 0, .int .i64 0, .int .i64 0, .int .i64 0, .int .i64 0, .int .i64 0] 26 (0, 0))) := (by rw [← hW2]; exact setRow_heap _ _ _ _ _ _ HZ2.out); have HB2 : Hid (Below w1.heap.size w1 w2) := (by rw [← hW2]; exact below_setRow ((Below.refl _ _).alloc (Nat.le_refl _) _) (Nat.le_refl _) _); clear hW2; have HBX := Lib.hid ((HB2.out.block _ (lt_of_block HB1.out)).trans HB1.out))
    | (refine wpList_load_row rfl 25 (.tmp 1) rfl W.heap.size rfl _ _ _ _ HBX.out Tryz.underlying25 rfl (by rw [pack25, HPS.out]) ?_)
    | fail)
  have HE2 : Hid (Below W.heap.size W w2) := HE1.out.trans (HB2.out.mono HE1.out.size)
  refine (cut_c a n cap L R HL.out H16.out w2 (HR.out.up HE2.out (Nat.le_refl _))).mono ?_
  rintro e w3 ⟨⟨a3, c3, rfl, hrows3⟩, hb3⟩
  have HR3 := Lib.hid hrows3
  have HE3 : Hid (Below W.heap.size W w3) := HE2.out.trans (hb3.mono HE2.out.size)
  have HZ4 := Lib.hid ((hb3.block _ (lt_of_block HZ3.out)).trans HZ3.out)
  have HCL : Hid ((cutL L).length ≤ 12 ∧ ∀ l ∈ cutL L, l.length ≤ 900) := by
    unfold cutL
    refine ⟨by simp; omega, fun l hl => ?_⟩
    rw [List.mem_map] at hl
    obtain ⟨m, _, rfl⟩ := hl
    simp; omega
  clear hrows3 hb3 HBX HB2 HB1 HZ2 HZ3
  go_wp2_with fail
  refine (ours_c a3 (cutL L).length c3 (cutL L) R rfl (by have := HCL.out.1; omega) (fun l h => by have := HCL.out.2 l h; omega) H16.out w3 HR3.out).mono ?_
  rintro e w4 ⟨⟨a4, c4, rfl, hrows4⟩, hb4⟩
  have HE4 : Hid (Below W.heap.size W w4) := HE3.out.trans (hb4.mono HE3.out.size)
  have HZ5 := Lib.hid ((hb4.block _ (lt_of_block HZ4.out)).trans HZ4.out)
  clear hrows4 hb4 HZ4
  go_wp2_with fail
  refine (into_nil _ w4).mono ?_
  rintro e w5 ⟨rfl, hb5⟩
  have HE5 : Hid (Below W.heap.size W w5) := HE4.out.trans (hb5.mono HE4.out.size)
  have hz6 := (hb5.block _ (lt_of_block HZ5.out)).trans HZ5.out
  have c0 := (cells_at hz6 0).trans (show _ = some (Value.slice none 0 0) from rfl)
  clear hb5 HZ5 hz6
  go_wp2_with fail
  refine (awake36_c w5).mono ?_
  rintro e w6 ⟨rfl, hb6⟩
  have HE6 : Hid (Below W.heap.size W w6) := HE5.out.trans (hb6.mono HE5.out.size)
  clear hb6 c0
  go_wp2
  go_ret
  exact ⟨rfl, HE6.out⟩
end Go.Proofs.YthpglpnonecnfaaGreat
