/- Contract of the reference's Column. -/
import Derived.Test.YtnmjkdmhfogeiaaMixB
import Derived.StillTailTactics
set_option linter.unusedVariables false
namespace Go.Proofs.Ytnmjkdmhfogeiaa
open Go Go.RowKit GfM
def colGo (c f : Nat → Nat) (k : Nat) : Nat → Nat
  | 0 => 0
  | j + 1 => colGo c f k j ^^^ gmul (f j) (c ((k + j) % 4))
def colN (c f : Nat → Nat) (k : Nat) : Nat := colGo c f k 4
/-- the sums so far -/
def outC (c f : Nat → Nat) (i j k : Nat) : Nat := if k < i then colN c f k else if k = i then colGo c f k j else 0
theorem colGo_lt (c f : Nat → Nat) (hf : ∀ j, j < 4 → f j < 256) (k j : Nat) (hj : j ≤ 4) : colGo c f k j < 256 := by
  induction j with
  | zero => show 0 < 256; omega
  | succ j ih => exact xor_lt _ _ (ih (by omega)) (gmul_lt _ _ (hf j (by omega)))
theorem outC_set (c f : Nat → Nat) (i j : Nat) (hi : i < 4) : (v4 (outC c f i j)).setIfInBounds i (.int .u8 (colGo c f i (j + 1) : Int)) = v4 (outC c f i (j + 1)) := by
  match i, hi with
  | 0, _ => simp [v4, outC]
  | 1, _ => simp [v4, outC]
  | 2, _ => simp [v4, outC]
  | 3, _ => simp [v4, outC]
theorem outC_next (c f : Nat → Nat) (i : Nat) : v4 (outC c f i 4) = v4 (outC c f (i + 1) 0) := by
  refine v4_ext fun k _ => ?_
  unfold outC
  by_cases h : k < i
  · rw [if_pos h, if_pos (by omega)]
  · rw [if_neg h]
    by_cases h2 : k = i
    · rw [if_pos h2, if_pos (by omega)]; rfl
    · rw [if_neg h2, if_neg (by omega)]
      by_cases h3 : k = i + 1
      · rw [if_pos h3]; rfl
      · rw [if_neg h3]
theorem outC_full (c f : Nat → Nat) : v4 (outC c f 4 0) = v4 (colN c f) := v4_ext fun k hk => by unfold outC; rw [if_pos hk]
theorem outC_zero (c f : Nat → Nat) : v4 (outC c f 0 0) = #[.int .u8 0, .int .u8 0, .int .u8 0, .int .u8 0] := by simp [v4, outC, colGo]
def ColRel (w : World) (c f : Nat → Nat) (i j : Nat) (wr : World) : Prop :=
  wr.heap[w.heap.size]? = some (.cells (v4 c) 49 (0, 0)) ∧ wr.heap[w.heap.size + 1]? = some (.cells (v4 f) 49 (0, 0)) ∧
  wr.heap[w.heap.size + 1 + 1]? = some (.cells (v4 (cutf c 0)) 49 (0, 0)) ∧
  wr.heap[w.heap.size + 1 + 1 + 1]? = some (.cells (v4 (outC c f i j)) 49 (0, 0)) ∧ w.heap.size + 3 < wr.heap.size ∧ Below w.heap.size w wr
theorem ColRel.start (w : World) (c f : Nat → Nat) :
    ColRel w c f 0 0 ((((w.alloc (.cells (v4 c) 49)).alloc (.cells (v4 f) 49)).alloc (.cells #[.int .u8 0, .int .u8 0, .int .u8 0, .int .u8 0] 49)).alloc (.cells #[.int .u8 0, .int .u8 0, .int .u8 0, .int .u8 0] 49)) := by
  refine ⟨?_, ?_, ?_, ?_, by simp, (((((Below.refl _ _).alloc (Nat.le_refl _) _).alloc (by simp) _).alloc (by simp; omega) _).alloc (by simp; omega) _)⟩
  · rw [heap_old _ _ _ (by simp; omega), heap_old _ _ _ (by simp; omega), heap_old _ _ _ (by simp), heap_new]
  · rw [heap_old _ _ _ (by simp), heap_old _ _ _ (by simp), show w.heap.size + 1 = (w.alloc (.cells (v4 c) 49)).heap.size by simp, heap_new]
  · rw [heap_old _ _ _ (by simp), show w.heap.size + 1 + 1 = ((w.alloc (.cells (v4 c) 49)).alloc (.cells (v4 f) 49)).heap.size by simp, heap_new]; rfl
  · rw [show w.heap.size + 1 + 1 + 1 = (((w.alloc (.cells (v4 c) 49)).alloc (.cells (v4 f) 49)).alloc (.cells #[.int .u8 0, .int .u8 0, .int .u8 0, .int .u8 0] 49)).heap.size by simp, heap_new, outC_zero]
theorem ColRel.next {w wr : World} {c f : Nat → Nat} {i j : Nat} (h : ColRel w c f i j wr) (hi : i < 4) :
    ColRel w c f i (j + 1) (wr.setCell ⟨w.heap.size + 1 + 1 + 1, i, none⟩ (.int .u8 (colGo c f i (j + 1) : Int))) := by
  obtain ⟨h0, h1, h2, h3, hz, hb⟩ := h
  have e := block_set h3 i (.int .u8 (colGo c f i (j + 1) : Int))
  rw [outC_set c f i j hi] at e
  exact ⟨(Below.heap_setCell _ _ _ _ (by simp; omega)).trans h0, (Below.heap_setCell _ _ _ _ (by simp)).trans h1, (Below.heap_setCell _ _ _ _ (by simp)).trans h2, e, by simp [World.setCell]; exact hz, hb.setCell (by simp; omega) _⟩
theorem ColRel.drew {w wr : World} {c f : Nat → Nat} {i j : Nat} (h : ColRel w c f i j wr) : ColRel w c f i j wr.drew := by
  obtain ⟨h0, h1, h2, h3, hz, hb⟩ := h
  exact ⟨h0, h1, h2, h3, hz, hb.drew⟩
theorem ColRel.turn {w wr : World} {c f : Nat → Nat} {i : Nat} (h : ColRel w c f i 4 wr) : ColRel w c f (i + 1) 0 wr := by
  unfold ColRel at *; rw [← outC_next]; exact h
set_option maxRecDepth 100000 in
set_option maxHeartbeats 2000000 in
theorem column_c (c f : Nat → Nat) (hc : ∀ j, j < 4 → c j < 256) (hf : ∀ j, j < 4 → f j < 256) (w : World) :
    Calls Try.prog 42 #[.agg (v4 c), .agg (v4 f)] w fun e w' => e = .returned (.agg (v4 (colN c f))) ∧ Below w.heap.size w w' := by
  have HS := Lib.hid (ColRel.start w c f)
  have HC := Lib.hid hc
  have HFF := Lib.hid hf
  clear hc hf
  go_enter Try.func42, Try.ntmps42
  go_wp2
  go_loopw [6, 7] (fun vi vj wr => ∃ i : Nat, i ≤ 4 ∧ vi = .int .i64 i ∧ Hid (ColRel w c f i 0 wr)) (fun vi _ _ => 4 - (intOf vi).toNat)
  case atStart => exact ⟨0, by omega, rfl, HS⟩
  case round =>
    obtain ⟨i, hi, rfl, HO⟩ := hrel
    clear HS
    by_cases hlt : i < 4
    · obtain ⟨wo, rfl⟩ : ∃ wo : World, wo = wr := ⟨_, rfl⟩
      have hT : decide ((i : Int) < 4) = true := by simp; omega
      go_wp2
      go_loopw [7] (fun vj wr => ∃ j : Nat, j ≤ 4 ∧ vj = .int .i64 j ∧ Hid (ColRel w c f i j wr)) (fun vj _ => 4 - (intOf vj).toNat)
      case atStart => exact ⟨0, by omega, rfl, HO⟩
      case round =>
        clear HO
        obtain ⟨j, hj, rfl, hrel⟩ := hrel
        by_cases hlj : j < 4
        · have hT2 : decide ((j : Int) < 4) = true := by simp; omega
          obtain ⟨m, hmm⟩ : ∃ m, m = (i + j) % 4 := ⟨_, rfl⟩
          have d3 : m < 4 := by omega
          have d5 : (m : Int) < 4 := by omega
          have c0 := (cells_of hrel.out.1 m).trans (v4_get c _ d3)
          have c1 := (cells_of hrel.out.2.1 j).trans (v4_get f j hlj)
          have c2 := (cells_of hrel.out.2.2.2.1 i).trans (v4_get (outC c f i j) i hlt)
          have e2 : outC c f i j i = colGo c f i j := by simp [outC]
          rw [e2] at c2
          clear e2
          have f2 := free_of hrel.out.2.2.2.1 i
          have d1 : IntKind.i64.wrap ((i : Int) + (j : Int)) = (i : Int) + (j : Int) := IntWalk.i64_in _ (by omega)
          have d2 : ((i : Int) + (j : Int)).tmod 4 = (m : Int) := by rw [Int.tmod_eq_emod_of_nonneg (by omega)]; omega
          have HMM := Lib.hid hmm
          clear hmm
          go_wp2
          have hm := HFF.out j hlj
          have d6 : (i : Int) < 4 := by omega
          have d7 : (j : Int) < 4 := by omega
          have hcc := HC.out _ d3
          have M : ∀ w, Calls Try.prog 29 #[.int .u8 (f j : Int), .int .u8 (c m : Int)] w fun e w' => e = .returned (.int .u8 ((gmul (f j) (c m) : Nat) : Int)) ∧ w' = w := fun w => (mulref_c _ _ hm hcc w).mono fun _ _ h => ⟨h.1, h.2.symm⟩
          have HM := Lib.hid M
          clear M
          refine wp_region_still_tail 16 (by kernel_rfl) (by kernel_rfl) ?_
          simp only [List.take_succ_cons, List.take_zero, List.drop_succ_cons, List.drop_zero]
          change wpStill _ _ wr.drew _ _ _
          repeat still_step
          still_call (HM.out _)
          repeat still_step
          refine wpStill_nil ?_
          change wpList _ _ _ _ _ wr.drew
          have R := (hrel.out.next hlt).drew
          have hx : bits BinOp.xor IntKind.u8 (colGo c f i j : Int) (gmul (f j) (c m) : Int) = (colGo c f i (j + 1) : Int) := by
            have e := HMM.out
            subst e
            exact u8x rfl rfl (colGo_lt c f HFF.out i j (by omega)) (gmul_lt _ _ hm)
          rw [← hx] at R
          have HR := Lib.hid R
          clear R hx
          go_wp2
          go_roundw
          case rel => exact ⟨j + 1, by omega, by go_num, HR⟩
          case measure => simp [intOf]; omega
        · obtain rfl : j = 4 := by omega
          have HR := Lib.hid hrel.out.turn
          clear hrel
          go_wp2
          go_roundw
          case rel => exact ⟨i + 1, by omega, by go_num, HR⟩
          case measure => simp [intOf]; omega
    · obtain rfl : i = 4 := by omega
      obtain ⟨g, hg⟩ : ∃ g, colN c f = g := ⟨_, rfl⟩
      have HG := Lib.hid hg
      have h1 := HO.out.2.2.1
      have h3 := HO.out.2.2.2.1
      have hbel := Lib.hid HO.out.2.2.2.2.2
      rw [outC_full, hg] at h3
      clear hg HO
      have c0 := (cells_of h3 0).trans (v4_get g 0 (by omega))
      have c1 := (cells_of h3 1).trans (v4_get g 1 (by omega))
      have c2 := (cells_of h3 2).trans (v4_get g 2 (by omega))
      have c3 := (cells_of h3 3).trans (v4_get g 3 (by omega))
      have d0 := (cells_of h1 0).trans (v4_get _ 0 (by omega))
      have d1 := (cells_of h1 1).trans (v4_get _ 1 (by omega))
      have d2 := (cells_of h1 2).trans (v4_get _ 2 (by omega))
      have d3 := (cells_of h1 3).trans (v4_get _ 3 (by omega))
      have f0 := free_of h1 0
      have f1 := free_of h1 1
      have f2 := free_of h1 2
      have f3 := free_of h1 3
      have H1 := Lib.hid h1
      clear h1 h3
      go_wp2
      have e := block_set (block_set (block_set (block_set H1.out 0 (.int .u8 (g 0 : Int))) 1 (.int .u8 (g 1 : Int))) 2 (.int .u8 (g 2 : Int))) 3 (.int .u8 (g 3 : Int))
      have e' : ((((v4 (cutf c 0)).setIfInBounds 0 (.int .u8 (g 0 : Int))).setIfInBounds 1 (.int .u8 (g 1 : Int))).setIfInBounds 2 (.int .u8 (g 2 : Int))).setIfInBounds 3 (.int .u8 (g 3 : Int)) = v4 g := rfl
      rw [e'] at e
      have hB := (((hbel.out.setCell (p := ⟨w.heap.size + 1 + 1, 0, none⟩) (by simp; omega) (.int .u8 (g 0 : Int))).setCell (p := ⟨w.heap.size + 1 + 1, 1, none⟩) (by simp; omega) (.int .u8 (g 1 : Int))).setCell (p := ⟨w.heap.size + 1 + 1, 2, none⟩) (by simp; omega) (.int .u8 (g 2 : Int))).setCell (p := ⟨w.heap.size + 1 + 1, 3, none⟩) (by simp; omega) (.int .u8 (g 3 : Int))
      exact ret_agg4 _ _ _ g _ rfl rfl (w.heap.size + 1 + 1) rfl e rfl ⟨by rw [HG.out], hB⟩
end Go.Proofs.Ytnmjkdmhfogeiaa
