/- Contracts of state.columns, state.mix, state.unmix. -/
import Derived.Test.YtjclofkkpgdjnaaAesE
set_option linter.unusedVariables false
namespace Go.Proofs.Ytjclofkkpgdjnaa
open Go Go.RowKit GfM
/-- column q of a state -/
def colOf (l : List Nat) (q : Nat) : Nat → Nat := fun t => l.getD (4 * q + t) 0
def colsF (G : (Nat → Nat) → Nat → Nat) (l : List Nat) : Nat → Nat := fun i => G (colOf l (i / 4)) (i % 4)
def colsL (G : (Nat → Nat) → Nat → Nat) (l : List Nat) : List Nat := (List.range 16).map (colsF G l)
theorem getD_upd (g : Nat → Nat) (l : List Nat) (k i : Nat) (hk : k ≤ i) : (upd g l k).getD i 0 = l.getD i 0 := by
  unfold upd
  rw [List.getD_eq_getElem?_getD, List.getD_eq_getElem?_getD, List.getElem?_append_right (by simp; omega)]; simp; congr 2; omega
theorem range_col (l : List Nat) (b q : Nat) (hl : l.length = 16) (hq : q < 4) {w : World} {g : Nat} (h : w.heap[g]? = some (.cells (stA l b) 148 (0, 0))) : w.rangeAt g (4 * q) (v4 (colOf l q)).toList := by
  intro j v hv
  have hj : j < 4 := by
    have := (List.getElem?_eq_some_iff.1 hv).1; simpa [v4] using this
  rw [cells_at h, stA_get l b _ (by omega)]
  rw [Array.getElem?_toList, v4_get _ j hj] at hv
  exact hv
theorem v4_list (a : Nat → Nat) : (v4 a).toList = (List.range 4).map fun t => Value.int .u8 ((a t : Nat) : Int) := rfl
theorem splice_col (G : (Nat → Nat) → Nat → Nat) (l : List Nat) (b q : Nat) (hl : l.length = 16) (hq : q < 4) :
    (splice (stA (upd (colsF G l) l (4 * q)) b).toList (4 * q) (v4 (G (colOf l q))).toList).toArray = stA (upd (colsF G l) l (4 * (q + 1))) b := by
  match l, hl with
  | [a0, a1, a2, a3, a4, a5, a6, a7, a8, a9, a10, a11, a12, a13, a14, a15], _ =>
    match q, hq with
    | 0, _ => rfl
    | 1, _ => rfl
    | 2, _ => rfl
    | 3, _ => rfl
theorem u8size (w : World) : (sizeOf 5).run Try.prog w = .ok 1 w := by go_simp
theorem slice_kh (w : World) (g k : Nat) (hk : k + 4 ≤ 16) :
    (Instr.sliceAt 88 (.pointer (some ⟨g, 0, none⟩)) (some (.int .i64 (k : Int))) (some (.int .i64 ((k : Int) + 4))) none).run Try.prog w = .ok (.slice (some ⟨g, k, none⟩) 4 (16 - k)) w := by
  have h16 : Try.prog.arrayLen 88 = 16 := by kernel_rfl
  have h8 : Try.prog.elem 88 = 5 := by kernel_rfl
  rw [run_sliceAt_array_lh w 88 ⟨g, 0, none⟩ (by rw [h16, h8]; exact Try.underlying88) .i64 .i64 (k : Int) ((k : Int) + 4) (by omega) (by omega) (by rw [h16]; omega), h8, h16, u8size]
  simp only [Result.andThen, slicedAt]
  rw [if_neg (by omega), Addr.add_mid, show ((k : Int) + 4).toNat - (k : Int).toNat = 4 by omega, show 0 + (k : Int).toNat * 1 = k by omega, show 16 - (k : Int).toNat = 16 - k by omega]
theorem slice_kl (w : World) (g k : Nat) (hk : k < 16) :
    (Instr.sliceAt 88 (.pointer (some ⟨g, 0, none⟩)) (some (.int .i64 (k : Int))) none none).run Try.prog w = .ok (.slice (some ⟨g, k, none⟩) (16 - k) (16 - k)) w := by
  have h16 : Try.prog.arrayLen 88 = 16 := by kernel_rfl
  have h8 : Try.prog.elem 88 = 5 := by kernel_rfl
  rw [run_sliceAt_array_l w 88 ⟨g, 0, none⟩ (by rw [h16, h8]; exact Try.underlying88) .i64 (k : Int) (by omega) (by rw [h16]; omega), h8, h16, u8size]
  simp only [Result.andThen, slicedAt]
  rw [if_neg (by omega), Addr.add_mid, show 0 + (k : Int).toNat * 1 = k by omega, show 16 - (k : Int).toNat = 16 - k by omega]
set_option maxRecDepth 100000 in
set_option maxHeartbeats 4000000 in
theorem columns_c (F : FuncId) (G : (Nat → Nat) → Nat → Nat)
    (hF : ∀ c : Nat → Nat, (∀ j, j < 4 → c j < 256) → ∀ w : World, Calls Try.prog F #[.agg (v4 c)] w fun e w' => e = .returned (.agg (v4 (G c))) ∧ Below w.heap.size w w')
    (hcall : ∀ (x : Value) (w : World), Sem.run Try.prog (callFunc F #[x]) w = .ok (.enter F #[x]) w)
    (l : List Nat) (hl : l.length = 16) (hb : ∀ j, j < 16 → l.getD j 0 < 256) (b : Nat) (w : World) :
    Calls Try.prog 101 #[.agg (stA l b), .func (.func F) #[] #[]] w fun e w' => e = .returned (.agg (stA (colsL G l) b)) ∧ Below w.heap.size w w' := by
  have b0 : ∀ (o1 : Obj), ((w.alloc (Obj.cells (stA l b) 148)).alloc o1).heap[w.heap.size]? = some (.cells (stA (upd (colsF G l) l (4 * 0)) b) 148 (0, 0)) := fun o1 => by
    rw [heap_old' _ _ _ (by simp), heap_new', upd_zero]
  have b2 : ∀ (o0 : Obj) (Z : Array Value), ((w.alloc o0).alloc (Obj.cells Z 148)).heap[w.heap.size + 1]? = some (.cells Z 148 (0, 0)) := fun o0 Z => by
    rw [show w.heap.size + 1 = (w.alloc o0).heap.size by simp, heap_new']
  have B0 := Lib.hid b0
  have B2 := Lib.hid b2
  have HL := Lib.hid hl
  have HV := Lib.hid hb
  have HF := Lib.hid hF
  clear b0 b2 hl hb hF
  go_enter Try.func101, Try.ntmps101
  go_wp2
  go_loopw [5] (fun vi wr => ∃ q : Nat, q ≤ 4 ∧ vi = .int .i64 ((4 * q : Nat) : Int) ∧ Hid (wr.heap[w.heap.size]? = some (.cells (stA (upd (colsF G l) l (4 * q)) b) 148 (0, 0))) ∧ Hid (∃ Z, Z.size = 17 ∧ wr.heap[w.heap.size + 1]? = some (.cells Z 148 (0, 0))) ∧ Hid (Below w.heap.size w wr)) (fun vi _ => 16 - (intOf vi).toNat)
  case atStart => exact ⟨0, by omega, rfl, B0.out _, ⟨_, rfl, B2.out _ _⟩, (((Below.refl _ _).alloc (Nat.le_refl _) _).alloc (by simp) _)⟩
  case round =>
    clear B0 B2
    obtain ⟨q, hq, rfl, h0, h2, hbel⟩ := hrel
    have hlen : (upd (colsF G l) l (4 * q)).length = 16 := by rw [upd_len _ _ _ (by rw [HL.out]; omega), HL.out]
    by_cases hlt : q < 4
    · have hr := range_col _ b q hlen hlt h0.out
      obtain ⟨k, hk⟩ : ∃ k, k = 4 * q := ⟨_, rfl⟩
      rw [← hk] at hr
      rw [← hk]
      have hk16 : k + 4 ≤ 16 := by omega
      have hcc : colOf (upd (colsF G l) l k) q = colOf l q := by
        funext t; unfold colOf; rw [getD_upd _ _ _ _ (by omega)]
      rw [hcc] at hr
      have HR := Lib.hid hr
      have HK := Lib.hid hk
      have HLEN := Lib.hid hlen
      clear hr hcc hlen
      have hcl : Hid (∀ w : World, Calls Try.prog F #[.agg (v4 (colOf l q))] w fun e w' => e = .returned (.agg (v4 (G (colOf l q)))) ∧ Below w.heap.size w w') := fun w => HF.out _ (fun j hj => HV.out _ (by omega)) w
      have ha : ∀ w' cap, (Instr.arrayAt 133 (.slice (some ⟨w.heap.size, k, none⟩) 4 cap)).run Try.prog w' = .ok (.pointer (some ⟨w.heap.size, k, none⟩)) w' := fun w' cap => run_arrayAt w' 133 5 4 _ 4 cap Try.underlying133 (by omega)
      have hs1 := fun w' => slice_kh w' w.heap.size k (by omega)
      have hs2 := fun w' => slice_kl w' w.heap.size k (by omega)
      clear hk
      go_wp2_with (first
        | (refine wpList_load_mid rfl 133 (.tmp 17) rfl w.heap.size k rfl _ _ HR.out Try.underlying133 rfl (by rw [four4]; simp [v4]) ?_)
        | fail)
      refine (hcl.out _).mono ?_
      rintro e w1 ⟨rfl, hb1⟩
      have hwl := lt_of_block h0.out
      have g0 := (hb1.block _ hwl).trans h0.out
      obtain ⟨Z, hZ, hZ2⟩ := h2.out
      have g2 := (hb1.block _ (lt_of_block hZ2)).trans hZ2
      have hbel1 := hbel.out.trans (hb1.mono (by omega))
      have G0 := Lib.hid g0
      have G2 := Lib.hid g2
      have HZ := Lib.hid hZ
      have HBL := Lib.hid hbel1
      have HWL : Hid (w.heap.size < wr.heap.size ∧ w.heap.size + 1 < w1.heap.size) := ⟨hwl, lt_of_block g2⟩
      clear hwl g0 g2 hZ hZ2 hbel1 h0 h2 hb1 hbel hs1 ha
      go_wp2_with (first
        | (refine wpList_store_row rfl 133 (.tmp 6) (.tmp 19) rfl w1.heap.size _ rfl rfl 133 _ (heap_new' _ _) (by rw [four4]; rfl) rfl (v4_one _) ?_)
        | fail)
      have n0 : ((w1.alloc (Obj.cells #[.int .u8 0, .int .u8 0, .int .u8 0, .int .u8 0] 133)).setRow w1.heap.size (v4 (G (colOf l q)))).heap[w.heap.size]? = some (.cells (stA (upd (colsF G l) l (4 * q)) b) 148 (0, 0)) := by
        rw [setRow_other _ _ _ _ (by have := HWL.out; omega), heap_old' _ _ _ (by have := HWL.out; omega)]; exact G0.out
      have n2 : ((w1.alloc (Obj.cells #[.int .u8 0, .int .u8 0, .int .u8 0, .int .u8 0] 133)).setRow w1.heap.size (v4 (G (colOf l q)))).heap[w.heap.size + 1]? = some (.cells Z 148 (0, 0)) := by
        rw [setRow_other _ _ _ _ (by have := HWL.out; omega), heap_old' _ _ _ (by have := HWL.out; omega)]; exact G2.out
      have n6 := setRow_heap _ _ _ (v4 (G (colOf l q))) _ _ (heap_new' w1 (Obj.cells #[.int .u8 0, .int .u8 0, .int .u8 0, .int .u8 0] 133))
      have nb := below_setRow (HBL.out.alloc (by have := HWL.out; omega) (Obj.cells #[.int .u8 0, .int .u8 0, .int .u8 0, .int .u8 0] 133)) (by have := HWL.out; omega : w.heap.size ≤ w1.heap.size) (v4 (G (colOf l q)))
      generalize ((w1.alloc (Obj.cells #[.int .u8 0, .int .u8 0, .int .u8 0, .int .u8 0] 133)).setRow w1.heap.size (v4 (G (colOf l q)))) = W2 at *
      have N0 := Lib.hid n0
      have N2 := Lib.hid n2
      have N6 := Lib.hid n6
      have NB := Lib.hid nb
      have HQ := Lib.hid hlt
      clear n0 n2 n6 nb G0 G2 HBL hcl HR
      refine wp_region_still_tail 4 (by kernel_rfl) (by kernel_rfl) ?_
      simp only [List.take_succ_cons, List.take_zero, List.drop_succ_cons, List.drop_zero]
      change wpStill _ _ W2.drew _ _ _
      repeat still_step
      refine wpStill_nil ?_
      change wpList _ _ _ _ _ W2.drew
      refine wpList_copy_own rfl (.tmp 22) (.tmp 23) 32 32 rfl 5 Try.underlying32 (by kernel_rfl) w.heap.size k (16 - k) (16 - k) ⟨w1.heap.size, 0, none⟩ 4 4 rfl rfl (stA (upd (colsF G l) l (4 * q)) b) 148 N0.out (v4 (G (colOf l q))).toList ?_ ?_ ?_ ?_ ?_
      · exact (Nat.min_eq_left (by omega : 4 ≤ 16 - k)).symm
      · intro j v hv
        rw [Addr.add_mid, Nat.zero_add]
        rw [Array.getElem?_toList] at hv
        exact (cells_at N6.out j).trans hv
      · simp [stA_size, HLEN.out, v4]; omega
      · exact fun v hv => by simp [v4] at hv; rcases hv with rfl | rfl | rfl | rfl <;> rfl
      have m0 : (W2.drew.setRow w.heap.size ((stA (upd (colsF G l) l (4 * q)) b).toList.take k ++ ((v4 (G (colOf l q))).toList ++ (stA (upd (colsF G l) l (4 * q)) b).toList.drop (k + (v4 (G (colOf l q))).toList.length))).toArray).heap[w.heap.size]? = some (.cells (stA (upd (colsF G l) l (4 * (q + 1))) b) 148 (0, 0)) := by
        refine (setRow_heap W2.drew _ _ _ _ _ N0.out).trans ?_
        rw [← splice_col G l b q HL.out HQ.out, ← HK.out]; rfl
      have m2 : (W2.drew.setRow w.heap.size ((stA (upd (colsF G l) l (4 * q)) b).toList.take k ++ ((v4 (G (colOf l q))).toList ++ (stA (upd (colsF G l) l (4 * q)) b).toList.drop (k + (v4 (G (colOf l q))).toList.length))).toArray).heap[w.heap.size + 1]? = some (.cells Z 148 (0, 0)) :=
        (setRow_other _ _ _ _ (by omega)).trans N2.out
      have mb := below_setRow NB.out.drew (Nat.le_refl _) ((stA (upd (colsF G l) l (4 * q)) b).toList.take k ++ ((v4 (G (colOf l q))).toList ++ (stA (upd (colsF G l) l (4 * q)) b).toList.drop (k + (v4 (G (colOf l q))).toList.length))).toArray
      generalize (W2.drew.setRow w.heap.size ((stA (upd (colsF G l) l (4 * q)) b).toList.take k ++ ((v4 (G (colOf l q))).toList ++ (stA (upd (colsF G l) l (4 * q)) b).toList.drop (k + (v4 (G (colOf l q))).toList.length))).toArray) = W3 at *
      have M0 := Lib.hid m0
      have M2 := Lib.hid m2
      have MB := Lib.hid mb
      clear m0 m2 mb N0 N2 N6 NB
      go_wp2
      go_roundw
      case rel => exact ⟨q + 1, by have := HQ.out; omega, by have := HK.out; go_num, M0.out, ⟨Z, HZ.out, M2.out⟩, MB.out⟩
      case measure => simp [intOf]; omega
    · obtain rfl : q = 4 := by omega
      have h3 := h0
      rw [upd_full _ _ 16 HL.out] at h3
      obtain ⟨Z, hZ, hZ2⟩ := h2.out
      have HZ := Lib.hid hZ
      have HZ2 := Lib.hid hZ2
      clear hZ hZ2 h2 hlen
      go_wp2_with (first
        | (refine wpList_load_row rfl 148 (.tmp 2) rfl w.heap.size rfl _ _ _ _ h3.out Try.underlying148 rfl (by rw [st17, stA_size]; simp) ?_)
        | (refine wpList_store_row rfl 148 (.tmp 4) (.tmp 25) rfl (w.heap.size + 1) _ rfl rfl 148 _ HZ2.out (by rw [st17, stA_size]; simp) (by rw [HZ.out, stA_size]; simp) (stA_one _ _) ?_))
      exact bodyPost_ret (results_cell_row rfl _ _ (w.heap.size + 1) 148 (stA (colsL G l) b) (0, 0) _ rfl (setRow_heap _ _ _ _ _ _ HZ2.out) Try.underlying148 rfl (by rw [st17, stA_size]; simp [colsL])) rfl ⟨rfl, below_setRow hbel.out (by omega) _⟩
end Go.Proofs.Ytjclofkkpgdjnaa
