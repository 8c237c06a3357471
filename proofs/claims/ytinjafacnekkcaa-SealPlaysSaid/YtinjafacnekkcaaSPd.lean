/- Texts AesD, AesE, AesF, AesG, put together by pack.py. -/
import Derived.Test.YtinjafacnekkcaaSPc
set_option linter.unusedVariables false
set_option linter.unusedSimpArgs false
namespace Go.Proofs.Ytinjafacnekkcaa
open Go Go.RowKit GfM
def sig (k : Nat) : Nat := (k + 4 * (k % 4)) % 16
def shiftL (l : List Nat) : List Nat := (List.range 16).map fun k => l.getD (sig k) 0
theorem range_st (l : List Nat) (b : Nat) (hl : l.length = 16) {w : World} {g : Nat} (h : w.heap[g]? = some (.cells (stA l b) 131 (0, 0))) : w.rangeAt g 0 (l.map fun (n : Nat) => Value.int .u8 (n : Int)) := by
  intro j v hv
  have hj : j < l.length := by
    have := (List.getElem?_eq_some_iff.1 hv).1; simpa using this
  rw [Nat.zero_add, cells_at h j, stA_get l b j hj]
  simp only [List.getElem?_map] at hv
  rw [List.getElem?_eq_getElem hj] at hv
  simp only [Option.map_some, Option.some.injEq] at hv
  rw [← hv]; simp [hj]
set_option maxRecDepth 100000 in
set_option maxHeartbeats 2000000 in
theorem shift_c (l : List Nat) (hl : l.length = 16) (b : Nat) (w : World) :
    Calls Try.prog 76 #[.agg (stA l b)] w fun e w' => e = .returned (.agg (stA (shiftL l) b)) ∧ Below w.heap.size w w' := by
  have b0 : ∀ (o1 o2 : Obj), (((w.alloc (Obj.cells (stA l b) 131)).alloc o1).alloc o2).heap[w.heap.size]? = some (.cells (stA l b) 131 (0, 0)) := fun o1 o2 => by
    rw [heap_old' _ _ _ (by simp; omega), heap_old' _ _ _ (by simp), heap_new']
  have b1 : ∀ (o0 o2 : Obj) (Z : Array Value), (((w.alloc o0).alloc (Obj.cells Z 131)).alloc o2).heap[w.heap.size + 1]? = some (.cells Z 131 (0, 0)) := fun o0 o2 Z => by
    rw [heap_old' _ _ _ (by simp), show w.heap.size + 1 = (w.alloc o0).heap.size by simp, heap_new']
  have b2 : ∀ (o0 o1 : Obj) (Z : Array Value), (((w.alloc o0).alloc o1).alloc (Obj.cells Z 22)).heap[w.heap.size + 1 + 1]? = some (.cells Z 22 (0, 0)) := fun o0 o1 Z => by
    rw [show w.heap.size + 1 + 1 = ((w.alloc o0).alloc o1).heap.size by simp, heap_new']
  have B0 := Lib.hid b0
  have B1 := Lib.hid b1
  have B2 := Lib.hid b2
  have HL := Lib.hid hl
  have hb0 : ∀ (o1 : Obj), ((w.alloc (Obj.cells (stA l b) 131)).alloc o1).heap[w.heap.size]? = some (.cells (stA l b) 131 (0, 0)) := fun o1 => by
    rw [heap_old' _ _ _ (by simp), heap_new']
  have HB0 := Lib.hid hb0
  clear b0 b1 b2 hl hb0
  go_enter Try.func76, Try.ntmps76
  go_wp2_with (first
    | (refine wpList_load_mid rfl 22 (.tmp 5) rfl w.heap.size 0 rfl _ _ (range_st l b HL.out (HB0.out _)) Try.underlying22 rfl (by rw [zero16]; simp [HL.out]) ?_)
    | (refine wpList_store_row rfl 22 (.tmp 3) (.tmp 6) rfl (w.heap.size + 1 + 1) _ rfl rfl 22 _ (B2.out _ _ _) (by rw [zero16]; simp [HL.out]) (by simp [HL.out]) (by rw [← Array.all_toList]; simp [Value.oneCell']) ?_))
  go_loopw [7] (fun vi wr => ∃ k : Nat, k ≤ 16 ∧ vi = .int .i64 k ∧ Hid (wr.heap[w.heap.size]? = some (.cells (stA (upd (fun k => l.getD (sig k) 0) l k) b) 131 (0, 0))) ∧ Hid (∃ Z, Z.size = 17 ∧ wr.heap[w.heap.size + 1]? = some (.cells Z 131 (0, 0))) ∧ Hid (wr.heap[w.heap.size + 1 + 1]? = some (.cells (bA l) 22 (0, 0))) ∧ Hid (Below w.heap.size w wr)) (fun vi _ => 16 - (intOf vi).toNat)
  case atStart => exact ⟨0, by omega, rfl, (setRow_other _ _ _ _ (by omega)).trans (by rw [upd_zero]; exact B0.out _ _), ⟨_, rfl, (setRow_other _ _ _ _ (by omega)).trans (B1.out _ _ _)⟩, setRow_heap _ _ _ _ _ _ (B2.out _ _ _), below_setRow ((((Below.refl _ _).alloc (Nat.le_refl _) _).alloc (by simp) _).alloc (by simp; omega) _) (by omega) _⟩
  case round =>
    clear B0 B1 B2 HB0
    obtain ⟨k, hk, rfl, h0, h1, h2, hbel⟩ := hrel
    have hlen : (upd (fun k => l.getD (sig k) 0) l k).length = 16 := by rw [upd_len _ _ _ (by rw [HL.out]; exact hk), HL.out]
    by_cases hlt : k < 16
    · obtain ⟨m, hm⟩ : ∃ m, m = sig k := ⟨_, rfl⟩
      have hmI : ((k : Int) + 4 * ((k : Int) % 4)) % 16 = (m : Int) := by rw [hm]; unfold sig; omega
      have hm16 : m < 16 := by rw [hm]; unfold sig; omega
      have c0 := (cells_at h2.out m).trans (bA_get l m (by rw [HL.out]; omega))
      have c1 := (cells_at h0.out k).trans (stA_get _ b k (by omega))
      have f1 := free_at h0.out k
      have d6 : (k : Int) < 16 := by omega
      have d7 : (m : Int) < 16 := by omega
      have HM := Lib.hid hm
      have HLEN := Lib.hid hlen
      obtain ⟨v, hv⟩ : ∃ v, v = l.getD m 0 := ⟨_, rfl⟩
      have HVV := Lib.hid hv
      rw [← hv] at c0
      clear hm hlen hv
      go_wp2
      go_roundw
      case rel =>
        have n0 := block_at h0.out k (.int .u8 (v : Int))
        rw [stA_set _ _ _ _ (by rw [HLEN.out]; omega)] at n0
        have he : v = (fun k => l.getD (sig k) 0) k := by rw [HVV.out, HM.out]
        rw [he, upd_set _ _ _ (by rw [HL.out]; exact hlt), ← he] at n0
        obtain ⟨Z, hZ, hZ2⟩ := h1.out
        exact ⟨k + 1, by omega, by go_num, n0, ⟨Z, hZ, (Below.heap_setCell _ _ _ _ (by simp)).trans hZ2⟩, (Below.heap_setCell _ _ _ _ (by simp; omega)).trans h2.out, hbel.out.setCell (by simp) _⟩
      case measure => simp [intOf]; omega
    · obtain rfl : k = 16 := by omega
      have h3 := h0
      rw [upd_full _ _ 16 HL.out] at h3
      obtain ⟨Z, hZ, hZ2⟩ := h1.out
      have HZ := Lib.hid hZ
      have HZ2 := Lib.hid hZ2
      clear hZ hZ2 h1 hlen
      go_wp2_with (first
        | (refine wpList_load_row rfl 131 (.tmp 1) rfl w.heap.size rfl _ _ _ _ h3.out Try.underlying131 rfl (by rw [st17, stA_size]; simp) ?_)
        | (refine wpList_store_row rfl 131 (.tmp 2) (.tmp 22) rfl (w.heap.size + 1) _ rfl rfl 131 _ HZ2.out (by rw [st17, stA_size]; simp) (by rw [HZ.out, stA_size]; simp) (stA_one _ _) ?_))
      exact bodyPost_ret (results_cell_row rfl _ _ (w.heap.size + 1) 131 (stA (shiftL l) b) (0, 0) _ rfl (setRow_heap _ _ _ _ _ _ HZ2.out) Try.underlying131 rfl (by rw [st17, stA_size]; simp [shiftL])) rfl ⟨rfl, below_setRow hbel.out (by omega) _⟩
end Go.Proofs.Ytinjafacnekkcaa
namespace Go.Proofs.Ytinjafacnekkcaa
open Go Go.RowKit GfM
def keyL (l W : List Nat) (r : Nat) : List Nat := (List.range 16).map fun k => l.getD k 0 ^^^ W.getD (16 * r + k) 0
set_option maxRecDepth 100000 in
set_option maxHeartbeats 4000000 in
theorem key_c (c b g n cap rd : Nat) (W l : List Nat) (hl : l.length = 16) (hb : ∀ j, j < 16 → l.getD j 0 < 256) (r : Nat) (hr : 16 * r + 16 ≤ W.length) (hr2 : r < 1000) (w : World) (hC : Cip w c b g n cap rd W) :
    Calls Try.prog 73 #[.pointer (some ⟨c, 0, none⟩), .agg (stA l b), .int .i64 (r : Int)] w fun e w' => e = .returned (.agg (stA (keyL l W r) b)) ∧ Below w.heap.size w w' := by
  have b0 : ∀ (o1 : Obj), ((w.alloc (Obj.cells (stA l b) 131)).alloc o1).heap[w.heap.size]? = some (.cells (stA (upd (fun k => l.getD k 0 ^^^ W.getD (16 * r + k) 0) l 0) b) 131 (0, 0)) := fun o1 => by
    rw [heap_old' _ _ _ (by simp), heap_new', upd_zero]
  have b2 : ∀ (o0 : Obj) (Z : Array Value), ((w.alloc o0).alloc (Obj.cells Z 131)).heap[w.heap.size + 1]? = some (.cells Z 131 (0, 0)) := fun o0 Z => by
    rw [show w.heap.size + 1 = (w.alloc o0).heap.size by simp, heap_new']
  have B0 := Lib.hid b0
  have B2 := Lib.hid b2
  have HL := Lib.hid hl
  have HV := Lib.hid hb
  have HC := Lib.hid hC
  have hn4 := hC.flen
  have hncap := hC.fcap
  have hcm := hC.fcapm
  unfold maxLen at hcm
  have hn : 4 * r + 4 ≤ n := by omega
  clear b0 b2 hl hb hC hn4
  go_enter Try.func73, Try.ntmps73
  go_wp2
  go_loopw [8] (fun vi wr => ∃ k : Nat, k ≤ 16 ∧ vi = .int .i64 k ∧ Hid (wr.heap[w.heap.size]? = some (.cells (stA (upd (fun k => l.getD k 0 ^^^ W.getD (16 * r + k) 0) l k) b) 131 (0, 0))) ∧ Hid (∃ Z, Z.size = 17 ∧ wr.heap[w.heap.size + 1]? = some (.cells Z 131 (0, 0))) ∧ Hid (Below w.heap.size w wr)) (fun vi _ => 16 - (intOf vi).toNat)
  case atStart => exact ⟨0, by omega, rfl, B0.out _, ⟨_, rfl, B2.out _ _⟩, (((Below.refl _ _).alloc (Nat.le_refl _) _).alloc (by simp) _)⟩
  case round =>
    clear B0 B2
    obtain ⟨k, hk, rfl, h0, h2, hbel⟩ := hrel
    have hlen : (upd (fun k => l.getD k 0 ^^^ W.getD (16 * r + k) 0) l k).length = 16 := by rw [upd_len _ _ _ (by rw [HL.out]; exact hk), HL.out]
    by_cases hlt : k < 16
    · have c0 := (cells_at h0.out k).trans (stA_get _ b k (by omega))
      rw [upd_get] at c0
      have f0 := free_at h0.out k
      have hCr := HC.out.up hbel.out (Nat.le_refl _)
      have c1 := hCr.c1
      obtain ⟨q, hq⟩ : ∃ q, q = k / 4 := ⟨_, rfl⟩
      obtain ⟨m, hm⟩ : ∃ m, m = k % 4 := ⟨_, rfl⟩
      have c2 := hCr.wd ((4 * r + q) * 4 + m) (by omega)
      rw [show (4 * r + q) * 4 + m = 16 * r + k by omega] at c2
      rw [show 16 * r + k = (4 * r + q) * 4 + m by omega] at c2
      obtain ⟨v, hv⟩ : ∃ v, v = l.getD k 0 := ⟨_, rfl⟩
      obtain ⟨u, hu⟩ : ∃ u, u = W.getD ((4 * r + q) * 4 + m) 0 := ⟨_, rfl⟩
      rw [← hv] at c0
      rw [← hu] at c2
      have hvb : v < 256 := by rw [hv]; exact HV.out k hlt
      have hub : u < 256 := by
        rw [hu, List.getD_eq_getElem?_getD, List.getElem?_eq_getElem (by omega)]
        exact HC.out.fbyte _ (List.getElem_mem _)
      have hx : bits BinOp.xor IntKind.u8 (v : Int) (u : Int) = ((v ^^^ u : Nat) : Int) := u8x rfl rfl hvb hub
      have hvu : v ^^^ u = (fun k => l.getD k 0 ^^^ W.getD (16 * r + k) 0) k := by
        show _ = l.getD k 0 ^^^ W.getD (16 * r + k) 0
        rw [hv, hu, show 16 * r + k = (4 * r + q) * 4 + m by omega]
      have HX := Lib.hid hx
      have HVU := Lib.hid hvu
      have HLEN := Lib.hid hlen
      have e1 : IntKind.i64.wrap (4 * (r : Int)) = 4 * (r : Int) := IntWalk.i64_in _ (by omega)
      have e2 : IntKind.i64.wrap ((k : Int) / 4) = (q : Int) := by rw [IntWalk.i64_in _ (by omega)]; omega
      have e3 : (k : Int).tmod 4 = (m : Int) := by rw [Int.tmod_eq_emod_of_nonneg (by omega)]; omega
      have e4 : IntKind.i64.wrap (4 * (r : Int) + (q : Int)) = 4 * (r : Int) + (q : Int) := IntWalk.i64_in _ (by omega)
      have e5 : (0 : Int) ≤ 4 * (r : Int) + (q : Int) ∧ 4 * (r : Int) + (q : Int) < (n : Int) := by omega
      have e6 : (4 * (r : Int) + (q : Int)).toNat = 4 * r + q := by omega
      have d6 : (k : Int) < 16 := by omega
      have d7 : (m : Int) < 4 := by omega
      have hd : decide ((k : Int) < 16) = true := by simp; omega
      clear hq hm hv hu hCr hlen hx hvu
      go_wp2
      refine wp_region_still_tail 21 (by kernel_rfl) (by kernel_rfl) ?_
      simp only [List.take_succ_cons, List.take_zero, List.drop_succ_cons, List.drop_zero]
      change wpStill _ _ wr.drew _ _ _
      repeat still_step
      refine wpStill_nil ?_
      change wpList _ _ _ _ _ wr.drew
      have n0 := block_at h0.out k (.int .u8 ((v ^^^ u : Nat) : Int))
      rw [stA_set _ _ _ _ (by rw [HLEN.out]; exact hlt), HVU.out, upd_set _ _ _ (by rw [HL.out]; exact hlt), ← HVU.out, ← HX.out] at n0
      have N0 := Lib.hid n0
      clear n0 e1 e2 e3 e4 e5 e6
      go_wp2
      go_roundw
      case rel =>
        obtain ⟨Z, hZ, hZ2⟩ := h2.out
        exact ⟨k + 1, by omega, by go_num, N0.out, ⟨Z, hZ, (Below.heap_setCell _ _ _ _ (by simp)).trans hZ2⟩, (hbel.out.setCell (by simp) _).drew⟩
      case measure => simp [intOf]; omega
    · obtain rfl : k = 16 := by omega
      have h3 := h0
      rw [upd_full _ _ 16 HL.out] at h3
      obtain ⟨Z, hZ, hZ2⟩ := h2.out
      have HZ := Lib.hid hZ
      have HZ2 := Lib.hid hZ2
      clear hZ hZ2 h2 hlen
      go_wp2_with (first
        | (refine wpList_load_row rfl 131 (.tmp 4) rfl w.heap.size rfl _ _ _ _ h3.out Try.underlying131 rfl (by rw [st17, stA_size]; simp) ?_)
        | (refine wpList_store_row rfl 131 (.tmp 6) (.tmp 33) rfl (w.heap.size + 1) _ rfl rfl 131 _ HZ2.out (by rw [st17, stA_size]; simp) (by rw [HZ.out, stA_size]; simp) (stA_one _ _) ?_))
      exact bodyPost_ret (results_cell_row rfl _ _ (w.heap.size + 1) 131 (stA (keyL l W r) b) (0, 0) _ rfl (setRow_heap _ _ _ _ _ _ HZ2.out) Try.underlying131 rfl (by rw [st17, stA_size]; simp [keyL])) rfl ⟨rfl, below_setRow hbel.out (by omega) _⟩
end Go.Proofs.Ytinjafacnekkcaa
namespace Go.Proofs.Ytinjafacnekkcaa
open Go Go.RowKit GfM
/-- column q of a state -/
def colOf (l : List Nat) (q : Nat) : Nat → Nat := fun t => l.getD (4 * q + t) 0
def colsF (G : (Nat → Nat) → Nat → Nat) (l : List Nat) : Nat → Nat := fun i => G (colOf l (i / 4)) (i % 4)
def colsL (G : (Nat → Nat) → Nat → Nat) (l : List Nat) : List Nat := (List.range 16).map (colsF G l)
theorem getD_upd (g : Nat → Nat) (l : List Nat) (k i : Nat) (hk : k ≤ i) : (upd g l k).getD i 0 = l.getD i 0 := by
  unfold upd
  rw [List.getD_eq_getElem?_getD, List.getD_eq_getElem?_getD, List.getElem?_append_right (by simp; omega)]; simp; congr 2; omega
theorem range_col (l : List Nat) (b q : Nat) (hl : l.length = 16) (hq : q < 4) {w : World} {g : Nat} (h : w.heap[g]? = some (.cells (stA l b) 131 (0, 0))) : w.rangeAt g (4 * q) (v4 (colOf l q)).toList := by
  intro j v hv
  have hj : j < 4 := by
    have := (List.getElem?_eq_some_iff.1 hv).1; simpa [v4] using this
  rw [cells_at h, stA_get l b _ (by omega)]
  rw [Array.getElem?_toList, v4_get _ j hj] at hv
  exact hv
theorem splice_col (G : (Nat → Nat) → Nat → Nat) (l : List Nat) (b q : Nat) (hl : l.length = 16) (hq : q < 4) :
    (splice (stA (upd (colsF G l) l (4 * q)) b).toList (4 * q) (v4 (G (colOf l q))).toList).toArray = stA (upd (colsF G l) l (4 * (q + 1))) b := by
  match l, hl with
  | [a0, a1, a2, a3, a4, a5, a6, a7, a8, a9, a10, a11, a12, a13, a14, a15], _ =>
    match q, hq with
    | 0, _ => rfl
    | 1, _ => rfl
    | 2, _ => rfl
    | 3, _ => rfl
theorem u8size (w : World) : (sizeOf 5).run Try.prog w = .ok 1 w := by go_simp
theorem slice_kh (w : World) (g k : Nat) (hk : k + 4 ≤ 16) :
    (Instr.sliceAt 22 (.pointer (some ⟨g, 0, none⟩)) (some (.int .i64 (k : Int))) (some (.int .i64 ((k : Int) + 4))) none).run Try.prog w = .ok (.slice (some ⟨g, k, none⟩) 4 (16 - k)) w := by
  have h16 : Try.prog.arrayLen 22 = 16 := by kernel_rfl
  have h8 : Try.prog.elem 22 = 5 := by kernel_rfl
  rw [run_sliceAt_array_lh w 22 ⟨g, 0, none⟩ (by rw [h16, h8]; exact Try.underlying22) .i64 .i64 (k : Int) ((k : Int) + 4) (by omega) (by omega) (by rw [h16]; omega), h8, h16, u8size]
  simp only [Result.andThen, slicedAt]
  rw [if_neg (by omega), Addr.add_mid, show ((k : Int) + 4).toNat - (k : Int).toNat = 4 by omega, show 0 + (k : Int).toNat * 1 = k by omega, show 16 - (k : Int).toNat = 16 - k by omega]
theorem slice_kl (w : World) (g k : Nat) (hk : k < 16) :
    (Instr.sliceAt 22 (.pointer (some ⟨g, 0, none⟩)) (some (.int .i64 (k : Int))) none none).run Try.prog w = .ok (.slice (some ⟨g, k, none⟩) (16 - k) (16 - k)) w := by
  have h16 : Try.prog.arrayLen 22 = 16 := by kernel_rfl
  have h8 : Try.prog.elem 22 = 5 := by kernel_rfl
  rw [run_sliceAt_array_l w 22 ⟨g, 0, none⟩ (by rw [h16, h8]; exact Try.underlying22) .i64 (k : Int) (by omega) (by rw [h16]; omega), h8, h16, u8size]
  simp only [Result.andThen, slicedAt]
  rw [if_neg (by omega), Addr.add_mid, show 0 + (k : Int).toNat * 1 = k by omega, show 16 - (k : Int).toNat = 16 - k by omega]
set_option maxRecDepth 100000 in
set_option maxHeartbeats 4000000 in
theorem columns_c (F : FuncId) (G : (Nat → Nat) → Nat → Nat)
    (hF : ∀ c : Nat → Nat, (∀ j, j < 4 → c j < 256) → ∀ w : World, Calls Try.prog F #[.agg (v4 c)] w fun e w' => e = .returned (.agg (v4 (G c))) ∧ Below w.heap.size w w')
    (hcall : ∀ (x : Value) (w : World), Sem.run Try.prog (callFunc F #[x]) w = .ok (.enter F #[x]) w)
    (l : List Nat) (hl : l.length = 16) (hb : ∀ j, j < 16 → l.getD j 0 < 256) (b : Nat) (w : World) :
    Calls Try.prog 85 #[.agg (stA l b), .func (.func F) #[] #[]] w fun e w' => e = .returned (.agg (stA (colsL G l) b)) ∧ Below w.heap.size w w' := by
  have b0 : ∀ (o1 : Obj), ((w.alloc (Obj.cells (stA l b) 131)).alloc o1).heap[w.heap.size]? = some (.cells (stA (upd (colsF G l) l (4 * 0)) b) 131 (0, 0)) := fun o1 => by
    rw [heap_old' _ _ _ (by simp), heap_new', upd_zero]
  have b2 : ∀ (o0 : Obj) (Z : Array Value), ((w.alloc o0).alloc (Obj.cells Z 131)).heap[w.heap.size + 1]? = some (.cells Z 131 (0, 0)) := fun o0 Z => by
    rw [show w.heap.size + 1 = (w.alloc o0).heap.size by simp, heap_new']
  have B0 := Lib.hid b0
  have B2 := Lib.hid b2
  have HL := Lib.hid hl
  have HV := Lib.hid hb
  have HF := Lib.hid hF
  clear b0 b2 hl hb hF
  go_enter Try.func85, Try.ntmps85
  go_wp2
  go_loopw [5] (fun vi wr => ∃ q : Nat, q ≤ 4 ∧ vi = .int .i64 ((4 * q : Nat) : Int) ∧ Hid (wr.heap[w.heap.size]? = some (.cells (stA (upd (colsF G l) l (4 * q)) b) 131 (0, 0))) ∧ Hid (∃ Z, Z.size = 17 ∧ wr.heap[w.heap.size + 1]? = some (.cells Z 131 (0, 0))) ∧ Hid (Below w.heap.size w wr)) (fun vi _ => 16 - (intOf vi).toNat)
  case atStart => exact ⟨0, by omega, rfl, B0.out _, ⟨_, rfl, B2.out _ _⟩, (((Below.refl _ _).alloc (Nat.le_refl _) _).alloc (by simp) _)⟩
  case round =>
    clear B0 B2
    obtain ⟨q, hq, rfl, h0, h2, hbel⟩ := hrel
    have hlen : (upd (colsF G l) l (4 * q)).length = 16 := by rw [upd_len _ _ _ (by rw [HL.out]; omega), HL.out]
    by_cases hlt : q < 4
    · have hr := range_col _ b q hlen hlt h0.out
      obtain ⟨k, hk⟩ : ∃ k, k = 4 * q := ⟨_, rfl⟩
      rw [← hk] at hr
      rw [← hk]
      have hk16 : k + 4 ≤ 16 := by omega
      have hcc : colOf (upd (colsF G l) l k) q = colOf l q := by
        funext t; unfold colOf; rw [getD_upd _ _ _ _ (by omega)]
      rw [hcc] at hr
      have HR := Lib.hid hr
      have HK := Lib.hid hk
      have HLEN := Lib.hid hlen
      clear hr hcc hlen
      have hcl : Hid (∀ w : World, Calls Try.prog F #[.agg (v4 (colOf l q))] w fun e w' => e = .returned (.agg (v4 (G (colOf l q)))) ∧ Below w.heap.size w w') := fun w => HF.out _ (fun j hj => HV.out _ (by omega)) w
      have ha : ∀ w' cap, (Instr.arrayAt 61 (.slice (some ⟨w.heap.size, k, none⟩) 4 cap)).run Try.prog w' = .ok (.pointer (some ⟨w.heap.size, k, none⟩)) w' := fun w' cap => run_arrayAt w' 61 5 4 _ 4 cap Try.underlying61 (by omega)
      have hs1 := fun w' => slice_kh w' w.heap.size k (by omega)
      have hs2 := fun w' => slice_kl w' w.heap.size k (by omega)
      clear hk
      go_wp2_with (first
        | (refine wpList_load_mid rfl 61 (.tmp 17) rfl w.heap.size k rfl _ _ HR.out Try.underlying61 rfl (by rw [four4]; simp [v4]) ?_)
        | fail)
      refine (hcl.out _).mono ?_
      rintro e w1 ⟨rfl, hb1⟩
      have hwl := lt_of_block h0.out
      have g0 := (hb1.block _ hwl).trans h0.out
      obtain ⟨Z, hZ, hZ2⟩ := h2.out
      have g2 := (hb1.block _ (lt_of_block hZ2)).trans hZ2
      have hbel1 := hbel.out.trans (hb1.mono (by omega))
      have G0 := Lib.hid g0
      have G2 := Lib.hid g2
      have HZ := Lib.hid hZ
      have HBL := Lib.hid hbel1
      have HWL : Hid (w.heap.size < wr.heap.size ∧ w.heap.size + 1 < w1.heap.size) := ⟨hwl, lt_of_block g2⟩
      clear hwl g0 g2 hZ hZ2 hbel1 h0 h2 hb1 hbel hs1 ha
      go_wp2_with (first
        | (refine wpList_store_row rfl 61 (.tmp 6) (.tmp 19) rfl w1.heap.size _ rfl rfl 61 _ (heap_new' _ _) (by rw [four4]; rfl) rfl (v4_one _) ?_)
        | fail)
      have n0 : ((w1.alloc (Obj.cells #[.int .u8 0, .int .u8 0, .int .u8 0, .int .u8 0] 61)).setRow w1.heap.size (v4 (G (colOf l q)))).heap[w.heap.size]? = some (.cells (stA (upd (colsF G l) l (4 * q)) b) 131 (0, 0)) := by
        rw [setRow_other _ _ _ _ (by have := HWL.out; omega), heap_old' _ _ _ (by have := HWL.out; omega)]; exact G0.out
      have n2 : ((w1.alloc (Obj.cells #[.int .u8 0, .int .u8 0, .int .u8 0, .int .u8 0] 61)).setRow w1.heap.size (v4 (G (colOf l q)))).heap[w.heap.size + 1]? = some (.cells Z 131 (0, 0)) := by
        rw [setRow_other _ _ _ _ (by have := HWL.out; omega), heap_old' _ _ _ (by have := HWL.out; omega)]; exact G2.out
      have n6 := setRow_heap _ _ _ (v4 (G (colOf l q))) _ _ (heap_new' w1 (Obj.cells #[.int .u8 0, .int .u8 0, .int .u8 0, .int .u8 0] 61))
      have nb := below_setRow (HBL.out.alloc (by have := HWL.out; omega) (Obj.cells #[.int .u8 0, .int .u8 0, .int .u8 0, .int .u8 0] 61)) (by have := HWL.out; omega : w.heap.size ≤ w1.heap.size) (v4 (G (colOf l q)))
      generalize ((w1.alloc (Obj.cells #[.int .u8 0, .int .u8 0, .int .u8 0, .int .u8 0] 61)).setRow w1.heap.size (v4 (G (colOf l q)))) = W2 at *
      have N0 := Lib.hid n0
      have N2 := Lib.hid n2
      have N6 := Lib.hid n6
      have NB := Lib.hid nb
      have HQ := Lib.hid hlt
      clear n0 n2 n6 nb G0 G2 HBL hcl HR
      refine wp_region_still_tail 4 (by kernel_rfl) (by kernel_rfl) ?_
      simp only [List.take_succ_cons, List.take_zero, List.drop_succ_cons, List.drop_zero]
      change wpStill _ _ W2.drew _ _ _
      repeat still_step
      refine wpStill_nil ?_
      change wpList _ _ _ _ _ W2.drew
      refine wpList_copy_own rfl (.tmp 22) (.tmp 23) 29 29 rfl 5 Try.underlying29 (by kernel_rfl) w.heap.size k (16 - k) (16 - k) ⟨w1.heap.size, 0, none⟩ 4 4 rfl rfl (stA (upd (colsF G l) l (4 * q)) b) 131 N0.out (v4 (G (colOf l q))).toList ?_ ?_ ?_ ?_ ?_
      · exact (Nat.min_eq_left (by omega : 4 ≤ 16 - k)).symm
      · intro j v hv
        rw [Addr.add_mid, Nat.zero_add]
        rw [Array.getElem?_toList] at hv
        exact (cells_at N6.out j).trans hv
      · simp [stA_size, HLEN.out, v4]; omega
      · exact fun v hv => by simp [v4] at hv; rcases hv with rfl | rfl | rfl | rfl <;> rfl
      have m0 : (W2.drew.setRow w.heap.size ((stA (upd (colsF G l) l (4 * q)) b).toList.take k ++ ((v4 (G (colOf l q))).toList ++ (stA (upd (colsF G l) l (4 * q)) b).toList.drop (k + (v4 (G (colOf l q))).toList.length))).toArray).heap[w.heap.size]? = some (.cells (stA (upd (colsF G l) l (4 * (q + 1))) b) 131 (0, 0)) := by
        refine (setRow_heap W2.drew _ _ _ _ _ N0.out).trans ?_
        rw [← splice_col G l b q HL.out HQ.out, ← HK.out]; rfl
      have m2 : (W2.drew.setRow w.heap.size ((stA (upd (colsF G l) l (4 * q)) b).toList.take k ++ ((v4 (G (colOf l q))).toList ++ (stA (upd (colsF G l) l (4 * q)) b).toList.drop (k + (v4 (G (colOf l q))).toList.length))).toArray).heap[w.heap.size + 1]? = some (.cells Z 131 (0, 0)) :=
        (setRow_other _ _ _ _ (by omega)).trans N2.out
      have mb := below_setRow NB.out.drew (Nat.le_refl _) ((stA (upd (colsF G l) l (4 * q)) b).toList.take k ++ ((v4 (G (colOf l q))).toList ++ (stA (upd (colsF G l) l (4 * q)) b).toList.drop (k + (v4 (G (colOf l q))).toList.length))).toArray
      generalize (W2.drew.setRow w.heap.size ((stA (upd (colsF G l) l (4 * q)) b).toList.take k ++ ((v4 (G (colOf l q))).toList ++ (stA (upd (colsF G l) l (4 * q)) b).toList.drop (k + (v4 (G (colOf l q))).toList.length))).toArray) = W3 at *
      have M0 := Lib.hid m0
      have M2 := Lib.hid m2
      have MB := Lib.hid mb
      clear m0 m2 mb N0 N2 N6 NB
      go_wp2
      go_roundw
      case rel => exact ⟨q + 1, by have := HQ.out; omega, by have := HK.out; go_num, M0.out, ⟨Z, HZ.out, M2.out⟩, MB.out⟩
      case measure => simp [intOf]; omega
    · obtain rfl : q = 4 := by omega
      have h3 := h0
      rw [upd_full _ _ 16 HL.out] at h3
      obtain ⟨Z, hZ, hZ2⟩ := h2.out
      have HZ := Lib.hid hZ
      have HZ2 := Lib.hid hZ2
      clear hZ hZ2 h2 hlen
      go_wp2_with (first
        | (refine wpList_load_row rfl 131 (.tmp 2) rfl w.heap.size rfl _ _ _ _ h3.out Try.underlying131 rfl (by rw [st17, stA_size]; simp) ?_)
        | (refine wpList_store_row rfl 131 (.tmp 4) (.tmp 25) rfl (w.heap.size + 1) _ rfl rfl 131 _ HZ2.out (by rw [st17, stA_size]; simp) (by rw [HZ.out, stA_size]; simp) (stA_one _ _) ?_))
      exact bodyPost_ret (results_cell_row rfl _ _ (w.heap.size + 1) 131 (stA (colsL G l) b) (0, 0) _ rfl (setRow_heap _ _ _ _ _ _ HZ2.out) Try.underlying131 rfl (by rw [st17, stA_size]; simp [colsL])) rfl ⟨rfl, below_setRow hbel.out (by omega) _⟩
end Go.Proofs.Ytinjafacnekkcaa
namespace Go.Proofs.Ytinjafacnekkcaa
open Go Go.RowKit GfM
theorem call_Mix (x : Value) (w : World) : Sem.run Try.prog (callFunc 86 #[x]) w = .ok (.enter 86 #[x]) w := by
  go_simp
def smixL (l : List Nat) : List Nat := colsL mixN l
set_option maxRecDepth 100000 in
set_option maxHeartbeats 2000000 in
theorem smix_c (l : List Nat) (hl : l.length = 16) (hb : ∀ j, j < 16 → l.getD j 0 < 256) (b : Nat) (w : World) :
    Calls Try.prog 77 #[.agg (stA l b)] w fun e w' => e = .returned (.agg (stA (smixL l) b)) ∧ Below w.heap.size w w' := by
  have HM := Lib.hid (fun w => columns_c 86 mixN mix_c call_Mix l hl hb b w)
  have HL := Lib.hid hl
  have B0 : Hid (∀ (o1 : Obj), ((w.alloc (Obj.cells (stA l b) 131)).alloc o1).heap[w.heap.size]? = some (.cells (stA l b) 131 (0, 0))) := fun o1 => by
    rw [heap_old' _ _ _ (by simp), heap_new']
  have B2 : Hid (∀ (o0 : Obj) (Z : Array Value), ((w.alloc o0).alloc (Obj.cells Z 131)).heap[w.heap.size + 1]? = some (.cells Z 131 (0, 0))) := fun o0 Z => by
    rw [show w.heap.size + 1 = (w.alloc o0).heap.size by simp, heap_new']
  clear hl hb
  go_enter Try.func77, Try.ntmps77
  go_wp2_with (first
        | (refine wpList_load_row rfl 131 (.tmp 1) rfl w.heap.size rfl _ _ _ _ (B0.out _) Try.underlying131 rfl (by rw [st17, stA_size, HL.out]) ?_)
        | fail)
  refine (HM.out _).mono ?_
  rintro e w1 ⟨rfl, hb1⟩
  have h2 := (hb1.block (w.heap.size + 1) (by simp)).trans (B2.out _ _)
  have HB : Hid (Below w.heap.size w w1) := (((Below.refl _ _).alloc (Nat.le_refl _) _).alloc (by simp) _).trans (hb1.mono (by simp; omega))
  have H2 := Lib.hid h2
  clear h2 hb1 B0 B2 HM
  go_wp2_with (first
        | (refine wpList_store_row rfl 131 (.tmp 2) (.tmp 4) rfl (w.heap.size + 1) _ rfl rfl 131 _ H2.out (by rw [st17, stA_size]; simp [colsL]) (by simp [stA_size, colsL]) (stA_one _ _) ?_)
        | fail)
  exact bodyPost_ret (results_cell_row rfl _ _ (w.heap.size + 1) 131 (stA (smixL l) b) (0, 0) _ rfl (setRow_heap _ _ _ _ _ _ H2.out) Try.underlying131 rfl (by rw [st17, stA_size]; simp [smixL, colsL])) rfl ⟨rfl, below_setRow HB.out (by omega) _⟩
/-- sixteen bytes -/
def By (l : List Nat) : Prop := l.length = 16 ∧ ∀ j, j < 16 → l.getD j 0 < 256
theorem by_map (g : Nat → Nat) (h : ∀ k, k < 16 → g k < 256) : By ((List.range 16).map g) :=
  ⟨by simp, fun j hj => by simp [hj]; exact h j hj⟩
/-- a step of a state -/
structure Stp (F : FuncId) (G : List Nat → List Nat) : Prop where
  walk : ∀ (l : List Nat), By l → ∀ (b : Nat) (w : World), IsBox w b → Calls Try.prog F #[.agg (stA l b)] w fun e w' => e = .returned (.agg (stA (G l) b)) ∧ Below w.heap.size w w'
  okay : ∀ l, By l → By (G l)
  call : ∀ (x : Value) (w : World), Sem.run Try.prog (callFunc F #[x]) w = .ok (.enter F #[x]) w
def stps (Fs : List (FuncId × (List Nat → List Nat))) (k : Nat) (l : List Nat) : List Nat := (Fs.take k).foldl (fun l p => p.2 l) l
theorem stps_by (Fs : List (FuncId × (List Nat → List Nat))) (hF : ∀ p ∈ Fs, Stp p.1 p.2) (l : List Nat) (hl : By l) : ∀ k, By (stps Fs k l) := by
  intro k
  unfold stps
  have : ∀ p ∈ Fs.take k, Stp p.1 p.2 := fun p hp => hF p (List.mem_of_mem_take hp)
  generalize Fs.take k = Gs at this
  induction Gs generalizing l with
  | nil => exact hl
  | cons p Gs ih =>
    rw [List.foldl_cons]
    exact ih (p.2 l) ((this p (by simp)).okay l hl) fun q hq => this q (by simp [hq])
theorem stps_next (Fs : List (FuncId × (List Nat → List Nat))) (k : Nat) (hk : k < Fs.length) (l : List Nat) : stps Fs (k + 1) l = Fs[k].2 (stps Fs k l) := by
  unfold stps; rw [List.take_succ_eq_append_getElem hk, List.foldl_append]; rfl
def fnV (Fs : List (FuncId × (List Nat → List Nat))) : Array Value := (Fs.map fun p => Value.func (.func p.1) #[] #[]).toArray
set_option maxRecDepth 100000 in
set_option maxHeartbeats 4000000 in
theorem all_c (Fs : List (FuncId × (List Nat → List Nat))) (hF : ∀ p ∈ Fs, Stp p.1 p.2) (hn : Fs.length < 100) (l : List Nat) (hl : By l) (b : Nat) (w : World) (hB : IsBox w b) (p : Nat) (t : TypeId) (hp : w.heap[p]? = some (.cells (fnV Fs) t (0, 0))) :
    Calls Try.prog 74 #[.agg (stA l b), .slice (some ⟨p, 0, none⟩) Fs.length Fs.length] w fun e w' => e = .returned (.agg (stA (stps Fs Fs.length l) b)) ∧ Below w.heap.size w w' := by
  have HF := Lib.hid hF
  have HL := Lib.hid hl
  have HB := Lib.hid hB
  have HP := Lib.hid hp
  have B0 : Hid (∀ (o1 : Obj), ((w.alloc (Obj.cells (stA l b) 131)).alloc o1).heap[w.heap.size]? = some (.cells (stA (stps Fs 0 l) b) 131 (0, 0))) := fun o1 => by
    rw [heap_old' _ _ _ (by simp), heap_new']; rfl
  have B2 : Hid (∀ (o0 : Obj) (Z : Array Value), ((w.alloc o0).alloc (Obj.cells Z 131)).heap[w.heap.size + 1]? = some (.cells Z 131 (0, 0))) := fun o0 Z => by
    rw [show w.heap.size + 1 = (w.alloc o0).heap.size by simp, heap_new']
  clear hF hl hB hp
  obtain ⟨n, hnn⟩ : ∃ n, n = Fs.length := ⟨_, rfl⟩
  have HN := Lib.hid hnn
  rw [← hnn]
  rw [← hnn] at hn
  clear hnn
  go_enter Try.func74, Try.ntmps74
  go_wp2
  go_loopw [9] (fun vi wr => ∃ k : Nat, k ≤ n ∧ vi = .int .i64 (k : Int) ∧ Hid (wr.heap[w.heap.size]? = some (.cells (stA (stps Fs k l) b) 131 (0, 0))) ∧ Hid (∃ Z, Z.size = 17 ∧ wr.heap[w.heap.size + 1]? = some (.cells Z 131 (0, 0))) ∧ Hid (Below w.heap.size w wr)) (fun vi _ => n - (intOf vi).toNat)
  case atStart => exact ⟨0, by omega, rfl, B0.out _, ⟨_, rfl, B2.out _ _⟩, (((Below.refl _ _).alloc (Nat.le_refl _) _).alloc (by simp) _)⟩
  case round =>
    clear B0 B2
    obtain ⟨k, hk, rfl, h0, h2, hbel⟩ := hrel
    have hby := stps_by Fs HF.out l HL.out k
    have HBY := Lib.hid hby
    clear hby
    by_cases hlt : k < n
    · have hk2 : k < Fs.length := by rw [← HN.out]; exact hlt
      obtain ⟨q, hq⟩ : ∃ q, q = Fs[k] := ⟨_, rfl⟩
      obtain ⟨F, G⟩ := q
      have hS : Stp F G := by have := HF.out Fs[k] (List.getElem_mem _); rw [← hq] at this; exact this
      have hcall := hS.call
      have HW : Hid (∀ w, IsBox w b → Calls Try.prog F #[.agg (stA (stps Fs k l) b)] w fun e w' => e = .returned (.agg (stA (G (stps Fs k l)) b)) ∧ Below w.heap.size w w') := fun w h => hS.walk _ HBY.out b w h
      have hnx := stps_next Fs k hk2 l
      rw [← hq] at hnx
      have c0 : wr.cell? ⟨p, k, none⟩ = some (.func (.func F) #[] #[]) := by
        rw [cells_at ((hbel.out.block p (lt_of_block HP.out)).trans HP.out) k]
        unfold fnV
        rw [List.getElem?_toArray, List.getElem?_map, List.getElem?_eq_getElem hk2, ← hq]; rfl
      have HNX := Lib.hid hnx
      have HBX : Hid (IsBox wr b) := HB.out.later hbel.out HB.out.lt
      have hd : decide ((k : Int) < (n : Int)) = true := by simp; omega
      clear hS hnx hq
      go_wp2_with (first
        | (refine wpList_load_row rfl 131 (.tmp 2) rfl w.heap.size rfl _ _ _ _ h0.out Try.underlying131 rfl (by rw [st17, stA_size, HBY.out.1]) ?_)
        | fail)
      refine (HW.out _ HBX.out).mono ?_
      rintro e w1 ⟨rfl, hb1⟩
      have g0 := (hb1.block _ (lt_of_block h0.out)).trans h0.out
      obtain ⟨Z, hZ, hZ2⟩ := h2.out
      have g2 := (hb1.block _ (lt_of_block hZ2)).trans hZ2
      have HB1 : Hid (Below w.heap.size w w1) := hbel.out.trans (hb1.mono (by have := lt_of_block h0.out; omega))
      have G0 := Lib.hid g0
      have G2 := Lib.hid g2
      have HZ := Lib.hid hZ
      have HG : Hid (By (G (stps Fs k l))) := by rw [← HNX.out]; exact stps_by Fs HF.out l HL.out (k + 1)
      clear h0 h2 g0 g2 hbel hb1 hZ hZ2
      go_wp2_with (first
        | (refine wpList_store_row rfl 131 (.tmp 2) (.tmp 15) rfl w.heap.size _ rfl rfl 131 _ G0.out (by rw [st17, stA_size, HG.out.1]) (by rw [stA_size, stA_size, HG.out.1, HBY.out.1]) (stA_one _ _) ?_)
        | fail)
      go_roundw
      case rel => exact ⟨k + 1, by omega, by go_num, by rw [HNX.out]; exact setRow_heap _ _ _ _ _ _ G0.out, ⟨Z, HZ.out, (setRow_other _ _ _ _ (by omega)).trans G2.out⟩, below_setRow HB1.out (Nat.le_refl _) _⟩
      case measure => simp [intOf]; omega
    · obtain rfl : k = n := by omega
      obtain ⟨Z, hZ, hZ2⟩ := h2.out
      have HZ := Lib.hid hZ
      have HZ2 := Lib.hid hZ2
      clear hZ hZ2 h2
      go_wp2_with (first
        | (refine wpList_load_row rfl 131 (.tmp 2) rfl w.heap.size rfl _ _ _ _ h0.out Try.underlying131 rfl (by rw [st17, stA_size, HBY.out.1]) ?_)
        | (refine wpList_store_row rfl 131 (.tmp 4) (.tmp 17) rfl (w.heap.size + 1) _ rfl rfl 131 _ HZ2.out (by rw [st17, stA_size, HBY.out.1]) (by rw [HZ.out, stA_size, HBY.out.1]) (stA_one _ _) ?_))
      exact bodyPost_ret (results_cell_row rfl _ _ (w.heap.size + 1) 131 (stA (stps Fs k l) b) (0, 0) _ rfl (setRow_heap _ _ _ _ _ _ HZ2.out) Try.underlying131 rfl (by rw [st17, stA_size, HBY.out.1])) rfl ⟨by rw [HN.out], below_setRow hbel.out (by omega) _⟩
theorem stp_sub : Stp 75 ssubL := ⟨fun l h b w hB => ssub_c l h.1 h.2 b w hB, fun l h => by_map _ fun k hk => sbx_lt _ (h.2 k hk), fun x w => by go_simp⟩
theorem stp_shift : Stp 76 shiftL := ⟨fun l h b w hB => shift_c l h.1 b w, fun l h => by_map _ fun k hk => h.2 _ (by unfold sig; omega), fun x w => by go_simp⟩
theorem stp_mix : Stp 77 smixL := ⟨fun l h b w hB => smix_c l h.1 h.2 b w, fun l h => by_map _ fun k hk => mixN_lt _ (fun j hj => h.2 _ (by omega)) _ (by omega), fun x w => by go_simp⟩
end Go.Proofs.Ytinjafacnekkcaa
