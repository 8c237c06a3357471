/- Texts RefA, RefM, put together by pack.py. -/
import Derived.Test.YtinjafacnekkcaaSPi
set_option linter.unusedVariables false
set_option linter.unusedSimpArgs false
namespace Go.Proofs.Ytinjafacnekkcaa
open Go Go.RowKit GfM
def tr (k : Nat) : Nat := k % 4 * 4 + k / 4
theorem tr_lt (k : Nat) (h : k < 16) : tr k < 16 := by unfold tr; omega
theorem tr_tr (k : Nat) (h : k < 16) : tr (tr k) = k := by unfold tr; omega
/-- the square of sixteen bytes, row by row -/
def sqL (l : List Nat) : List Nat := (List.range 16).map fun i => l.getD (tr i) 0
theorem sqL_len (l : List Nat) : (sqL l).length = 16 := by simp [sqL]
theorem sqL_get (l : List Nat) (i : Nat) (h : i < 16) : (sqL l).getD i 0 = l.getD (tr i) 0 := by simp [sqL, h]
theorem getD_set (l : List Nat) (i j v : Nat) (h : i < l.length) : (l.set i v).getD j 0 = if i = j then v else l.getD j 0 := by
  rw [List.getD_eq_getElem?_getD, List.getElem?_set, List.getD_eq_getElem?_getD]
  by_cases e : i = j
  · subst e; simp [h]
  · simp [e]
theorem sqL_set (M : List Nat) (hM : M.length = 16) (k v : Nat) (hk : k < 16) : (sqL M).set (tr k) v = sqL (M.set k v) := by
  apply ext16 (by simp [sqL]) (sqL_len _)
  intro i hi
  rw [getD_set _ _ _ _ (by rw [sqL_len]; exact tr_lt k hk), sqL_get _ i hi, sqL_get _ i hi, getD_set _ _ _ _ (by omega)]
  by_cases e : tr k = i
  · rw [if_pos e, if_pos (by rw [← e, tr_tr k hk])]
  · rw [if_neg e, if_neg (fun h => e (by rw [h, tr_tr i hi]))]
theorem mix_ref (c : Nat → Nat) (hc : ∀ j, j < 4 → c j < 256) (j : Nat) (hj : j < 4) :
    mixN c j = tw (c j) ^^^ tw (c ((j + 1) % 4)) ^^^ c ((j + 1) % 4) ^^^ c ((j + 2) % 4) ^^^ c ((j + 3) % 4) := by
  unfold mixN
  have ht := tw_xor (c j) (c ((j + 1) % 4)) (hc j hj) (hc _ (by omega))
  rw [ht]
  generalize tw (c j) = a
  generalize tw (c ((j + 1) % 4)) = b
  have hcase : j = 0 ∨ j = 1 ∨ j = 2 ∨ j = 3 := by omega
  rcases hcase with rfl | rfl | rfl | rfl <;> simp only [Nat.reduceAdd, Nat.reduceMod] <;>
    (apply Nat.eq_of_testBit_eq; intro i; simp only [Nat.testBit_xor]; cases (c 0).testBit i <;> cases (c 1).testBit i <;> cases (c 2).testBit i <;> cases (c 3).testBit i <;> cases a.testBit i <;> cases b.testBit i <;> rfl)
/-- the reference's cipher in memory -/
structure RCip (w : World) (c g n cap r : Nat) (W : List Nat) : Prop where
  fcells : ∃ A, w.heap[c]? = some (.cells A 57 (0, 0)) ∧ (∀ j, j < 256 → A[j]? = some (.int .u8 ((sbx j : Nat) : Int))) ∧ (∀ j, j < 256 → A[256 + j]? = some (.int .u8 ((tw j : Nat) : Int))) ∧
    A[512]? = some (.slice (some ⟨g, 0, none⟩) n cap) ∧ A[513]? = some (.int .i64 (r : Int))
  flen : W.length = 4 * n
  fcap : n ≤ cap
  fcapm : cap ≤ maxLen
  fwords : ∃ A, w.heap[g]? = some (.cells A 61 (0, 0)) ∧ A.size = 4 * cap ∧ ∀ k, k < W.length → A[k]? = some (.int .u8 ((W.getD k 0 : Nat) : Int))
  fbyte : ∀ x ∈ W, x < 256
theorem RCip.lt {w : World} {c g n cap r : Nat} {W : List Nat} (h : RCip w c g n cap r W) : c < w.heap.size ∧ g < w.heap.size := by
  obtain ⟨⟨A, h1, _⟩, _, _, _, ⟨B, h4, _⟩, _⟩ := h
  exact ⟨lt_of_block h1, lt_of_block h4⟩
theorem RCip.up {w w' : World} {c g n cap r B : Nat} {W : List Nat} (h : RCip w c g n cap r W) (hb : Below B w w') (hB : w.heap.size ≤ B) : RCip w' c g n cap r W := by
  obtain ⟨l1, l2⟩ := h.lt
  obtain ⟨⟨A, h1, hr⟩, h2, h3, h3b, ⟨A', h4, h5⟩, h6⟩ := h
  exact ⟨⟨A, (hb.block c (by omega)).trans h1, hr⟩, h2, h3, h3b, ⟨A', (hb.block g (by omega)).trans h4, h5⟩, h6⟩
theorem RCip.bx {w : World} {c g n cap r : Nat} {W : List Nat} (h : RCip w c g n cap r W) (j : Nat) (hj : j < 256) : w.cell? ⟨c, j, none⟩ = some (.int .u8 ((sbx j : Nat) : Int)) := by
  obtain ⟨⟨A, h1, h2, _⟩, _⟩ := h
  exact (cells_at h1 j).trans (h2 j hj)
theorem RCip.tw {w : World} {c g n cap r : Nat} {W : List Nat} (h : RCip w c g n cap r W) (j : Nat) (hj : j < 256) : w.cell? ⟨c, 256 + j, none⟩ = some (.int .u8 ((GfM.tw j : Nat) : Int)) := by
  obtain ⟨⟨A, h1, _, h2, _⟩, _⟩ := h
  exact (cells_at h1 _).trans (h2 j hj)
theorem RCip.ws {w : World} {c g n cap r : Nat} {W : List Nat} (h : RCip w c g n cap r W) : w.cell? ⟨c, 512, none⟩ = some (.slice (some ⟨g, 0, none⟩) n cap) := by
  obtain ⟨⟨A, h1, _, _, h2, _⟩, _⟩ := h
  exact (cells_at h1 _).trans h2
theorem RCip.rs {w : World} {c g n cap r : Nat} {W : List Nat} (h : RCip w c g n cap r W) : w.cell? ⟨c, 513, none⟩ = some (.int .i64 (r : Int)) := by
  obtain ⟨⟨A, h1, _, _, _, h2⟩, _⟩ := h
  exact (cells_at h1 _).trans h2
theorem RCip.wd {w : World} {c g n cap r : Nat} {W : List Nat} (h : RCip w c g n cap r W) (k : Nat) (hk : k < W.length) : w.cell? ⟨g, k, none⟩ = some (.int .u8 ((W.getD k 0 : Nat) : Int)) := by
  obtain ⟨_, _, _, _, ⟨A, h4, _, h5⟩, _⟩ := h
  exact (cells_at h4 k).trans (h5 k hk)
end Go.Proofs.Ytinjafacnekkcaa
namespace Go.Proofs.Ytinjafacnekkcaa
open Go Go.RowKit GfM
theorem sq16n : (Try.prog.info? 118).map (·.size) = some 16 := by kernel_rfl
theorem sq_zero : sqL (List.replicate 16 0) = List.replicate 16 0 := by decide
/-- what the reference puts at number i of the bytes -/
def rmixF (L : List Nat) (i : Nat) : Nat := mixN (colOf L (i / 4)) (i % 4)
theorem smix_rmix (L : List Nat) : (List.range 16).map (rmixF L) = smixL L := rfl
theorem tr_rk (r k : Nat) (hr : r < 4) (hk : k < 4) : tr (r * 4 + k) = 4 * k + r := by unfold tr; omega
theorem tr_kr (r k : Nat) (hr : r < 4) (hk : k < 4) : tr (4 * k + r) = r * 4 + k := by unfold tr; omega
theorem sq_at (L : List Nat) (r k : Nat) (hr : r < 4) (hk : k < 4) : (sqL L).getD (r * 4 + k) 0 = L.getD (4 * k + r) 0 := by
  rw [sqL_get _ _ (by omega), tr_rk r k hr hk]
theorem sq_cell {w : World} {b : Nat} {t : TypeId} {z : Nat × Nat} {L : List Nat} (h : w.heap[b]? = some (.cells (bA (sqL L)) t z)) (r k : Nat) (hr : r < 4) (hk : k < 4) : w.cell? ⟨b, r * 4 + k, none⟩ = some (.int .u8 ((L.getD (4 * k + r) 0 : Nat) : Int)) := by
  rw [cells_at h, bA_get _ _ (by rw [sqL_len]; omega), sq_at L r k hr hk]
theorem sq_store (M : List Nat) (hM : M.length = 16) (r k v : Nat) (hr : r < 4) (hk : k < 4) : (bA (sqL M)).setIfInBounds (r * 4 + k) (.int .u8 (v : Int)) = bA (sqL (M.set (4 * k + r) v)) := by
  rw [bA_set, ← tr_kr r k hr hk, sqL_set M hM _ v (by omega)]
theorem u8lt {a b : Nat} (ha : a < 256) (hb : b < 256) : a ^^^ b < 256 := GfM.xor_lt a b ha hb
set_option maxRecDepth 100000 in
set_option maxHeartbeats 8000000 in
theorem rmix_c (c g n cap rd : Nat) (W L : List Nat) (hL : By L) (w : World) (hC : RCip w c g n cap rd W) :
    Calls Try.prog 61 #[.pointer (some ⟨c, 0, none⟩), .agg (bA (sqL L))] w fun e w' => e = .returned (.agg (bA (sqL (smixL L)))) ∧ Below w.heap.size w w' := by
  have HL := Lib.hid hL
  have HC := Lib.hid hC
  have b0 : ∀ (o1 o2 : Obj), (((w.alloc (Obj.cells (bA (sqL L)) 118)).alloc o1).alloc o2).heap[w.heap.size]? = some (.cells (bA (sqL L)) 118 (0, 0)) := fun o1 o2 => by
    rw [heap_old' _ _ _ (by simp <;> omega), heap_old' _ _ _ (by simp), heap_new']
  have b1 : ∀ (o0 o2 : Obj) (Z : Array Value), (((w.alloc o0).alloc (Obj.cells Z 118)).alloc o2).heap[w.heap.size + 1]? = some (.cells Z 118 (0, 0)) := fun o0 o2 Z => by
    rw [heap_old' _ _ _ (by simp), show w.heap.size + 1 = (w.alloc o0).heap.size by simp, heap_new']
  have b2 : ∀ (o0 o1 : Obj), (((w.alloc o0).alloc o1).alloc (Obj.cells #[.int .u8 0, .int .u8 0, .int .u8 0, .int .u8 0, .int .u8 0, .int .u8 0, .int .u8 0, .int .u8 0, .int .u8 0, .int .u8 0, .int .u8 0, .int .u8 0, .int .u8 0, .int .u8 0, .int .u8 0, .int .u8 0] 118)).heap[w.heap.size + 1 + 1]? = some (.cells (bA (sqL (upd (rmixF L) (List.replicate 16 0) 0))) 118 (0, 0)) := fun o0 o1 => by
    rw [upd_zero, sq_zero, show w.heap.size + 1 + 1 = ((w.alloc o0).alloc o1).heap.size by simp, heap_new']; rfl
  have HBW : Hid (∀ (o0 o1 o2 : Obj), Below w.heap.size w (((w.alloc o0).alloc o1).alloc o2)) := fun o0 o1 o2 => (((Below.refl _ _).alloc (Nat.le_refl _) _).alloc (by simp) _).alloc (by simp <;> omega) _
  have B0 := Lib.hid b0
  have B1 := Lib.hid b1
  have B2 := Lib.hid b2
  clear b0 b1 b2 hL hC
  go_enter Try.func61, Try.ntmps61
  go_wp2
  go_loopw [6] (fun vi wr => ∃ k : Nat, k ≤ 4 ∧ vi = .int .i64 (k : Int) ∧ Hid (wr.heap[w.heap.size]? = some (.cells (bA (sqL L)) 118 (0, 0))) ∧ Hid (∃ Z, Z.size = 16 ∧ wr.heap[w.heap.size + 1]? = some (.cells Z 118 (0, 0))) ∧
    Hid (wr.heap[w.heap.size + 1 + 1]? = some (.cells (bA (sqL (upd (rmixF L) (List.replicate 16 0) (4 * k)))) 118 (0, 0))) ∧ Hid (Below w.heap.size w wr)) (fun vi _ => 4 - (intOf vi).toNat)
  case atStart => exact ⟨0, by omega, rfl, B0.out _ _, ⟨_, rfl, B1.out _ _ _⟩, B2.out _ _, HBW.out _ _ _⟩
  case round =>
    clear B0 B1 B2 HBW
    obtain ⟨k, hk, rfl, h0, h1, h2, hbel⟩ := hrel
    by_cases hlt : k < 4
    · have hd : decide ((k : Int) < 4) = true := by simp; omega
      go_wp2
      go_loopw [7] (fun vi wr => ∃ r : Nat, r ≤ 4 ∧ vi = .int .i64 (r : Int) ∧ Hid (wr.heap[w.heap.size]? = some (.cells (bA (sqL L)) 118 (0, 0))) ∧ Hid (∃ Z, Z.size = 16 ∧ wr.heap[w.heap.size + 1]? = some (.cells Z 118 (0, 0))) ∧
        Hid (wr.heap[w.heap.size + 1 + 1]? = some (.cells (bA (sqL (upd (rmixF L) (List.replicate 16 0) (4 * k + r)))) 118 (0, 0))) ∧ Hid (Below w.heap.size w wr)) (fun vi _ => 4 - (intOf vi).toNat)
      case atStart => exact ⟨0, by omega, rfl, h0, h1, h2, hbel⟩
      case round =>
        clear h0 h1 h2 hbel
        obtain ⟨r, hr, rfl, h0, h1, h2, hbel⟩ := hrel
        by_cases hlr : r < 4
        · have hdr : decide ((r : Int) < 4) = true := by simp; omega
          obtain ⟨r1, hr1⟩ : ∃ r1, r1 = (r + 1) % 4 := ⟨_, rfl⟩
          obtain ⟨r2, hr2⟩ : ∃ r2, r2 = (r + 2) % 4 := ⟨_, rfl⟩
          obtain ⟨r3, hr3⟩ : ∃ r3, r3 = (r + 3) % 4 := ⟨_, rfl⟩
          have e1 : IntKind.i64.wrap ((r : Int) + 1) = (r : Int) + 1 := IntWalk.i64_in _ (by omega)
          have e2 : IntKind.i64.wrap ((r : Int) + 2) = (r : Int) + 2 := IntWalk.i64_in _ (by omega)
          have e3 : IntKind.i64.wrap ((r : Int) + 3) = (r : Int) + 3 := IntWalk.i64_in _ (by omega)
          have t1 : ((r : Int) + 1).tmod 4 = (r1 : Int) := by rw [Int.tmod_eq_emod_of_nonneg (by omega)]; omega
          have t2 : ((r : Int) + 2).tmod 4 = (r2 : Int) := by rw [Int.tmod_eq_emod_of_nonneg (by omega)]; omega
          have t3 : ((r : Int) + 3).tmod 4 = (r3 : Int) := by rw [Int.tmod_eq_emod_of_nonneg (by omega)]; omega
          have l1 : (r1 : Int) < 4 := by omega
          have l2 : (r2 : Int) < 4 := by omega
          have l3 : (r3 : Int) < 4 := by omega
          have lr : (r : Int) < 4 := by omega
          have lk : (k : Int) < 4 := by omega
          have q0 := sq_cell h0.out r k hlr hlt
          have q1 := sq_cell h0.out r1 k (by omega) hlt
          have q2 := sq_cell h0.out r2 k (by omega) hlt
          have q3 := sq_cell h0.out r3 k (by omega) hlt
          have hval : rmixF L (4 * k + r) = tw (L.getD (4 * k + r) 0) ^^^ tw (L.getD (4 * k + r1) 0) ^^^ L.getD (4 * k + r1) 0 ^^^ L.getD (4 * k + r2) 0 ^^^ L.getD (4 * k + r3) 0 := by
            unfold rmixF
            rw [show (4 * k + r) / 4 = k by omega, show (4 * k + r) % 4 = r by omega, mix_ref (colOf L k) (fun j hj => HL.out.2 _ (by omega)) r hlr, ← hr1, ← hr2, ← hr3]
            rfl
          have x0l := HL.out.2 (4 * k + r) (by omega)
          have x1l := HL.out.2 (4 * k + r1) (by omega)
          have x2l := HL.out.2 (4 * k + r2) (by omega)
          have x3l := HL.out.2 (4 * k + r3) (by omega)
          generalize L.getD (4 * k + r) 0 = x0 at *
          generalize L.getD (4 * k + r1) 0 = x1 at *
          generalize L.getD (4 * k + r2) 0 = x2 at *
          generalize L.getD (4 * k + r3) 0 = x3 at *
          have hCr := HC.out.up hbel.out (Nat.le_refl _)
          have w0 := hCr.tw x0 x0l
          have w1 := hCr.tw x1 x1l
          have y0l := tw_lt x0 x0l
          have y1l := tw_lt x1 x1l
          generalize tw x0 = y0 at *
          generalize tw x1 = y1 at *
          have g1 : bits BinOp.xor IntKind.u8 (y0 : Int) (y1 : Int) = ((y0 ^^^ y1 : Nat) : Int) := u8x rfl rfl y0l y1l
          have y2l := u8lt y0l y1l
          generalize hy2 : y0 ^^^ y1 = y2 at *
          have g2 : bits BinOp.xor IntKind.u8 (y2 : Int) (x1 : Int) = ((y2 ^^^ x1 : Nat) : Int) := u8x rfl rfl y2l x1l
          have y3l := u8lt y2l x1l
          generalize hy3 : y2 ^^^ x1 = y3 at *
          have g3 : bits BinOp.xor IntKind.u8 (y3 : Int) (x2 : Int) = ((y3 ^^^ x2 : Nat) : Int) := u8x rfl rfl y3l x2l
          have y4l := u8lt y3l x2l
          generalize hy4 : y3 ^^^ x2 = y4 at *
          have g4 : bits BinOp.xor IntKind.u8 (y4 : Int) (x3 : Int) = ((y4 ^^^ x3 : Nat) : Int) := u8x rfl rfl y4l x3l
          generalize hy5 : y4 ^^^ x3 = y5 at *
          have m0 : (x0 : Int) < 256 := by omega
          have m1 : (x1 : Int) < 256 := by omega
          have HVAL := Lib.hid hval
          have hlen : (upd (rmixF L) (List.replicate 16 0) (4 * k + r)).length = 16 := by rw [upd_len _ _ _ (by simp; omega)]; simp
          have f0 := free_at h2.out (r * 4 + k)
          have c0 := (cells_at h2.out (r * 4 + k)).trans (bA_get _ _ (by rw [sqL_len]; omega))
          have n0 := block_at h2.out (r * 4 + k) (.int .u8 (y5 : Int))
          rw [sq_store _ hlen r k y5 hlr hlt, ← hval, upd_set _ _ _ (by simp; omega), hval] at n0
          have N0 := Lib.hid n0
          have hwsz := lt_of_block h2.out
          clear hval hCr hr1 hr2 hr3 hy2 hy3 hy4 hy5 x0l x1l x2l x3l y0l y1l y2l y3l y4l hlen n0
          go_wp2
          go_quiet (fail)
          go_wp2
          refine wp_region_still_tail 35 (by kernel_rfl) (by kernel_rfl) ?_
          simp only [List.take_succ_cons, List.take_zero, List.drop_succ_cons, List.drop_zero]
          change wpStill _ _ (wr.drewN nq).drew _ _ _
          repeat still_step
          refine wpStill_nil ?_
          change wpList _ _ _ _ _ (wr.drewN nq).drew
          go_wp2
          go_roundw
          case rel =>
            obtain ⟨Z, hZ, hZ2⟩ := h1.out
            exact ⟨r + 1, by omega, by go_num, (Below.heap_setCell _ _ _ _ (by simp <;> omega)).trans h0.out, ⟨Z, hZ, (Below.heap_setCell _ _ _ _ (by simp <;> omega)).trans hZ2⟩, N0.out, (below_drewN hbel.out nq).drew.setCell (by simp <;> omega) _⟩
          case measure => simp [intOf]; omega
        · obtain rfl : r = 4 := by omega
          have hdr : decide (((4 : Nat) : Int) < 4) = false := by simp
          have h3 : Hid (wr.heap[w.heap.size + 1 + 1]? = some (.cells (bA (sqL (upd (rmixF L) (List.replicate 16 0) (4 * (k + 1))))) 118 (0, 0))) := by
            have := h2.out
            rw [show 4 * k + 4 = 4 * (k + 1) by omega] at this
            exact this
          clear h2
          go_wp2
          go_roundw
          case rel => exact ⟨k + 1, by omega, by go_num, h0, h1, h3, hbel⟩
          case measure => simp [intOf]; omega
    · obtain rfl : k = 4 := by omega
      have hd : decide (((4 : Nat) : Int) < 4) = false := by simp
      have h3 := h2.out
      rw [show 4 * 4 = 16 by rfl, upd_full _ _ 16 (by simp), smix_rmix] at h3
      obtain ⟨Z, hZ, hZ2⟩ := h1.out
      have HZ := Lib.hid hZ
      have HZ2 := Lib.hid hZ2
      have H3 := Lib.hid h3
      clear hZ hZ2 h2 h3 h1
      go_wp2_with (first
        | (refine wpList_load_row rfl 118 (.tmp 5) rfl (w.heap.size + 1 + 1) rfl _ _ _ _ H3.out Try.underlying118 rfl (by rw [sq16n, bA_size, sqL_len]) ?_)
        | (refine wpList_store_row rfl 118 (.tmp 4) (.tmp 65) rfl (w.heap.size + 1) _ rfl rfl 118 _ HZ2.out (by rw [sq16n, bA_size, sqL_len]) (by rw [HZ.out, bA_size, sqL_len]) (bA_one _) ?_)
        | fail)
      exact bodyPost_ret (results_cell_row rfl _ _ (w.heap.size + 1) 118 (bA (sqL (smixL L))) (0, 0) _ rfl (setRow_heap _ _ _ _ _ _ HZ2.out) Try.underlying118 rfl (by rw [sq16n, bA_size, sqL_len])) rfl ⟨rfl, below_setRow hbel.out (by omega) _⟩
end Go.Proofs.Ytinjafacnekkcaa
