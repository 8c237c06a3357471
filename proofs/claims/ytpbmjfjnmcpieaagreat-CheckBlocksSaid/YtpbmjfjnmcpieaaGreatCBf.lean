/- Texts RCe, FreeG, ChMb, ChSl, ChSm, put together by pack.py. -/
import Derived.Test.YtpbmjfjnmcpieaaGreatCBe
import Derived.Test.YtpbmjfjnmcpieaaGreatCBc
set_option maxRecDepth 100000
set_option maxHeartbeats 16000000
set_option linter.unusedVariables false
set_option linter.unusedSimpArgs false
namespace Go.Proofs.YtpbmjfjnmcpieaaGreat
open Go Go.RowKit
theorem place3R : (Tryz.prog.info? 80).map (·.size) = some 3 := by kernel_rfl
theorem placemay_cR (p s q : Nat) (w : World) :
  Calls Tryz.prog 60 #[.agg (plA p s q)] w fun e w' => e = .returned (.bool (placeB p s q)) /\ Below w.heap.size w w' := by
 have hb : ∀ o : Obj, Below w.heap.size w (w.alloc o) := fun o => below_box w o
 have HB := Lib.hid hb
 clear hb
 have p0 : decide ((p : Int) >= 0) = true := by simp
 have s0 : decide ((s : Int) >= 0) = true := by simp
 obtain ⟨r, hr⟩ : ∃ r, r = placeB p s q := ⟨_, rfl⟩
 rw [<- hr]
 unfold placeB at hr
 show Calls _ _ #[.agg #[.int .i64 (p : Int), .int .i64 (s : Int), .int .u64 (q : Int)]] w _
 by_cases h1 : p < 64
 ·have d1 : decide ((p : Int) <= 63) = true := by simp; omega
  have i1 : (p : Int) <= 63 := by omega
  by_cases h2 : s < 16
  ·have d2 : decide ((s : Int) <= 15) = true := by simp; omega
   have i2 : (s : Int) <= 15 := by omega
   by_cases h3 : 0 < q
   ·have d3 : decide ((q : Int) >= 1) = true := by simp; omega
    have i3 : 1 <= (q : Int) := by omega
    by_cases h4 : q <= 281474976710655
    ·have d4 : decide ((q : Int) <= 281474976710655) = true := by simp; omega
     have i4 : (q : Int) <= 281474976710655 := by omega
     have hr2 : r = true := by rw [hr]; simp; omega
     clear hr h1 h2 h3 h4
     subst hr2
     go_enter Tryz.func60, Tryz.ntmps60
     go_wp2
     go_ret
     exact ⟨rfl, HB.out _⟩
    ·have d4 : decide ((q : Int) <= 281474976710655) = false := by simp; omega
     have i4 : ¬ (q : Int) <= 281474976710655 := by omega
     have hr2 : r = false := by rw [hr]; simp; omega
     clear hr h1 h2 h3 h4
     subst hr2
     go_enter Tryz.func60, Tryz.ntmps60
     go_wp2
     go_ret
     exact ⟨rfl, HB.out _⟩
   ·have d3 : decide ((q : Int) >= 1) = false := by simp; omega
    have i3 : ¬ 1 <= (q : Int) := by omega
    have hr2 : r = false := by rw [hr]; simp; omega
    clear hr h1 h2 h3
    subst hr2
    go_enter Tryz.func60, Tryz.ntmps60
    go_wp2
    go_ret
    exact ⟨rfl, HB.out _⟩
  ·have d2 : decide ((s : Int) <= 15) = false := by simp; omega
   have i2 : ¬ (s : Int) <= 15 := by omega
   have hr2 : r = false := by rw [hr]; simp; omega
   clear hr h1 h2
   subst hr2
   go_enter Tryz.func60, Tryz.ntmps60
   go_wp2
   go_ret
   exact ⟨rfl, HB.out _⟩
 ·have d1 : decide ((p : Int) <= 63) = false := by simp; omega
  have i1 : ¬ (p : Int) <= 63 := by omega
  have hr2 : r = false := by rw [hr]; simp; omega
  clear hr h1
  subst hr2
  go_enter Tryz.func60, Tryz.ntmps60
  go_wp2
  go_ret
  exact ⟨rfl, HB.out _⟩
theorem handles16R : (Tryz.prog.info? 23).map (·.size) = some 16 := by kernel_rfl
theorem roots17R : (Tryz.prog.info? 25).map (·.size) = some 17 := by kernel_rfl
theorem handle1R : (Tryz.prog.info? 22).map (·.size) = some 1 := by kernel_rfl
theorem index_HR (L : List Nat) (h : L.length = 16) (k : Nat) (hk : k < 16) (w : World) : (Instr.index 23 (.agg (L.map fun (n : Nat) => Value.int .u64 (n : Int)).toArray) (.int .i64 (k : Int))).run Tryz.prog w = .ok (.int .u64 ((L.getD k 0 : Nat) : Int)) w := by
 have hn : (0 <= (k : Int) /\ (k : Int) < ((16 : Nat) : Int)) := by omega
 obtain ⟨i, hi, hs⟩ := Option.map_eq_some_iff.1 handle1R
 have hg : L[k]? = some (L.getD k 0) := by
  rw [List.getD_eq_getElem?_getD, List.getElem?_eq_getElem (by omega)]; rfl
 generalize L.getD k 0 = r at *
 simp [Instr.index, run_underlying Tryz.underlying23, asIntOf, hk, go_sem, sizeOf, typeInfo, hi, hs, hg]
theorem roots_formedR (n : Nat) (L : List Nat) (h : L.length = 16) : (Value.agg (rtA n L)).formed Tryz.prog 25 = true := by
 obtain ⟨r0, r1, r2, r3, r4, r5, r6, r7, r8, r9, r10, r11, r12, r13, r14, r15, rfl⟩ := sixteenU h
 kernel_rfl
theorem cellsUR : Tryz.prog.cellsOf 22 = 1 := by kernel_rfl
theorem cellsHHR : Tryz.prog.cellsOf 23 = 16 := by kernel_rfl
theorem cellsRR : Tryz.prog.cellsOf 25 = 17 := by kernel_rfl
theorem roots_litsR (n : Nat) (L : List Nat) (h : L.length = 16) (hn : n < 18446744073709551616) (hL : ∀ x ∈ L, x < 18446744073709551616) : Tryz.prog.keyLits 4 25 (Value.agg (rtA n L)).cells.toList = some (rtLits n L) := by
 obtain ⟨r0, r1, r2, r3, r4, r5, r6, r7, r8, r9, r10, r11, r12, r13, r14, r15, rfl⟩ := sixteenU h
 have hn' := u64_wf n hn
 have hL' : ∀ x ∈ [r0, r1, r2, r3, r4, r5, r6, r7, r8, r9, r10, r11, r12, r13, r14, r15], (Lit.int .u64 ((x : Nat) : Int)).wf = true := fun x hx => u64_wf x (hL x hx)
 simp only [List.forall_mem_cons] at hL'
 have hu : ∀ (k : Int), (Lit.int .u64 k).wf = true -> Tryz.prog.keyLits 1 22 [.int .u64 k] = some [.int .u64 k] := fun k hk => by
  simp [Program.keyLits, Tryz.underlying22, hk]
 have hv : ∀ (k : Int), (Lit.int .u64 k).wf = true -> Tryz.prog.keyLits 2 22 [.int .u64 k] = some [.int .u64 k] := fun k hk => by
  simp [Program.keyLits, Tryz.underlying22, hk]
 simp [rtA, rtLits, Program.keyLits, Value.cells, Tryz.underlying25, Tryz.underlying23, Tryz.underlying22, Tryz.underlying22, cellsUR, cellsUR, cellsHHR, cellsRR, List.range, List.range.loop, hn', hL', hu, hv]
theorem eql_rootsR (n m : Nat) (L M : List Nat) (h : L.length = 16) (h' : M.length = 16) (hn : n < 18446744073709551616) (hm : m < 18446744073709551616) (hL : ∀ x ∈ L, x < 18446744073709551616) (hM : ∀ x ∈ M, x < 18446744073709551616) (w : World) :
  (binOp .eql 25 (.agg (rtA n L)) (.agg (rtA m M))).run Tryz.prog w = .ok (.bool (decide (n = m /\ L = M))) w := by
 obtain ⟨r, hr, hiff⟩ := run_equalIn_deep (P := Tryz.prog) 9996 4 25 (by kernel_rfl) w 4 4 _ _ _ _ (roots_formedR n L h) (roots_formedR m M h') (roots_litsR n L h hn hL) (roots_litsR m M h' hm hM)
 rw [rtLits_inj] at hiff
 rw [run_eql_struct, hr]
 have : r = decide (n = m /\ L = M) := by rw [Bool.eq_iff_iff, hiff]; simp
 rw [this]; rfl
theorem rof_c (h : Nat) (hh : h < 18446744073709551616) (w : World) :
  Calls Tryz.prog 30 #[.int .u64 (h : Int)] w fun e w' => e = .returned (hRes (hOK h) (hPage h) (hSlot h) (hSer h)) /\ Below w.heap.size w w' := by
 obtain ⟨t, ht⟩ : ∃ t, t = h / 281474976710656 := ⟨_, rfl⟩
 obtain ⟨p, hp⟩ : ∃ p, p = hPage h := ⟨_, rfl⟩
 obtain ⟨s, hs⟩ : ∃ s, s = hSlot h := ⟨_, rfl⟩
 obtain ⟨q, hq⟩ : ∃ q, q = hSer h := ⟨_, rfl⟩
 have hp2 : p = t / 256 := by rw [hp, ht, Nat.div_div_eq_div_mul]; rfl
 have hs2 : s = t % 256 := by rw [hs, ht]; rfl
 have hq2 : q = h % 281474976710656 := hq
 have e1 : (h : Int) / 281474976710656 = (t : Int) := by omega
 have e2 : (t : Int) / 256 = (p : Int) := by omega
 have e3 : (t : Int) % 256 = (s : Int) := by omega
 have e4 : (h : Int) % 281474976710656 = (q : Int) := by omega
 have u1 : IntKind.u64.wrap (t : Int) = (t : Int) := by rw [IntKind.wrap_u64]; omega
 have u2 : IntKind.u64.wrap (p : Int) = (p : Int) := by rw [IntKind.wrap_u64]; omega
 have u3 : IntKind.u64.wrap (s : Int) = (s : Int) := by rw [IntKind.wrap_u64]; omega
 have u4 : IntKind.u64.wrap (q : Int) = (q : Int) := by rw [IntKind.wrap_u64]; omega
 have w2 : IntKind.i64.wrap (p : Int) = (p : Int) := IntWalk.i64_in _ (by omega)
 have w3 : IntKind.i64.wrap (s : Int) = (s : Int) := IntWalk.i64_in _ (by omega)
 have HOK : Hid (hOK h = placeB p s q) := by show _ = _; rw [hp, hs, hq]; rfl
 rw [<- hp, <- hs, <- hq, HOK.out]
 have HP := Lib.hid (placemay_cR p s q)
 obtain ⟨r, hr⟩ : ∃ r, r = placeB p s q := ⟨_, rfl⟩
 rw [<- hr] at HP ⊢
 clear hr HOK hp hs hq hp2 hs2 hq2 ht hh
 have hA : Hid (((w.alloc (.cells #[.int .i64 0, .int .i64 0, .int .u64 0] 80)).alloc (.cells #[.int .i64 0, .int .i64 0, .int .u64 0] 80)).heap[w.heap.size]? = some (.cells (plA 0 0 0) 80 (0, 0))) := by
  show _ = _; rw [heap_old' _ _ _ (by simp)]; exact heap_new' _ _
 have hB : Hid (((w.alloc (.cells #[.int .i64 0, .int .i64 0, .int .u64 0] 80)).alloc (.cells #[.int .i64 0, .int .i64 0, .int .u64 0] 80)).heap[w.heap.size + 1]? = some (.cells (plA 0 0 0) 80 (0, 0))) := by
  show _ = _; rw [show w.heap.size + 1 = (w.alloc (.cells #[.int .i64 0, .int .i64 0, .int .u64 0] 80)).heap.size by simp]; exact heap_new' _ _
 have hW : Hid (Below w.heap.size w ((w.alloc (.cells #[.int .i64 0, .int .i64 0, .int .u64 0] 80)).alloc (.cells #[.int .i64 0, .int .i64 0, .int .u64 0] 80))) := ((Below.refl _ _).alloc (Nat.le_refl _) _).alloc (by simp) _
 go_enter Tryz.func30, Tryz.ntmps30
 go_wp2_with (first
  | (refine wpList_store_row rfl 80 (.tmp 5) (.tmp 16) rfl (w.heap.size + 1) (plA p s q) rfl rfl 80 _ hB.out (by rw [place3R]; rfl) rfl (plA_one _ _ _) ?_
     have hB2 : Hid ((((w.alloc (.cells #[.int .i64 0, .int .i64 0, .int .u64 0] 80)).alloc (.cells #[.int .i64 0, .int .i64 0, .int .u64 0] 80)).setRow (w.heap.size + 1) (plA p s q)).heap[w.heap.size + 1]? = some (.cells (plA p s q) 80 (0, 0))) := setRow_heap _ _ _ _ _ _ hB.out
     have hA2 : Hid ((((w.alloc (.cells #[.int .i64 0, .int .i64 0, .int .u64 0] 80)).alloc (.cells #[.int .i64 0, .int .i64 0, .int .u64 0] 80)).setRow (w.heap.size + 1) (plA p s q)).heap[w.heap.size]? = some (.cells (plA 0 0 0) 80 (0, 0))) := by
      show _ = _; rw [setRow_other _ _ _ _ (by omega)]; exact hA.out
     have hW2 : Hid (Below w.heap.size w (((w.alloc (.cells #[.int .i64 0, .int .i64 0, .int .u64 0] 80)).alloc (.cells #[.int .i64 0, .int .i64 0, .int .u64 0] 80)).setRow (w.heap.size + 1) (plA p s q))) := below_setRow hW.out (by omega) _
     generalize (((w.alloc (.cells #[.int .i64 0, .int .i64 0, .int .u64 0] 80)).alloc (.cells #[.int .i64 0, .int .i64 0, .int .u64 0] 80)).setRow (w.heap.size + 1) (plA p s q)) = w1 at *)
  | (refine wpList_load_row rfl 80 (.tmp 5) rfl (w.heap.size + 1) rfl _ _ _ _ hB2.out Tryz.underlying80 rfl (by rw [place3R]; rfl) ?_)
  | fail)
 refine (HP.out w1).mono ?_
 rintro e w2 ⟨rfl, hb2⟩
 have hA3 := Lib.hid ((hb2.block _ (lt_of_block hA2.out)).trans hA2.out)
 have hB3 := Lib.hid ((hb2.block _ (lt_of_block hB2.out)).trans hB2.out)
 have hW3 := Lib.hid (hW2.out.trans (hb2.mono hW2.out.size))
 clear hA hB hW hb2 hA2 hB2 hW2
 cases r with
 | true =>
  go_wp2_with (first
   | (refine wpList_load_row rfl 80 (.tmp 5) rfl (w.heap.size + 1) rfl _ _ _ _ hB3.out Tryz.underlying80 rfl (by rw [place3R]; rfl) ?_)
   | (refine wpList_store_row rfl 80 (.tmp 2) (.tmp 21) rfl w.heap.size (plA p s q) rfl rfl 80 _ hA3.out (by rw [place3R]; rfl) rfl (plA_one _ _ _) ?_)
   | fail)
  refine bodyPost_ret (results_row_tmp rfl _ _ w.heap.size _ (plA p s q) (0, 0) _ rfl (setRow_heap _ _ _ _ _ _ hA3.out) Tryz.underlying80 rfl (by rw [place3R]; rfl)) rfl ?_
  exact ⟨rfl, below_setRow hW3.out (Nat.le_refl _) _⟩
 | false =>
  go_wp2_with (first
   | (refine wpList_store_row rfl 80 (.tmp 2) (.tmp 20) rfl w.heap.size (plA 0 0 0) rfl rfl 80 _ hA3.out (by rw [place3R]; rfl) rfl (plA_one _ _ _) ?_)
   | fail)
  refine bodyPost_ret (results_row_tmp rfl _ _ w.heap.size _ (plA 0 0 0) (0, 0) _ rfl (setRow_heap _ _ _ _ _ _ hA3.out) Tryz.underlying80 rfl (by rw [place3R]; rfl)) rfl ?_
  exact ⟨rfl, below_setRow hW3.out (Nat.le_refl _) _⟩
theorem rtmay_cR (n : Nat) (L : List Nat) (h16 : L.length = 16) (hL : ∀ x ∈ L, x < 18446744073709551616) (w : World) :
  Calls Tryz.prog 82 #[.agg (rtA n L)] w fun e w' => e = .returned (.bool (rightR n L)) /\ Below w.heap.size w w' := by
 have hblk := heap_new' w (.cells (rtA n L) 25)
 have HBLK := Lib.hid hblk
 have HRR := Lib.hid (rt_roots hblk)
 have HBE := Lib.hid (below_box w (.cells (rtA n L) 25))
 have H16 := Lib.hid h16
 have HU := Lib.hid hL
 have HIX := Lib.hid (index_HR L h16)
 clear hblk h16 hL
 go_enter Tryz.func82, Tryz.ntmps82
 go_wp2_with (first
  | (refine wpList_load_mid rfl 23 (.tmp 7) rfl w.heap.size 1 rfl _ _ HRR.out Tryz.underlying23 rfl (by rw [handles16R, List.length_map, H16.out]) ?_)
  | fail)
 generalize w.alloc (.cells (rtA n L) 25) = w0 at *
 go_loopw [9] (fun vi wr => ∃ k : Nat, k <= 16 /\ vi = .int .i64 (k : Int) /\ Hid (∀ j, j < k -> hGood (L.getD j 0) = true) /\ Hid (wr.heap[w.heap.size]? = some (.cells (rtA n L) 25 (0, 0))) /\ Hid (Below w.heap.size w wr)) (fun vi _ => 16 - (intOf vi).toNat)
 case atStart => exact ⟨0, by omega, rfl, fun j h => by omega, HBLK.out, HBE.out⟩
 case round =>
  clear HBLK HBE HRR
  obtain ⟨k, hk, rfl, hall, hB, hbel⟩ := hrel
  by_cases hlt : k < 16
  ·have hd : decide ((k : Int) < 16) = true := by simp; omega
   have dl : (k : Int) < 16 := by omega
   have hix := HIX.out k hlt
   obtain ⟨r, hr⟩ : ∃ r, r = L.getD k 0 := ⟨_, rfl⟩
   rw [<- hr] at hix
   have HR := Lib.hid hr
   have HK := Lib.hid hlt
   have HP := Lib.hid (fun w => rof_c r (by rw [hr]; exact getD_u64 HU.out k) w)
   clear hr hk hlt
   go_wp2_with fail
   refine (HP.out _).mono ?_
   rintro e w2 ⟨rfl, hb2⟩
   have hB2 := Lib.hid ((hb2.block _ (lt_of_block hB.out)).trans hB.out)
   have hW2 := Lib.hid (hbel.out.trans (hb2.mono hbel.out.size))
   have HZ2 : Hid ((w2.alloc (.cells #[.int .i64 0, .int .i64 0, .int .u64 0] 80)).heap[w2.heap.size]? = some (.cells (plA 0 0 0) 80 (0, 0))) := heap_new' _ _
   have hB3 : Hid ((w2.alloc (.cells #[.int .i64 0, .int .i64 0, .int .u64 0] 80)).heap[w.heap.size]? = some (.cells (rtA n L) 25 (0, 0))) := (heap_old' _ _ _ (lt_of_block hB2.out)).trans hB2.out
   have hW3 : Hid (Below w.heap.size w (w2.alloc (.cells #[.int .i64 0, .int .i64 0, .int .u64 0] 80))) := hW2.out.trans ((below_box w2 _).mono hW2.out.size)
   have HQ : Hid (w.heap.size < w2.heap.size /\ w.heap.size ≠ w2.heap.size) := by have := lt_of_block hB2.out; exact ⟨this, by omega⟩
   clear hb2 hB hbel hB2 hW2 HP
   by_cases hok : hOK r = true
   ·have HG : Hid (hGood r = true) := by show _ = _; unfold hGood; rw [hok]; simp
    have hres : hRes (hOK r) (hPage r) (hSlot r) (hSer r) = .tuple #[.agg (plA (hPage r) (hSlot r) (hSer r)), .bool true] := by rw [hok]; rfl
    rw [hres]
    generalize hPage r = p at *
    generalize hSlot r = s at *
    generalize hSer r = q at *
    clear hok hres
    go_wp2_with (first
     | (refine wpList_store_row rfl 80 (.tmp 5) (.tmp 15) rfl w2.heap.size (plA p s q) rfl rfl 80 _ HZ2.out (by rw [place3R]; rfl) rfl (plA_one _ _ _) ?_)
     | fail)
    all_goals
     go_roundw
     case rel =>
      refine ⟨k + 1, by have := HK.out; omega, by go_num, fun j hj => ?_, ?_, below_setRow hW3.out (by have := HQ.out.1; omega) _⟩
      ·rcases Nat.lt_or_eq_of_le (Nat.le_of_lt_succ hj) with h | h
       ·exact hall.out j h
       ·subst h; rw [<- HR.out]; exact HG.out
      ·show _ = _; rw [setRow_other _ _ _ _ HQ.out.2]; exact hB3.out
     case measure => simp [intOf]; have := HK.out; omega
   ·have hok' : hOK r = false := by simpa using hok
    have hres : hRes (hOK r) (hPage r) (hSlot r) (hSer r) = .tuple #[.agg (plA 0 0 0), .bool false] := by rw [hok']; rfl
    rw [hres]
    by_cases h0 : r = 0
    ·have HG : Hid (hGood r = true) := by show _ = _; unfold hGood; rw [h0]; rfl
     have e0 : ((r : Int) == 0) = true := by rw [h0]; rfl
     clear hok hok' hres h0
     go_wp2_with (first
      | (refine wpList_store_row rfl 80 (.tmp 5) (.tmp 15) rfl w2.heap.size (plA 0 0 0) rfl rfl 80 _ HZ2.out (by rw [place3R]; rfl) rfl (plA_one _ _ _) ?_)
      | fail)
     all_goals
      go_roundw
      case rel =>
       refine ⟨k + 1, by have := HK.out; omega, by go_num, fun j hj => ?_, ?_, below_setRow hW3.out (by have := HQ.out.1; omega) _⟩
       ·rcases Nat.lt_or_eq_of_le (Nat.le_of_lt_succ hj) with h | h
        ·exact hall.out j h
        ·subst h; rw [<- HR.out]; exact HG.out
       ·show _ = _; rw [setRow_other _ _ _ _ HQ.out.2]; exact hB3.out
      case measure => simp [intOf]; have := HK.out; omega
    ·have e0 : ((r : Int) == 0) = false := by rw [beq_eq_false_iff_ne]; omega
     have HG : Hid (rightR n L = false) := by
      show _ = _; unfold rightR
      rw [not_all_getD hGood k (by rw [H16.out]; exact HK.out) (by rw [<- HR.out]; unfold hGood; rw [hok']; simp [h0])]; rfl
     clear hok hok' hres
     go_wp2_with (first
      | (refine wpList_store_row rfl 80 (.tmp 5) (.tmp 15) rfl w2.heap.size (plA 0 0 0) rfl rfl 80 _ HZ2.out (by rw [place3R]; rfl) rfl (plA_one _ _ _) ?_)
      | fail)
     go_ret
     exact ⟨by rw [HG.out]; rfl, below_setRow hW3.out (by have := HQ.out.1; omega) _⟩
  ·have hd : decide ((k : Int) < 16) = false := by simp; omega
   have dl : ¬ (k : Int) < 16 := by omega
   have ha : L.all hGood = true := all_getD hGood fun j hj => hall.out j (by rw [H16.out] at hj; omega)
   have c0 := (cells_at hB.out 0).trans (show _ = some (Value.int .u64 (n : Int)) from rfl)
   have HW := hbel
   have HR1 : Hid (rightR n L = (decide (0 < n) && decide (n <= 281474976710656))) := by show _ = _; unfold rightR; rw [ha]; rfl
   clear hbel hB hall ha HIX HU H16
   by_cases h1 : 0 < n
   ·have d1 : decide ((n : Int) >= 1) = true := by simp; omega
    have i1 : 1 <= (n : Int) := by omega
    by_cases h2 : n <= 281474976710656
    ·have d2 : decide ((n : Int) <= 281474976710656) = true := by simp; omega
     have i2 : (n : Int) <= 281474976710656 := by omega
     have HR2 : Hid (rightR n L = true) := by show _ = _; rw [HR1.out]; simp; omega
     clear h1 h2
     go_wp2
     go_ret
     exact ⟨by rw [HR2.out]; rfl, HW.out⟩
    ·have d2 : decide ((n : Int) <= 281474976710656) = false := by simp; omega
     have i2 : ¬ (n : Int) <= 281474976710656 := by omega
     have HR2 : Hid (rightR n L = false) := by show _ = _; rw [HR1.out]; simp; omega
     clear h1 h2
     go_wp2
     go_ret
     exact ⟨by rw [HR2.out]; rfl, HW.out⟩
   ·have d1 : decide ((n : Int) >= 1) = false := by simp; omega
    have i1 : ¬ 1 <= (n : Int) := by omega
    have HR2 : Hid (rightR n L = false) := by show _ = _; rw [HR1.out]; simp; omega
    clear h1
    go_wp2
    go_ret
    exact ⟨by rw [HR2.out]; rfl, HW.out⟩
theorem rhbytes_c (n : Nat) (L : List Nat) (h16 : L.length = 16) (hn : n < 18446744073709551616) (hL : ∀ x ∈ L, x < 18446744073709551616) (w : World) :
  Calls Tryz.prog 14 #[.agg (rtA n L)] w fun e w' => (∃ v, e = .returned v /\ w'.ownsRow w.heap.size 5 1 v 256 (bA (rtBytes n L)).toList) /\ Below w.heap.size w w' := by
 have hblk := heap_new' w (.cells (rtA n L) 25)
 have HBLK := Lib.hid hblk
 have HBE := Lib.hid (below_box w (.cells (rtA n L) 25))
 have H16 := Lib.hid h16
 have HU := Lib.hid hL
 have HIX := Lib.hid (index_HR L h16)
 have HN := Lib.hid hn
 have c0 := (cells_at HBLK.out 0).trans (show _ = some (Value.int .u64 (n : Int)) from rfl)
 have HPT := Lib.hid (fun q hq w => rput_c 8 q (by omega) hq w)
 clear hblk h16 hL hn
 go_enter Tryz.func14, Tryz.ntmps14
 go_wp2_with fail
 generalize w.alloc (.cells (rtA n L) 25) = w0 at *
 refine (HPT.out n HN.out w0).mono ?_
 rintro e w2 ⟨v2, rfl, hown2, hb2⟩
 have HB2 := Lib.hid ((hb2.block _ (lt_of_block HBLK.out)).trans HBLK.out)
 have HE2 : Hid (Below w.heap.size w w2) := HBE.out.trans (hb2.mono HBE.out.size)
 have HQ0 : w.heap.size + 1 <= w0.heap.size := lt_of_block HBLK.out
 have HO2 : Hid (w2.ownsRow (w.heap.size + 1) 5 1 v2 8 (bA (lowB 8 n ++ numsH (L.take 0))).toList) := by
  show World.ownsRow _ _ _ _ _ _ _
  rw [show lowB 8 n ++ numsH (L.take 0) = lowB 8 n by simp [numsH]]
  exact own_mono hown2 HQ0
 obtain ⟨a2, c2, rfl⟩ := own_slice hown2
 have HRR := Lib.hid (rt_roots HB2.out)
 clear hown2 hb2 HBLK HBE HQ0 c0
 go_wp2_with (first
  | (refine wpList_load_mid rfl 23 (.tmp 9) rfl w.heap.size 1 rfl _ _ HRR.out Tryz.underlying23 rfl (by rw [handles16R, List.length_map, H16.out]) ?_)
  | fail)
 go_loopw [3, 11] (fun v vi wr => ∃ k : Nat, k <= 16 /\ vi = .int .i64 (k : Int) /\ ∃ a m c, v = .slice a m c /\ Hid (m = 8 + 8 * k) /\ Hid (wr.ownsRow (w.heap.size + 1) 5 1 (.slice a m c) m (bA (lowB 8 n ++ numsH (L.take k))).toList) /\ Hid (w.heap.size < wr.heap.size) /\ Hid (Below w.heap.size w wr)) (fun _ vi _ => 16 - (intOf vi).toNat)
 case atStart => exact ⟨0, by omega, rfl, _, 8, _, rfl, rfl, HO2.out, lt_of_block HB2.out, HE2.out⟩
 case round =>
  clear HO2 HB2 HE2 HRR
  obtain ⟨k, hk, rfl, a, m, c, rfl, hm, hown, hsz, hbel⟩ := hrel
  by_cases hlt : k < 16
  ·have hd : decide ((k : Int) < 16) = true := by simp; omega
   have dl : (k : Int) < 16 := by omega
   have hix := HIX.out k hlt
   obtain ⟨q, hq⟩ : ∃ q, q = L.getD k 0 := ⟨_, rfl⟩
   rw [<- hq] at hix
   have HNS := Lib.hid (numsH_succ L k (by rw [H16.out]; exact hlt))
   rw [<- hq] at HNS
   have HQ : Hid (q < 18446744073709551616) := by show _ < _; rw [hq]; exact getD_u64 HU.out k
   have HK := Lib.hid hlt
   clear hq hlt hk
   go_wp2_with fail
   refine (HPT.out q HQ.out wr).mono ?_
   rintro e w3 ⟨v3, rfl, hown3, hb3⟩
   obtain ⟨a3, c3, hv3, hN3, _, _, _, hnil3, _⟩ := own_bytes (lowB_lt 8 q) hown3
   subst hv3
   have HN3 := Lib.hid hN3
   have HZ3 := Lib.hid hnil3
   have HO3 := Lib.hid (own_up hown.out hb3)
   have HS3 : Hid (w.heap.size < w3.heap.size) := Nat.lt_of_lt_of_le hsz.out hb3.size
   have HE3 : Hid (Below w.heap.size w w3) := hbel.out.trans (hb3.mono hbel.out.size)
   have HM3 : Hid (m + 8 <= 1000000 /\ m + 8 = 8 + 8 * (k + 1)) := by have h1 := hm.out; have h2 := HK.out; exact ⟨by omega, by omega⟩
   clear hown3 hb3 hown hsz hbel hm hN3 hnil3
   go_wp2_with (first
    | (refine wpList_append_bytes (v := .slice a m c) (base := w.heap.size + 1) (n := m) (m := 8) (l := lowB 8 q) rfl (.tmp 14) (.tmp 16) rfl rfl HO3.out rfl (lowB_len _ _) HN3.out HZ3.out HM3.out.1 HS3.out ?_; intro v4 w4 hown4 hgr4; rw [bA_app, List.append_assoc, <- HNS.out] at hown4; have HO4 := Lib.hid hown4; have HS4 : Hid (w.heap.size < w4.heap.size) := Nat.lt_of_lt_of_le HS3.out hgr4.size; have HE4 : Hid (Below w.heap.size w w4) := HE3.out.grown hgr4 HE3.out.size (fun k h => by have := (HO3.out.lt k h).1; omega); obtain ⟨a4, c4, hv4⟩ := own_slice hown4; subst hv4; clear hown4 hgr4)
    | fail)
   go_roundw
   case rel => exact ⟨k + 1, by have := HK.out; omega, by go_num, a4, m + 8, c4, rfl, HM3.out.2, HO4.out, HS4.out, HE4.out⟩
   case measure => simp [intOf]; have := HK.out; omega
  ·have hk16 : k = 16 := by omega
   have hd : decide ((k : Int) < 16) = false := by simp; omega
   have dl : ¬ (k : Int) < 16 := by omega
   have HM5 : Hid (m = 136) := by show _ = _; have := hm.out; omega
   have hown5 := hown.out
   rw [show L.take k = L from List.take_of_length_le (by rw [H16.out]; omega)] at hown5
   have HLB : Hid ((rtBody n L).length = m) := by show _ = _; unfold rtBody; rw [List.length_append, lowB_len, numsH_len, H16.out, HM5.out]
   rw [show m = (rtBody n L).length from HLB.out.symm] at hown5
   obtain ⟨a', c', hv', hB', _⟩ := own_bytes (rtBody_lt n L) hown5
   rw [HLB.out] at hv'
   cases hv'
   have HB5 := Lib.hid hB'
   have HE5 := hbel
   have HPD := Lib.hid (rpad_c a m c (rtBody n L) HLB.out (by have := HM5.out; omega) 256 (by omega) wr HB5.out)
   clear hm hown hown5 hsz hbel hk16 hk hlt hB'
   go_wp2_with fail
   refine HPD.out.mono ?_
   rintro e w6 ⟨v6, rfl, hown6, hb6⟩
   have HO6 : Hid (w6.ownsRow w.heap.size 5 1 v6 256 (bA (rtBytes n L)).toList) := own_mono hown6 HE5.out.size
   have HE6 : Hid (Below w.heap.size w w6) := HE5.out.trans (hb6.mono HE5.out.size)
   clear hown6 hb6
   go_wp2
   go_ret
   exact ⟨⟨_, rfl, HO6.out⟩, HE6.out⟩
namespace Fre
section
variable {P : Program} {ops : Array Oper}
def bare (ops : Array Oper) : Array Oper := ops.map fun o => { o with guard := none }
theorem bare_get (i : Nat) : (bare ops)[i]? = (ops[i]?).map fun o => { o with guard := none } := by unfold bare; rw [Array.getElem?_map]
theorem bare_size : (bare ops).size = ops.size := by unfold bare; rw [Array.size_map]
theorem bare_dst : dstOf (bare ops) = dstOf ops := by
 funext j
 unfold dstOf
 rw [bare_get]
 cases ops[j]? <;> rfl
theorem bare_finT (vs : Nat -> Value) (T : Array Value) : ∀ n, finT (bare ops) vs T n = finT ops vs T n
 | 0 => rfl
 | n + 1 => by unfold finT; rw [bare_dst, bare_finT vs T n]
theorem bare_agree {a0 a : Act} {listed : Array Bool} {vs : Nat -> Value} : Agree (bare ops) a0 a listed vs ↔ Agree ops a0 a listed vs := by
 unfold Agree; rw [bare_size, bare_dst]
/-- what is known of the guards: G tells which operations are run -/
def Guards (ops : Array Oper) (V : Nat -> Value -> World -> Prop) (G : Nat -> Bool) : Prop :=
 ∀ (i : Nat) (o : Oper), ops[i]? = some o -> match o.guard with
  | none => G i = true
  | some (j, b) => waits .any ops i j = true /\ (∃ t, dstOf ops j = some t) /\ ∃ gv, (∀ v w, V j v w -> v = .bool gv) /\ G i = (gv == b)
theorem any_freeG {Q : Exit -> Act -> World -> Prop} {a0 : Act} {w0 : World} {N : Nat} (hf : Fits .any (bare ops) N) (hN : a0.tmps.size = N) (V : Nat -> Value -> World -> Prop) (G : Nat -> Bool) (hG : Guards ops V G)
  (htr : ∀ a b c, Kept a b -> Kept b c -> Kept a c) (hst : ∀ j v w w', j < ops.size -> V j v w -> Kept w w' -> V j v w') (hop : ∀ i, i < ops.size -> G i = true -> Step P .any ops a0 w0 V Kept i) (hop0 : ∀ i, i < ops.size -> G i = false -> ∀ w, V i undef w)
  (hQ : ∀ (vs : Nat -> Value) w, (∀ j, j < ops.size -> V j (vs j) w) -> Kept w0 w -> Q .normal ⟨finT ops vs a0.tmps ops.size, a0.defers⟩ w) :
  ∀ (fuel : Nat) (listed : Array Bool) (a : Act) (w : World) (vs : Nat -> Value), listed.size = ops.size -> ((List.range ops.size).filter fun j => !listed.getD j true).length <= fuel ->
   Agree ops a0 a listed vs -> (∀ j, j < ops.size -> listed.getD j false = true -> V j (vs j) w) -> Kept w0 w -> wpAny P .any ops Q fuel listed a w := by
 have hgf : ∀ (listed : Array Bool), listed.size = ops.size -> ∀ j, j < ops.size -> listed.getD j false = listed.getD j true := fun listed hl j hj => by
  simp [Array.getD_eq_getD_getElem?, hl, hj]
 have hend : ∀ (listed : Array Bool) (a : Act) (w : World) (vs : Nat -> Value), listed.size = ops.size -> Agree ops a0 a listed vs -> (∀ j, j < ops.size -> listed.getD j false = true -> V j (vs j) w) -> Kept w0 w -> Region.ready .any ops listed = [] -> Q .normal a w := by
  intro listed a w vs hl hA hV hS hr
  have hall : ∀ j, j < ops.size -> listed.getD j false = true := by
   intro j
   induction j using Nat.strongRecOn with
   | ind j ih =>
    intro hj
    cases hc : listed.getD j false with
    | true => rfl
    | false =>
     have : j ∈ Region.ready .any ops listed := by
      refine mem_ready.2 ⟨by rw [<- hgf listed hl j hj]; exact hc, ops[j], Array.getElem?_eq_getElem hj, fun e he hbi => ?_⟩
      have hb := hf.back j { ops[j] with guard := none } e (by rw [bare_get, Array.getElem?_eq_getElem hj]; rfl) he hbi
      exact ih e.on hb (by omega)
     rw [hr] at this; cases this
  rw [((bare_agree).2 hA).fin hf hN (fun j hj => hall j (by rw [bare_size] at hj; exact hj)), bare_size, bare_finT]
  exact hQ vs w (fun j hj => hV j hj (hall j hj)) hS
 intro fuel
 induction fuel with
 | zero =>
  intro listed a w vs hl hc hA hV hS
  have hr : Region.ready .any ops listed = [] := by
   cases hrr : Region.ready .any ops listed with
   | nil => rfl
   | cons x xs =>
    have hx : x ∈ Region.ready .any ops listed := by rw [hrr]; simp
    obtain ⟨h1, o, ho, _⟩ := mem_ready.1 hx
    have hlt : x < ops.size := (Array.getElem?_eq_some_iff.1 ho).1
    have : x ∈ (List.range ops.size).filter fun j => !listed.getD j true := List.mem_filter.2 ⟨List.mem_range.2 hlt, by rw [h1]; rfl⟩
    rw [List.eq_nil_of_length_eq_zero (Nat.le_zero.1 hc)] at this
    cases this
  exact ⟨hr, hend listed a w vs hl hA hV hS hr⟩
 | succ fuel ih =>
  intro listed a w vs hl hc hA hV hS
  refine ⟨fun hr => hend listed a w vs hl hA hV hS hr, fun i hi => ?_⟩
  obtain ⟨hun, o, ho, hdep⟩ := mem_ready.1 hi
  have hlt : i < ops.size := (Array.getElem?_eq_some_iff.1 ho).1
  unfold wpOp
  simp only [ho]
  have hdo : dstOf ops i = o.dst := by unfold dstOf; rw [ho]; rfl
  have hwl : ∀ j, waits .any ops i j = true -> listed.getD j false = true := by
   intro j hw
   unfold waits at hw
   rw [ho] at hw
   simp only [Option.map_some, Option.getD_some, Array.any_eq_true', Bool.and_eq_true, beq_iff_eq] at hw
   obtain ⟨e, he, hb, rfl⟩ := hw
   exact hdep e he hb
  have hlj : ∀ j, listed.getD j false = true -> j < ops.size := fun j h => by
   rcases Nat.lt_or_ge j ops.size with h' | h'
   ·exact h'
   ·rw [Array.getD_eq_getD_getElem?, Array.getElem?_eq_none (by rw [hl]; exact h')] at h; cases h
  have hgo := hG i o ho
  have hwant : Region.wanted o (yielded ops a.tmps) = G i := by
   unfold Region.wanted
   cases hgd : o.guard with
   | none => rw [hgd] at hgo; exact hgo.symm
   | some x =>
    obtain ⟨j, b⟩ := x
    rw [hgd] at hgo
    obtain ⟨hw, ⟨t, ht⟩, gv, hv, hg⟩ := hgo
    have h1 := hwl j hw
    have h2 := hA.2.2.1 j t (hlj j h1) ht h1
    have h3 := hv _ _ (hV j (hlj j h1) h1)
    rw [h3] at h2
    have h4 : yielded ops a.tmps j = some gv := by
     unfold yielded
     unfold dstOf at ht
     rw [ht]
     simp only [Option.bind_some, h2]
    show (yielded ops a.tmps j == some b) = G i
    rw [h4, hg]; cases gv <;> cases b <;> rfl
  cases hGi : G i with
  | false =>
   rw [if_neg (by rw [hwant, hGi]; simp)]
   have hv : V i undef w := hop0 i hlt hGi w
   have hs : Kept w w := Kept.refl w
   generalize (undef : Value) = v at *
   rw [<- hdo]
   have hfl : (List.range ops.size).filter (fun j => !(listed.setIfInBounds i true).getD j true) = ((List.range ops.size).filter fun j => !listed.getD j true).filter fun j => j != i := by
    rw [List.filter_filter]
    apply List.filter_congr
    intro j hj
    by_cases hji : j = i
    ·subst hji
     simp [Array.getD_eq_getD_getElem?, Array.getElem?_setIfInBounds, hl, hlt]
    ·simp [Array.getD_eq_getD_getElem?, Array.getElem?_setIfInBounds, Ne.symm hji, hji]
   refine ih (listed.setIfInBounds i true) (a.put (dstOf ops i) v) _ _ (by simp [hl]) ?_ (by have := ((bare_agree (ops := ops)).2 hA).step hf hN (by rw [bare_size]; exact hlt) (by rw [bare_size]; exact hl) hun v; rw [bare_dst] at this; exact bare_agree.1 this) (fun j hj hlj' => ?_) (htr _ _ _ hS hs)
   ·rw [hfl]
    have hmem : i ∈ (List.range ops.size).filter fun j => !listed.getD j true := List.mem_filter.2 ⟨List.mem_range.2 hlt, by rw [hun]; rfl⟩
    have hlt2 : (((List.range ops.size).filter fun j => !listed.getD j true).filter fun j => j != i).length < ((List.range ops.size).filter fun j => !listed.getD j true).length := by
     apply List.length_filter_lt_length_iff_exists.2
     exact ⟨i, hmem, by simp⟩
    omega
   ·by_cases hji : j = i
    ·subst hji; simp only [if_true]; exact hv
    ·simp only [if_neg hji]
     refine hst j _ w w hj (hV j hj ?_) hs
     rw [Array.getD_eq_getD_getElem?, Array.getElem?_setIfInBounds] at hlj'
     rw [Array.getD_eq_getD_getElem?]
     simpa [Ne.symm hji] using hlj'
  | true =>
   rw [if_pos (by rw [hwant, hGi])]
   refine .inl ?_
   have hD := hop i hlt hGi a.eval w (fun _ => rfl) (fun _ => rfl) (fun _ => rfl) (fun t ht => by
     show a.tmps.getD t undef = _
     rw [Array.getD_eq_getD_getElem?, Array.getD_eq_getD_getElem?, hA.2.2.2 t fun j hj hjt => absurd hjt (ht j hj)])
    (fun j t hw hjt => by
     have h1 := hwl j hw
     have h2 := hA.2.2.1 j t (hlj j h1) hjt h1
     show V j (a.tmps.getD t undef) w
     rw [Array.getD_eq_getD_getElem?, h2]
     exact hV j (hlj j h1) h1) (fun j hw _ => ⟨vs j, hV j (hlj j (hwl j hw)) (hwl j hw)⟩) hS o ho
   refine Does.wp hD ?_
   rintro v w' ⟨hv, hs⟩
   rw [<- hdo]
   have hfl : (List.range ops.size).filter (fun j => !(listed.setIfInBounds i true).getD j true) = ((List.range ops.size).filter fun j => !listed.getD j true).filter fun j => j != i := by
    rw [List.filter_filter]
    apply List.filter_congr
    intro j hj
    by_cases hji : j = i
    ·subst hji
     simp [Array.getD_eq_getD_getElem?, Array.getElem?_setIfInBounds, hl, hlt]
    ·simp [Array.getD_eq_getD_getElem?, Array.getElem?_setIfInBounds, Ne.symm hji, hji]
   refine ih (listed.setIfInBounds i true) (a.put (dstOf ops i) v) _ _ (by simp [hl]) ?_ (by have := ((bare_agree (ops := ops)).2 hA).step hf hN (by rw [bare_size]; exact hlt) (by rw [bare_size]; exact hl) hun v; rw [bare_dst] at this; exact bare_agree.1 this) (fun j hj hlj' => ?_) (htr _ _ _ hS hs)
   ·rw [hfl]
    have hmem : i ∈ (List.range ops.size).filter fun j => !listed.getD j true := List.mem_filter.2 ⟨List.mem_range.2 hlt, by rw [hun]; rfl⟩
    have hlt2 : (((List.range ops.size).filter fun j => !listed.getD j true).filter fun j => j != i).length < ((List.range ops.size).filter fun j => !listed.getD j true).length := by
     apply List.length_filter_lt_length_iff_exists.2
     exact ⟨i, hmem, by simp⟩
    omega
   ·by_cases hji : j = i
    ·subst hji; simp only [if_true]; exact hv
    ·simp only [if_neg hji]
     refine hst j _ w w' hj (hV j hj ?_) hs
     rw [Array.getD_eq_getD_getElem?, Array.getElem?_setIfInBounds] at hlj'
     rw [Array.getD_eq_getD_getElem?]
     simpa [Ne.symm hji] using hlj'
/-- the guards as a Bool: given the value of each operation that guards -/
def guardsB (ops : Array Oper) (gv : Nat -> Bool) (G : Nat -> Bool) : Bool :=
 (List.range ops.size).all fun i => match ops[i]? with
  | none => true
  | some o => match o.guard with
   | none => G i
   | some (j, b) => waits .any ops i j && (dstOf ops j).isSome && (G i == (gv j == b))
/-- the operations that guard -/
def isGuard (ops : Array Oper) (j : Nat) : Bool := (List.range ops.size).any fun i => match ops[i]? with
 | none => false
 | some o => match o.guard with
  | none => false
  | some (k, _) => k == j
def guardsL (ops : Array Oper) : List Nat := (List.range ops.size).filterMap fun i => (ops[i]?).bind fun o => o.guard.map (·.1)
theorem isGuard_mem {j : Nat} (h : isGuard ops j = true) : j ∈ guardsL ops := by
 unfold isGuard at h
 rw [List.any_eq_true] at h
 obtain ⟨i, hi, h1⟩ := h
 unfold guardsL
 rw [List.mem_filterMap]
 refine ⟨i, hi, ?_⟩
 cases ho : ops[i]? with
 | none => rw [ho] at h1; cases h1
 | some o =>
  simp only [ho] at h1
  cases hg : o.guard with
  | none => rw [hg] at h1; cases h1
  | some x =>
   obtain ⟨k, b⟩ := x
   rw [hg] at h1
   simp only [beq_iff_eq] at h1
   subst h1
   simp [hg]
theorem guards_of {V : Nat -> Value -> World -> Prop} {G gv : Nat -> Bool} (h : guardsB ops gv G = true) (hv : ∀ j, isGuard ops j = true -> ∀ v w, V j v w -> v = .bool (gv j)) : Guards ops V G := by
 intro i o ho
 have hlt : i < ops.size := (Array.getElem?_eq_some_iff.1 ho).1
 unfold guardsB at h
 rw [List.all_eq_true] at h
 have h1 := h i (List.mem_range.2 hlt)
 simp only [ho] at h1
 cases hg : o.guard with
 | none => rw [hg] at h1; exact h1
 | some x =>
  obtain ⟨j, b⟩ := x
  rw [hg] at h1
  simp only [Bool.and_eq_true, beq_iff_eq] at h1
  refine ⟨h1.1.1, Option.isSome_iff_exists.1 h1.1.2, gv j, hv j ?_, h1.2⟩
  unfold isGuard
  rw [List.any_eq_true]
  refine ⟨i, List.mem_range.2 hlt, ?_⟩
  simp only [ho, hg, beq_self_eq_true]
/-- the law for regions that only make memory, with guards -/
theorem region_keptG {id : Nat} {Q : Exit -> Act -> World -> Prop} {a0 : Act} {w0 : World} (N : Nat) (hm : P.follows .mixedOrders = true) (hf : fit .any (bare ops) N = true) (hN : a0.tmps.size = N) (V : Nat -> Value -> World -> Prop) (G gv : Nat -> Bool)
  (hb : guardsB ops gv G = true) (hv : ∀ j, isGuard ops j = true -> ∀ v w, V j v w -> v = .bool (gv j))
  (hst : ∀ j v w w', j < ops.size -> V j v w -> Kept w w' -> V j v w') (hop : ∀ i, i < ops.size -> G i = true -> StepB P ops a0 w0 V Kept i) (hop0 : ∀ i, i < ops.size -> G i = false -> ∀ w, V i undef w)
  (hQ : ∀ (vs : Nat -> Value) w, (∀ j, j < ops.size -> V j (vs j) w) -> Kept w0 w -> Q .normal ⟨finT ops vs a0.tmps ops.size, a0.defers⟩ w) : (Code.region id ops true).wp P Q a0 w0 := by
 refine wp_region_any hm ?_
 refine any_freeG (fits_of (md := .any) hf) hN V G (guards_of hb hv) (fun _ _ _ h k => h.trans k) hst (fun i hi hg => (hop i hi hg).step) hop0 hQ ops.size _ a0 _ (fun _ => undef) (by simp) (by have := List.length_filter_le (fun j => !(Array.replicate ops.size false).getD j true) (List.range ops.size); rw [List.length_range] at this; exact this) ?_ (fun j hj h => ?_) (Kept.drew _)
 ·refine ⟨rfl, rfl, fun j t hj _ h => ?_, fun t _ => rfl⟩
  simp [Array.getD_eq_getD_getElem?, hj] at h
 ·simp [Array.getD_eq_getD_getElem?, hj] at h
end
end Fre
def zeroR : List Nat := List.replicate 16 0
/-- what Parse answers -/
def MParse (B n : Nat) (w' : World) (e : Ending) (L : List (List Nat)) : Prop := match metaN n L with
 | none => e = .returned (.tuple #[.agg (mtA 0 zeroR (.slice none 0 0)), .int .i64 4])
 | some (x, R, P) => ∃ a c, e = .returned (.tuple #[.agg (mtA x R (.slice a n c)), .int .i64 0]) /\ w'.ownsRow B 100 5 (.slice a n c) n (cellsP P)
theorem hdL_16 {b : List Nat} {x : Nat} {R : List Nat} (h : headN b = some (x, R)) : R.length = 16 := by
 unfold headN at h
 split at h
 ·cases h; rfl
 ·split at h
  ·cases h; exact hdL_len b
  ·cases h
theorem run_build_meta (x : Nat) (R : List Nat) (h16 : R.length = 16) (a : Option Addr) (n c : Nat) (E : Operand -> Value) (o : Oper) (ho : o.op = .build 63 #[(0, .tmp 57), (1, .tmp 62)]) (h57 : E (.tmp 57) = .agg (rtA x R)) (h62 : E (.tmp 62) = .slice a n c) (w : World) :
  (execOp E o).run Tryz.prog w = .ok (.value (.agg (mtA x R (.slice a n c)))) w := by
 obtain ⟨r0, r1, r2, r3, r4, r5, r6, r7, r8, r9, r10, r11, r12, r13, r14, r15, rfl⟩ := sixteenU h16
 unfold execOp
 simp only [ho]
 unfold rtA at h57
 unfold mtA
 simp only [List.map_cons, List.map_nil, List.cons_append, List.nil_append] at h57 ⊢
 go_simp
def opsMP : {o : Array Oper // some o = (Tryz.f22.body.bind (Fre.findR 15))} := ⟨_, rfl⟩
theorem fitMP : Fre.fit .any opsMP.1 77 = true := by kernel_rfl
theorem sizeMP : opsMP.1.size = 9 := by kernel_rfl
theorem tailMP : Fre.tailFit .any opsMP.1 8 = true := by kernel_rfl
def VMP (gb rb lg m lc n x : Nat) (t : Int) (R : List Nat) (Q : List Pg) (B : Nat) (i : Nat) (v : Value) (w : World) : Prop := match i with
 | 0 => v = .agg (rtA x R)
 | 1 => v = .slice (some ⟨lg, 0, none⟩) m lc
 | 2 => v = .pointer (some ⟨gb, 0, none⟩)
 | 3 => v = .int .i64 (n : Int)
 | 4 => v = .slice (some ⟨lg, 0, none⟩) n lc
 | 5 => w.ownsRow B 100 5 v n (cellsP (Q.take n))
 | 6 => ∃ a c, v = .agg (mtA x R (.slice a n c)) /\ w.ownsRow B 100 5 (.slice a n c) n (cellsP (Q.take n))
 | 7 => ∃ b, v = .pointer (some ⟨b, 0, none⟩) /\ B <= b /\ w.heap[b]? = some (.cells #[.int .u64 0, .int .u64 0, .int .u64 0, .int .u64 0, .int .u64 0, .int .u64 0, .int .u64 0, .int .u64 0, .int .u64 0, .int .u64 0, .int .u64 0, .int .u64 0, .int .u64 0, .int .u64 0, .int .u64 0, .int .u64 0, .int .u64 0, .slice none 0 0] 63 (0, 0))
 | _ => True
theorem stMP_0 (gb rb lg m lc n x : Nat) (t : Int) (R : List Nat) (Q : List Pg) (B : Nat) (a0 : Act) (g96 : a0.tmps.getD 6 undef = .pointer (some ⟨rb, 0, none⟩)) (w0 : World) (h0 : w0.heap[gb]? = some (.cells #[.int .i64 (n : Int), .int .i64 t] 31 (0, 0))) (h1 : w0.heap[rb]? = some (.cells (rtA x R) 60 (0, 0))) (h16 : R.length = 16) (hQ0 : PgsAt w0 (some ⟨lg, 0, none⟩) Q) (hnm : n <= Q.length) (hql : Q.length = m) (hmc : m <= lc) (hm9 : m <= 1000) (hB : B <= w0.heap.size) : Fre.StepB Tryz.prog opsMP.1 a0 w0 (VMP gb rb lg m lc n x t R Q B) Fre.Kept 0 := by
 intro E w hc hf hE hV hN hS o ho
 obtain rfl := Option.some.inj ho
 clear ho
 simp only [opsMP, List.getElem_toArray, List.getElem_cons_succ, List.getElem_cons_zero]
 have b6 : E (.tmp 6) = .pointer (some ⟨rb, 0, none⟩) := (hE 6 (by kernel_rfl)).trans g96
 clear g96
 have hb := (hS.block rb (lt_of_block h1)).trans h1
 have hr := run_loadVar_row w rb _ 60 (rtA x R) _ _ hb Tryz.underlying60 rfl (by rw [roots17, rtA_size, h16])
 refine Fre.Does.value (v := .agg (rtA x R)) (w' := w) ?_ ⟨rfl, Fre.Kept.refl _⟩
 unfold execOp
 simp only [b6, Instr.loadAt, Instr.sureAddr, Sem.run_bind, Sem.run_pure, Result.andThen_ok, hr]
theorem stMP_1 (gb rb lg m lc n x : Nat) (t : Int) (R : List Nat) (Q : List Pg) (B : Nat) (a0 : Act) (g98 : a0.tmps.getD 8 undef = .slice (some ⟨lg, 0, none⟩) m lc) (w0 : World) (h0 : w0.heap[gb]? = some (.cells #[.int .i64 (n : Int), .int .i64 t] 31 (0, 0))) (h1 : w0.heap[rb]? = some (.cells (rtA x R) 60 (0, 0))) (h16 : R.length = 16) (hQ0 : PgsAt w0 (some ⟨lg, 0, none⟩) Q) (hnm : n <= Q.length) (hql : Q.length = m) (hmc : m <= lc) (hm9 : m <= 1000) (hB : B <= w0.heap.size) : Fre.StepB Tryz.prog opsMP.1 a0 w0 (VMP gb rb lg m lc n x t R Q B) Fre.Kept 1 := by
 intro E w hc hf hE hV hN hS o ho
 obtain rfl := Option.some.inj ho
 clear ho
 simp only [opsMP, List.getElem_toArray, List.getElem_cons_succ, List.getElem_cons_zero]
 have b8 : E (.tmp 8) = .slice (some ⟨lg, 0, none⟩) m lc := (hE 8 (by kernel_rfl)).trans g98
 clear g98
 refine Fre.Does.value (v := .slice (some ⟨lg, 0, none⟩) m lc) (w' := w) ?_ ⟨rfl, Fre.Kept.refl _⟩
 go_simp
theorem stMP_2 (gb rb lg m lc n x : Nat) (t : Int) (R : List Nat) (Q : List Pg) (B : Nat) (a0 : Act) (g92 : a0.tmps.getD 2 undef = .pointer (some ⟨gb, 0, none⟩)) (w0 : World) (h0 : w0.heap[gb]? = some (.cells #[.int .i64 (n : Int), .int .i64 t] 31 (0, 0))) (h1 : w0.heap[rb]? = some (.cells (rtA x R) 60 (0, 0))) (h16 : R.length = 16) (hQ0 : PgsAt w0 (some ⟨lg, 0, none⟩) Q) (hnm : n <= Q.length) (hql : Q.length = m) (hmc : m <= lc) (hm9 : m <= 1000) (hB : B <= w0.heap.size) : Fre.StepB Tryz.prog opsMP.1 a0 w0 (VMP gb rb lg m lc n x t R Q B) Fre.Kept 2 := by
 intro E w hc hf hE hV hN hS o ho
 obtain rfl := Option.some.inj ho
 clear ho
 simp only [opsMP, List.getElem_toArray, List.getElem_cons_succ, List.getElem_cons_zero]
 have b2 : E (.tmp 2) = .pointer (some ⟨gb, 0, none⟩) := (hE 2 (by kernel_rfl)).trans g92
 clear g92
 refine Fre.Does.value (v := .pointer (some ⟨gb, 0, none⟩)) (w' := w) ?_ ⟨rfl, Fre.Kept.refl _⟩
 go_simp
theorem stMP_3 (gb rb lg m lc n x : Nat) (t : Int) (R : List Nat) (Q : List Pg) (B : Nat) (a0 : Act)  (w0 : World) (h0 : w0.heap[gb]? = some (.cells #[.int .i64 (n : Int), .int .i64 t] 31 (0, 0))) (h1 : w0.heap[rb]? = some (.cells (rtA x R) 60 (0, 0))) (h16 : R.length = 16) (hQ0 : PgsAt w0 (some ⟨lg, 0, none⟩) Q) (hnm : n <= Q.length) (hql : Q.length = m) (hmc : m <= lc) (hm9 : m <= 1000) (hB : B <= w0.heap.size) : Fre.StepB Tryz.prog opsMP.1 a0 w0 (VMP gb rb lg m lc n x t R Q B) Fre.Kept 3 := by
 intro E w hc hf hE hV hN hS o ho
 obtain rfl := Option.some.inj ho
 clear ho
 simp only [opsMP, List.getElem_toArray, List.getElem_cons_succ, List.getElem_cons_zero]
 have d2 := hV 2 59 (by kernel_rfl) (by kernel_rfl)
 have d2 : E (.tmp 59) = .pointer (some ⟨gb, 0, none⟩) := d2
 have hb := (hS.block gb (lt_of_block h0)).trans h0
 have c0 := (cells_at hb 0).trans (show _ = some (Value.int .i64 (n : Int)) from rfl)
 refine Fre.Does.value (v := .int .i64 (n : Int)) (w' := w) ?_ ⟨rfl, Fre.Kept.refl _⟩
 go_simp
theorem stMP_4 (gb rb lg m lc n x : Nat) (t : Int) (R : List Nat) (Q : List Pg) (B : Nat) (a0 : Act)  (w0 : World) (h0 : w0.heap[gb]? = some (.cells #[.int .i64 (n : Int), .int .i64 t] 31 (0, 0))) (h1 : w0.heap[rb]? = some (.cells (rtA x R) 60 (0, 0))) (h16 : R.length = 16) (hQ0 : PgsAt w0 (some ⟨lg, 0, none⟩) Q) (hnm : n <= Q.length) (hql : Q.length = m) (hmc : m <= lc) (hm9 : m <= 1000) (hB : B <= w0.heap.size) : Fre.StepB Tryz.prog opsMP.1 a0 w0 (VMP gb rb lg m lc n x t R Q B) Fre.Kept 4 := by
 intro E w hc hf hE hV hN hS o ho
 obtain rfl := Option.some.inj ho
 clear ho
 simp only [opsMP, List.getElem_toArray, List.getElem_cons_succ, List.getElem_cons_zero]
 have d1 := hV 1 58 (by kernel_rfl) (by kernel_rfl)
 have d1 : E (.tmp 58) = .slice (some ⟨lg, 0, none⟩) m lc := d1
 have d3 := hV 3 60 (by kernel_rfl) (by kernel_rfl)
 have d3 : E (.tmp 60) = .int .i64 (n : Int) := d3
 have hr := run_subPh lg 0 m lc n (by omega) w
 refine Fre.Does.value (v := .slice (some ⟨lg, 0, none⟩) n lc) (w' := w) ?_ ⟨rfl, Fre.Kept.refl _⟩
 unfold execOp
 simp only [d1, d3, Option.map_some, Option.map_none, Sem.run_bind, hr, Result.andThen_ok]
 rfl
theorem stMP_5 (gb rb lg m lc n x : Nat) (t : Int) (R : List Nat) (Q : List Pg) (B : Nat) (a0 : Act)  (w0 : World) (h0 : w0.heap[gb]? = some (.cells #[.int .i64 (n : Int), .int .i64 t] 31 (0, 0))) (h1 : w0.heap[rb]? = some (.cells (rtA x R) 60 (0, 0))) (h16 : R.length = 16) (hQ0 : PgsAt w0 (some ⟨lg, 0, none⟩) Q) (hnm : n <= Q.length) (hql : Q.length = m) (hmc : m <= lc) (hm9 : m <= 1000) (hB : B <= w0.heap.size) : Fre.StepB Tryz.prog opsMP.1 a0 w0 (VMP gb rb lg m lc n x t R Q B) Fre.Kept 5 := by
 intro E w hc hf hE hV hN hS o ho
 obtain rfl := Option.some.inj ho
 clear ho
 simp only [opsMP, List.getElem_toArray, List.getElem_cons_succ, List.getElem_cons_zero]
 have d4 := hV 4 61 (by kernel_rfl) (by kernel_rfl)
 have d4 : E (.tmp 61) = .slice (some ⟨lg, 0, none⟩) n lc := d4
 refine Fre.Does.enter (f := 39) (args := #[.slice (some ⟨lg, 0, none⟩) n lc]) (w' := w) ?_ ((clonep_c lg 0 n lc (Q.take n) (by rw [List.length_take]; omega) (by omega) w ((hQ0.take n).up hS (Nat.le_refl _))).mono ?_)
 ·go_simp
 ·rintro e w' ⟨u, rfl, hown, hk⟩
  exact ⟨u, rfl, own_mono hown (Nat.le_trans hB hS.size), hk⟩
theorem stMP_6 (gb rb lg m lc n x : Nat) (t : Int) (R : List Nat) (Q : List Pg) (B : Nat) (a0 : Act)  (w0 : World) (h0 : w0.heap[gb]? = some (.cells #[.int .i64 (n : Int), .int .i64 t] 31 (0, 0))) (h1 : w0.heap[rb]? = some (.cells (rtA x R) 60 (0, 0))) (h16 : R.length = 16) (hQ0 : PgsAt w0 (some ⟨lg, 0, none⟩) Q) (hnm : n <= Q.length) (hql : Q.length = m) (hmc : m <= lc) (hm9 : m <= 1000) (hB : B <= w0.heap.size) : Fre.StepB Tryz.prog opsMP.1 a0 w0 (VMP gb rb lg m lc n x t R Q B) Fre.Kept 6 := by
 intro E w hc hf hE hV hN hS o ho
 obtain rfl := Option.some.inj ho
 clear ho
 simp only [opsMP, List.getElem_toArray, List.getElem_cons_succ, List.getElem_cons_zero]
 have d0 := hV 0 57 (by kernel_rfl) (by kernel_rfl)
 have d0 : E (.tmp 57) = .agg (rtA x R) := d0
 have d5 := hV 5 62 (by kernel_rfl) (by kernel_rfl)
 replace d5 : (fun v : Value => w.ownsRow B 100 5 v n (cellsP (Q.take n))) (E (.tmp 62)) := d5
 simp only at d5
 obtain ⟨a, c, hv⟩ := own_sliceR d5
 rw [hv] at d5
 refine Fre.Does.value (v := .agg (mtA x R (.slice a n c))) (w' := w) ?_ ⟨⟨a, c, rfl, d5⟩, Fre.Kept.refl _⟩
 exact run_build_meta x R h16 a n c E _ rfl d0 hv w
theorem stMP_7 (gb rb lg m lc n x : Nat) (t : Int) (R : List Nat) (Q : List Pg) (B : Nat) (a0 : Act)  (w0 : World) (h0 : w0.heap[gb]? = some (.cells #[.int .i64 (n : Int), .int .i64 t] 31 (0, 0))) (h1 : w0.heap[rb]? = some (.cells (rtA x R) 60 (0, 0))) (h16 : R.length = 16) (hQ0 : PgsAt w0 (some ⟨lg, 0, none⟩) Q) (hnm : n <= Q.length) (hql : Q.length = m) (hmc : m <= lc) (hm9 : m <= 1000) (hB : B <= w0.heap.size) : Fre.StepB Tryz.prog opsMP.1 a0 w0 (VMP gb rb lg m lc n x t R Q B) Fre.Kept 7 := by
 intro E w hc hf hE hV hN hS o ho
 obtain rfl := Option.some.inj ho
 clear ho
 simp only [opsMP, List.getElem_toArray, List.getElem_cons_succ, List.getElem_cons_zero]
 refine Fre.Does.value (v := .pointer (some ⟨w.heap.size, 0, none⟩)) (w' := w.alloc (.cells #[.int .u64 0, .int .u64 0, .int .u64 0, .int .u64 0, .int .u64 0, .int .u64 0, .int .u64 0, .int .u64 0, .int .u64 0, .int .u64 0, .int .u64 0, .int .u64 0, .int .u64 0, .int .u64 0, .int .u64 0, .int .u64 0, .int .u64 0, .slice none 0 0] 63)) ?_ ⟨⟨_, rfl, Nat.le_trans hB hS.size, heap_new' _ _⟩, below_box _ _⟩
 go_simp
theorem kpMP (gb rb lg m lc n x : Nat) (t : Int) (R : List Nat) (Q : List Pg) (B : Nat) : ∀ j v w w', j < 8 -> VMP gb rb lg m lc n x t R Q B j v w -> Fre.Kept w w' -> VMP gb rb lg m lc n x t R Q B j v w' := by
 intro j v w w' hj h hs
 have hc : j = 0 \/ j = 1 \/ j = 2 \/ j = 3 \/ j = 4 \/ j = 5 \/ j = 6 \/ j = 7 := by omega
 rcases hc with rfl | rfl | rfl | rfl | rfl | rfl | rfl | rfl
 ·exact h
 ·exact h
 ·exact h
 ·exact h
 ·exact h
 ·change w.ownsRow B 100 5 v n (cellsP (Q.take n)) at h
  exact own_up h hs
 ·change ∃ a c, v = .agg (mtA x R (.slice a n c)) /\ w.ownsRow B 100 5 (.slice a n c) n (cellsP (Q.take n)) at h
  obtain ⟨a, c, h1, h2⟩ := h
  exact ⟨a, c, h1, own_up h2 hs⟩
 ·change ∃ b, v = .pointer (some ⟨b, 0, none⟩) /\ B <= b /\ w.heap[b]? = some (.cells #[.int .u64 0, .int .u64 0, .int .u64 0, .int .u64 0, .int .u64 0, .int .u64 0, .int .u64 0, .int .u64 0, .int .u64 0, .int .u64 0, .int .u64 0, .int .u64 0, .int .u64 0, .int .u64 0, .int .u64 0, .int .u64 0, .int .u64 0, .slice none 0 0] 63 (0, 0)) at h
  obtain ⟨b, h1, h2, h3⟩ := h
  exact ⟨b, h1, h2, (hs.block _ (lt_of_block h3)).trans h3⟩
section
variable {u0 u1 u3 u4 u5 u7 u9 u10 u11 u12 u13 u14 u15 u16 u17 u18 u19 u20 u21 u22 u23 u24 u25 u26 u27 u28 u29 u30 u31 u32 u33 u34 u35 u36 u37 u38 u39 u40 u41 u42 u43 u44 u45 u46 u47 u48 u49 u50 u51 u52 u53 u54 u55 u56 u57 u58 u59 u60 u61 u62 u63 u64 u65 u66 u67 u68 u69 u70 u71 u72 u73 u74 u75 u76 : Value}
theorem finMP (gb rb lg m lc n x : Nat) (t : Int) (R : List Nat) (Q : List Pg) (B : Nat) (vs : Nat -> Value) : Fre.finT opsMP.1 vs #[u0, u1, .pointer (some ⟨gb, 0, none⟩), u3, u4, u5, .pointer (some ⟨rb, 0, none⟩), u7, .slice (some ⟨lg, 0, none⟩) m lc, u9, u10, u11, u12, u13, u14, u15, u16, u17, u18, u19, u20, u21, u22, u23, u24, u25, u26, u27, u28, u29, u30, u31, u32, u33, u34, u35, u36, u37, u38, u39, u40, u41, u42, u43, u44, u45, u46, u47, u48, u49, u50, u51, u52, u53, u54, u55, u56, u57, u58, u59, u60, u61, u62, u63, u64, u65, u66, u67, u68, u69, u70, u71, u72, u73, u74, u75, u76] 8 = #[u0, u1, .pointer (some ⟨gb, 0, none⟩), u3, u4, u5, .pointer (some ⟨rb, 0, none⟩), u7, .slice (some ⟨lg, 0, none⟩) m lc, u9, u10, u11, u12, vs 7, u14, u15, u16, u17, u18, u19, u20, u21, u22, u23, u24, u25, u26, u27, u28, u29, u30, u31, u32, u33, u34, u35, u36, u37, u38, u39, u40, u41, u42, u43, u44, u45, u46, u47, u48, u49, u50, u51, u52, u53, u54, u55, u56, vs 0, vs 1, vs 2, vs 3, vs 4, vs 5, vs 6, u64, u65, u66, u67, u68, u69, u70, u71, u72, u73, u74, u75, u76] := by kernel_rfl
theorem regionMP (gb rb lg m lc n x : Nat) (t : Int) (R : List Nat) (Q : List Pg) (B : Nat) (w0 : World) (h0 : w0.heap[gb]? = some (.cells #[.int .i64 (n : Int), .int .i64 t] 31 (0, 0))) (h1 : w0.heap[rb]? = some (.cells (rtA x R) 60 (0, 0))) (h16 : R.length = 16) (hQ0 : PgsAt w0 (some ⟨lg, 0, none⟩) Q) (hnm : n <= Q.length) (hql : Q.length = m) (hmc : m <= lc) (hm9 : m <= 1000) (hB : B <= w0.heap.size) {QQ : Exit -> Act -> World -> Prop} (hQ : ∀ (vs : Nat -> Value) w, (∀ j, j < 8 -> VMP gb rb lg m lc n x t R Q B j (vs j) w) -> Fre.Kept w0 w -> wpList Tryz.prog opsMP.1 QQ (opsMP.1.toList.drop 8) ⟨#[u0, u1, .pointer (some ⟨gb, 0, none⟩), u3, u4, u5, .pointer (some ⟨rb, 0, none⟩), u7, .slice (some ⟨lg, 0, none⟩) m lc, u9, u10, u11, u12, vs 7, u14, u15, u16, u17, u18, u19, u20, u21, u22, u23, u24, u25, u26, u27, u28, u29, u30, u31, u32, u33, u34, u35, u36, u37, u38, u39, u40, u41, u42, u43, u44, u45, u46, u47, u48, u49, u50, u51, u52, u53, u54, u55, u56, vs 0, vs 1, vs 2, vs 3, vs 4, vs 5, vs 6, u64, u65, u66, u67, u68, u69, u70, u71, u72, u73, u74, u75, u76], []⟩ w) : (Code.region 15 opsMP.1 true).wp Tryz.prog QQ ⟨#[u0, u1, .pointer (some ⟨gb, 0, none⟩), u3, u4, u5, .pointer (some ⟨rb, 0, none⟩), u7, .slice (some ⟨lg, 0, none⟩) m lc, u9, u10, u11, u12, u13, u14, u15, u16, u17, u18, u19, u20, u21, u22, u23, u24, u25, u26, u27, u28, u29, u30, u31, u32, u33, u34, u35, u36, u37, u38, u39, u40, u41, u42, u43, u44, u45, u46, u47, u48, u49, u50, u51, u52, u53, u54, u55, u56, u57, u58, u59, u60, u61, u62, u63, u64, u65, u66, u67, u68, u69, u70, u71, u72, u73, u74, u75, u76], []⟩ w0 := by
 refine Fre.region_tail 77 8 (by kernel_rfl) fitMP rfl tailMP (by rw [sizeMP]; omega) (VMP gb rb lg m lc n x t R Q B) (kpMP gb rb lg m lc n x t R Q B) (fun i hi => ?_) (fun vs w h1 h2 => ?_)
 case refine_2 =>
  have e9 := @finMP u0 u1 u3 u4 u5 u7 u9 u10 u11 u12 u13 u14 u15 u16 u17 u18 u19 u20 u21 u22 u23 u24 u25 u26 u27 u28 u29 u30 u31 u32 u33 u34 u35 u36 u37 u38 u39 u40 u41 u42 u43 u44 u45 u46 u47 u48 u49 u50 u51 u52 u53 u54 u55 u56 u57 u58 u59 u60 u61 u62 u63 u64 u65 u66 u67 u68 u69 u70 u71 u72 u73 u74 u75 u76 gb rb lg m lc n x t R Q B vs
  have h9 := hQ vs w h1 h2
  rw [<- e9] at h9
  exact h9
 have hc : i = 0 \/ i = 1 \/ i = 2 \/ i = 3 \/ i = 4 \/ i = 5 \/ i = 6 \/ i = 7 := by omega
 rcases hc with rfl | rfl | rfl | rfl | rfl | rfl | rfl | rfl
 ·exact stMP_0 gb rb lg m lc n x t R Q B _ rfl w0 h0 h1 h16 hQ0 hnm hql hmc hm9 hB
 ·exact stMP_1 gb rb lg m lc n x t R Q B _ rfl w0 h0 h1 h16 hQ0 hnm hql hmc hm9 hB
 ·exact stMP_2 gb rb lg m lc n x t R Q B _ rfl w0 h0 h1 h16 hQ0 hnm hql hmc hm9 hB
 ·exact stMP_3 gb rb lg m lc n x t R Q B _  w0 h0 h1 h16 hQ0 hnm hql hmc hm9 hB
 ·exact stMP_4 gb rb lg m lc n x t R Q B _  w0 h0 h1 h16 hQ0 hnm hql hmc hm9 hB
 ·exact stMP_5 gb rb lg m lc n x t R Q B _  w0 h0 h1 h16 hQ0 hnm hql hmc hm9 hB
 ·exact stMP_6 gb rb lg m lc n x t R Q B _  w0 h0 h1 h16 hQ0 hnm hql hmc hm9 hB
 ·exact stMP_7 gb rb lg m lc n x t R Q B _  w0 h0 h1 h16 hQ0 hnm hql hmc hm9 hB
end
theorem mparse_c (n : Nat) (t : Int) (hg : geoB n t = true) (g o k cap : Nat) (L : List (List Nat)) (hk : L.length = k) (hkm : k = 1 + mapsN n) (hcap : k <= cap) (h256 : ∀ l ∈ L, l.length = 256) (w : World) (hR : RowsAt w (some ⟨g, o, none⟩) L) :
  Calls Tryz.prog 22 #[.agg #[.int .i64 (n : Int), .int .i64 t], .slice (some ⟨g, o, none⟩) k cap] w fun e w' => MParse w.heap.size n w' e L /\ Below w.heap.size w w' := by
 have hp := (geoB_iff n t).1 hg
 have hm4 := mapsN_le n (by omega)
 have hm1 : 1 <= mapsN n := by unfold mapsN; omega
 have HGC := Lib.hid (fun w => gcheck_c n t w)
 rw [show geoE n t = 0 by unfold geoE; rw [if_pos hg]] at HGC
 have HMC := Lib.hid (fun w => gMaps_c n t w)
 rw [show ifGeo n t (mapsN (n : Int).toNat) = mapsN n by unfold ifGeo; rw [if_pos hg, Int.toNat_natCast]] at HMC
 obtain ⟨mm, hmm⟩ : ∃ mm, mm = mapsN n := ⟨_, rfl⟩
 rw [<- hmm] at hkm hm4 hm1 HMC
 have ek : IntKind.i64.wrap (1 + (mm : Int)) = (k : Int) := by rw [show 1 + (mm : Int) = (k : Int) by omega]; exact IntWalk.i64_in _ (by omega)
 have HKM : Hid (k = 1 + mm /\ 1 <= mm /\ mm <= 4 /\ mm = mapsN n /\ n <= 64 /\ 1 <= n) := ⟨hkm, hm1, hm4, hmm, by omega, by omega⟩
 have HGB := Lib.hid hg
 have HL := Lib.hid hk
 have HCP := Lib.hid hcap
 have H256 := Lib.hid h256
 have HZ0 : Hid (((w.alloc (.cells #[.int .i64 (n : Int), .int .i64 t] 31)).alloc (.cells #[.int .u64 0, .int .u64 0, .int .u64 0, .int .u64 0, .int .u64 0, .int .u64 0, .int .u64 0, .int .u64 0, .int .u64 0, .int .u64 0, .int .u64 0, .int .u64 0, .int .u64 0, .int .u64 0, .int .u64 0, .int .u64 0, .int .u64 0, .slice none 0 0] 63)).heap[w.heap.size + 1]? = some (.cells (mtA 0 zeroR (.slice none 0 0)) 63 (0, 0))) := by
  show _ = _; rw [show w.heap.size + 1 = (w.alloc (.cells #[.int .i64 (n : Int), .int .i64 t] 31)).heap.size by simp]; exact heap_new' _ _
 have HG0 : Hid (((w.alloc (.cells #[.int .i64 (n : Int), .int .i64 t] 31)).alloc (.cells #[.int .u64 0, .int .u64 0, .int .u64 0, .int .u64 0, .int .u64 0, .int .u64 0, .int .u64 0, .int .u64 0, .int .u64 0, .int .u64 0, .int .u64 0, .int .u64 0, .int .u64 0, .int .u64 0, .int .u64 0, .int .u64 0, .int .u64 0, .slice none 0 0] 63)).heap[w.heap.size]? = some (.cells #[.int .i64 (n : Int), .int .i64 t] 31 (0, 0))) := (heap_old' _ _ _ (by simp)).trans (heap_new' _ _)
 have HE0 : Hid (Below w.heap.size w ((w.alloc (.cells #[.int .i64 (n : Int), .int .i64 t] 31)).alloc (.cells #[.int .u64 0, .int .u64 0, .int .u64 0, .int .u64 0, .int .u64 0, .int .u64 0, .int .u64 0, .int .u64 0, .int .u64 0, .int .u64 0, .int .u64 0, .int .u64 0, .int .u64 0, .int .u64 0, .int .u64 0, .int .u64 0, .int .u64 0, .slice none 0 0] 63))) := (below_box w _).alloc (by simp) _
 have HR0 := Lib.hid (hR.up HE0.out (Nat.le_refl _))
 have HRW := Lib.hid hR
 have knn : ((k : Int) == (k : Int)) = true := beq_self_eq_true _
 clear hp hm4 hm1 hmm hkm hg hk hcap h256 hR
 go_enter Tryz.func22, Tryz.ntmps22
 go_wp2_with (first | (refine wpList_load_row rfl 31 (.tmp 2) rfl w.heap.size rfl _ _ _ _ HG0.out Tryz.underlying31 rfl (by rw [geo2]; rfl) ?_) | fail)
 generalize (w.alloc (.cells #[.int .i64 (n : Int), .int .i64 t] 31)).alloc (.cells #[.int .u64 0, .int .u64 0, .int .u64 0, .int .u64 0, .int .u64 0, .int .u64 0, .int .u64 0, .int .u64 0, .int .u64 0, .int .u64 0, .int .u64 0, .int .u64 0, .int .u64 0, .int .u64 0, .int .u64 0, .int .u64 0, .int .u64 0, .slice none 0 0] 63) = w0 at *
 refine (HGC.out w0).mono ?_
 rintro e w1 ⟨rfl, hb1⟩
 have HZ1 := Lib.hid ((hb1.block _ (lt_of_block HZ0.out)).trans HZ0.out)
 have HG1 := Lib.hid ((hb1.block _ (lt_of_block HG0.out)).trans HG0.out)
 have HE1 : Hid (Below w.heap.size w w1) := HE0.out.trans (hb1.mono HE0.out.size)
 have HR1 := Lib.hid (HR0.out.up hb1 (Nat.le_refl _))
 clear hb1 HZ0 HG0 HE0 HR0 HGC
 go_wp2_with (first | (refine load_row_w rfl 31 (.tmp 2) rfl w.heap.size rfl _ _ _ _ HG1.out Tryz.underlying31 rfl (by rw [geo2]; rfl) ?_) | fail)
 refine (HMC.out w1).mono ?_
 rintro e w2 ⟨rfl, hb2⟩
 have HZ2 := Lib.hid ((hb2.block _ (lt_of_block HZ1.out)).trans HZ1.out)
 have HG2 := Lib.hid ((hb2.block _ (lt_of_block HG1.out)).trans HG1.out)
 have HE2 : Hid (Below w.heap.size w w2) := HE1.out.trans (hb2.mono HE1.out.size)
 have HR2 := Lib.hid (HR1.out.up hb2 (Nat.le_refl _))
 clear hb2 HZ1 HG1 HE1 HR1 HMC
 have h0L : L[0]? = some (L.getD 0 []) := by
  rw [List.getD_eq_getElem?_getD, List.getElem?_eq_getElem (by have := HL.out; have := HKM.out; omega)]; rfl
 obtain ⟨b0, hb0⟩ : ∃ b0, b0 = L.getD 0 [] := ⟨_, rfl⟩
 have HB0 := Lib.hid hb0
 rw [<- hb0] at h0L
 have hb0l : b0.length = 256 := H256.out _ (List.mem_of_getElem? h0L)
 obtain ⟨g', o', v0, e1, hgl, hc0, hs0⟩ := HR2.out 0 b0 h0L
 cases e1
 obtain ⟨a0, c0', rfl, hs0'⟩ := id hs0
 rw [Nat.add_zero] at hc0
 have HHP : Hid (Calls Tryz.prog 37 #[.slice a0 b0.length c0'] w2 fun e w' => e = .returned (headV (headN b0)) /\ Below w2.heap.size w2 w') := hparse_c a0 c0' _ b0 hb0l hb0l w2 hs0
 have HGL := Lib.hid hgl
 clear hb0 h0L hs0 hs0' hgl
 obtain ⟨ln0, hln0⟩ : ∃ ln0, ln0 = b0.length := ⟨_, rfl⟩
 rw [<- hln0] at hc0 HHP
 clear hln0 hb0l
 have k1 : (0 : Int) < (k : Int) := by have := HKM.out; omega
 go_wp2_with fail
 refine HHP.out.mono ?_
 rintro e w3 ⟨rfl, hb3⟩
 have HZ3 := Lib.hid ((hb3.block _ (lt_of_block HZ2.out)).trans HZ2.out)
 have HG3 := Lib.hid ((hb3.block _ (lt_of_block HG2.out)).trans HG2.out)
 have HE3 : Hid (Below w.heap.size w w3) := HE2.out.trans (hb3.mono HE2.out.size)
 have HR3 := Lib.hid (HR2.out.up hb3 (Nat.le_refl _))
 clear hb3 HZ2 HG2 HE2 HR2 HHP hc0
 cases hh : headN b0 with
 | none =>
  have HMN : Hid (metaN n L = none) := by show _ = _; unfold metaN; rw [<- HB0.out, hh]
  clear hh
  obtain ⟨HV, hHV⟩ : ∃ HV, HV = headV none := ⟨_, rfl⟩
  have hv1 : HV = .tuple #[.agg (rtA 0 zeroR), .int .i64 4] := hHV
  rw [<- hHV, hv1]
  clear hHV hv1 HV
  have HY : Hid ((w3.alloc (.cells #[.int .u64 0, .int .u64 0, .int .u64 0, .int .u64 0, .int .u64 0, .int .u64 0, .int .u64 0, .int .u64 0, .int .u64 0, .int .u64 0, .int .u64 0, .int .u64 0, .int .u64 0, .int .u64 0, .int .u64 0, .int .u64 0, .int .u64 0] 60)).heap[w3.heap.size]? = some (.cells (rtA 0 zeroR) 60 (0, 0))) := heap_new' _ _
  have hy3 := below_box w3 (.cells #[.int .u64 0, .int .u64 0, .int .u64 0, .int .u64 0, .int .u64 0, .int .u64 0, .int .u64 0, .int .u64 0, .int .u64 0, .int .u64 0, .int .u64 0, .int .u64 0, .int .u64 0, .int .u64 0, .int .u64 0, .int .u64 0, .int .u64 0] 60)
  have HZ4 := Lib.hid ((hy3.block _ (lt_of_block HZ3.out)).trans HZ3.out)
  have HG4 := Lib.hid ((hy3.block _ (lt_of_block HG3.out)).trans HG3.out)
  have HE4 : Hid (Below w.heap.size w (w3.alloc (.cells #[.int .u64 0, .int .u64 0, .int .u64 0, .int .u64 0, .int .u64 0, .int .u64 0, .int .u64 0, .int .u64 0, .int .u64 0, .int .u64 0, .int .u64 0, .int .u64 0, .int .u64 0, .int .u64 0, .int .u64 0, .int .u64 0, .int .u64 0] 60))) := HE3.out.trans (hy3.mono HE3.out.size)
  have HR4 := Lib.hid (HR3.out.up hy3 (Nat.le_refl _))
  have HZL : Hid (w.heap.size + 1 < w3.heap.size) := lt_of_block HZ3.out
  clear hy3 HZ3 HG3 HE3 HR3
  go_wp2_with (first
   | (refine wpList_store_row rfl 60 (.tmp 6) (.tmp 31) rfl w3.heap.size (rtA 0 zeroR) rfl rfl 60 _ HY.out (by rw [roots17]; rfl) rfl (rtA_one _ _) ?_; generalize hW4 : World.setRow _ _ _ = w5; have HZZ : Hid (w5.heap[w.heap.size + 1]? = some (.cells (mtA 0 zeroR (.slice none 0 0)) 63 (0, 0))) := (by show _ = _; rw [<- hW4, setRow_other _ _ _ _ (by have := HZL.out; omega)]; exact HZ4.out); have HEE : Hid (Below w.heap.size w w5) := (by rw [<- hW4]; exact below_setRow HE4.out (by have := HZL.out; omega) _); clear hW4)
   | (refine wpList_store_row rfl 63 (.tmp 4) (.tmp 35) rfl (w.heap.size + 1) (mtA 0 zeroR (.slice none 0 0)) rfl rfl 63 _ HZZ.out (by rw [meta18]; rfl) rfl (mtA_one _ _ _ _ _) ?_)
   | fail)
  refine bodyPost_ret (results_row_tmp rfl _ _ (w.heap.size + 1) _ (mtA 0 zeroR (.slice none 0 0)) (0, 0) _ rfl (setRow_heap _ _ _ _ _ _ HZZ.out) Tryz.underlying63 rfl (by rw [meta18]; rfl)) rfl ?_
  exact ⟨by unfold MParse; rw [HMN.out]; rfl, below_setRow HEE.out (by omega) _⟩
 | some xr =>
  obtain ⟨x, R⟩ := xr
  have h16 := hdL_16 hh
  have H16 := Lib.hid h16
  have HHD := Lib.hid hh
  have HMN0 : Hid (metaN n L = match mapsPg (L.drop 1) with
   | none => none
   | some P => if mayM x (P.take n) && !(P.drop n).any (fun p => !freeP p) then some (x, R, P.take n) else none) := by
   show _ = _; unfold metaN; rw [<- HB0.out, hh]; rfl
  clear hh h16
  obtain ⟨HV, hHV⟩ : ∃ HV, HV = headV (some (x, R)) := ⟨_, rfl⟩
  have hv1 : HV = .tuple #[.agg (rtA x R), .int .i64 0] := hHV
  rw [<- hHV, hv1]
  clear hHV hv1 HV
  have HY : Hid ((w3.alloc (.cells #[.int .u64 0, .int .u64 0, .int .u64 0, .int .u64 0, .int .u64 0, .int .u64 0, .int .u64 0, .int .u64 0, .int .u64 0, .int .u64 0, .int .u64 0, .int .u64 0, .int .u64 0, .int .u64 0, .int .u64 0, .int .u64 0, .int .u64 0] 60)).heap[w3.heap.size]? = some (.cells (rtA 0 zeroR) 60 (0, 0))) := heap_new' _ _
  have hy3 := below_box w3 (.cells #[.int .u64 0, .int .u64 0, .int .u64 0, .int .u64 0, .int .u64 0, .int .u64 0, .int .u64 0, .int .u64 0, .int .u64 0, .int .u64 0, .int .u64 0, .int .u64 0, .int .u64 0, .int .u64 0, .int .u64 0, .int .u64 0, .int .u64 0] 60)
  have HZ4 := Lib.hid ((hy3.block _ (lt_of_block HZ3.out)).trans HZ3.out)
  have HG4 := Lib.hid ((hy3.block _ (lt_of_block HG3.out)).trans HG3.out)
  have HE4 : Hid (Below w.heap.size w (w3.alloc (.cells #[.int .u64 0, .int .u64 0, .int .u64 0, .int .u64 0, .int .u64 0, .int .u64 0, .int .u64 0, .int .u64 0, .int .u64 0, .int .u64 0, .int .u64 0, .int .u64 0, .int .u64 0, .int .u64 0, .int .u64 0, .int .u64 0, .int .u64 0] 60))) := HE3.out.trans (hy3.mono HE3.out.size)
  have HR4 := Lib.hid (HR3.out.up hy3 (Nat.le_refl _))
  have HZL : Hid (w.heap.size + 1 < w3.heap.size) := lt_of_block HZ3.out
  clear hy3 HZ3 HG3 HE3
  go_wp2_with (first
   | (refine wpList_store_row rfl 60 (.tmp 6) (.tmp 31) rfl w3.heap.size (rtA x R) rfl rfl 60 _ HY.out (by rw [roots17, rtA_size, H16.out]) (by simp [rtA_size, H16.out, zeroR]) (rtA_one _ _) ?_; generalize hW4 : World.setRow _ _ _ = w5; have HZ5 : Hid (w5.heap[w.heap.size + 1]? = some (.cells (mtA 0 zeroR (.slice none 0 0)) 63 (0, 0))) := (by show _ = _; rw [<- hW4, setRow_other _ _ _ _ (by have := HZL.out; omega)]; exact HZ4.out); have HG5 : Hid (w5.heap[w.heap.size]? = some (.cells #[.int .i64 (n : Int), .int .i64 t] 31 (0, 0))) := (by show _ = _; rw [<- hW4, setRow_other _ _ _ _ (by have := HZL.out; omega)]; exact HG4.out); have HX5 : Hid (w5.heap[w3.heap.size]? = some (.cells (rtA x R) 60 (0, 0))) := (by show _ = _; rw [<- hW4]; exact setRow_heap _ _ _ _ _ _ HY.out); have HE5 : Hid (Below w.heap.size w w5) := (by rw [<- hW4]; exact below_setRow HE4.out (by have := HZL.out; omega) _); have HXL : Hid (w3.heap.size + 1 <= w5.heap.size) := lt_of_block HX5.out; clear hW4)
   | (refine wpList_sliceR (by rfl) (.tmp 37) (.const (.int .i64 1)) (l := 1) rfl rfl rfl (by have := HKM.out; omega) ?_)
   | fail)
  clear HZ4 HG4 HE4 HR4 HR3 HY
  have hk1 : k - 1 = mm := by have := HKM.out; omega
  rw [hk1]
  clear hk1
  go_loopw [8, 40] (fun v vi wr => ∃ j : Nat, j <= mm /\ vi = .int .i64 (j : Int) /\ ∃ a m c Q, v = .slice a m c /\ Hid (m = 16 * j /\ Q.length = m) /\ Hid (mapsPg (L.drop 1) = (mapsPg (L.drop (1 + j))).map (Q ++ ·)) /\ Hid (wr.ownsRow (w3.heap.size + 1) 100 5 (.slice a m c) m (cellsP Q)) /\ Hid (∀ p ∈ Q, p.size < 4294967296) /\ Hid (wr.heap[w.heap.size + 1]? = some (.cells (mtA 0 zeroR (.slice none 0 0)) 63 (0, 0))) /\ Hid (wr.heap[w.heap.size]? = some (.cells #[.int .i64 (n : Int), .int .i64 t] 31 (0, 0))) /\ Hid (wr.heap[w3.heap.size]? = some (.cells (rtA x R) 60 (0, 0))) /\ Hid (Below w.heap.size w wr) /\ Hid (w3.heap.size + 1 <= wr.heap.size)) (fun _ vi _ => mm - (intOf vi).toNat)
  case atStart => exact ⟨0, by omega, rfl, none, 0, 0, [], rfl, ⟨rfl, rfl⟩, by show _ = _; simp, World.ownsRow_nil _ _ _ _, (fun p h => by cases h), HZ5.out, HG5.out, HX5.out, HE5.out, HXL.out⟩
  case round =>
   clear HZ5 HG5 HX5 HE5 HXL
   obtain ⟨j, hj, rfl, a, m, c, Q, rfl, hm, hmp, hown, hqs, hz, hgg, hx, hbel, hsz⟩ := hrel
   have hmm4 := HKM.out.2.2.1
   by_cases hlt : j < mm
   ·have hd : decide ((j : Int) < (mm : Int)) = true := by simp; omega
    have dl : (j : Int) < (mm : Int) := by omega
    have d0 : ¬ (j : Int) < 0 := by omega
    have hjl : j < (L.drop 1).length := by rw [List.length_drop, HL.out]; have := HKM.out; omega
    obtain ⟨b, hb⟩ : ∃ b, b = (L.drop 1)[j] := ⟨_, rfl⟩
    have hget : (L.drop 1)[j]? = some b := by rw [hb]; exact List.getElem?_eq_getElem hjl
    have hbl : b.length = 256 := H256.out _ (List.mem_of_mem_drop (List.mem_of_getElem? hget))
    have hdr : L.drop (1 + j) = b :: L.drop (1 + (j + 1)) := by
     rw [<- List.drop_drop, List.drop_eq_getElem_cons hjl, hb, List.drop_drop]
    obtain ⟨g', o', v0, e1, hgl, hc0, hs0⟩ := ((HRW.out.up hbel.out (Nat.le_refl _)).drop 1 (by rw [HL.out]; exact HCP.out)) j b hget
    cases e1
    obtain ⟨a0, c0, rfl, hbb, hn0, hlc, hcm⟩ := hs0
    obtain ⟨gk, ok, rfl, _, hgk, _⟩ := hbb.2 (by rw [hbl]; omega)
    have HPP := Lib.hid (pparse_c gk ok c0 b.length b hbl (by rw [hbl]) (by rw [hbl] at hlc; exact hlc) wr hbb)
    have hmp2 := hmp.out
    rw [hdr, mapsPg_cons] at hmp2
    have HMP := Lib.hid hmp2
    have HJ := Lib.hid hlt
    have HB8 : Hid (∀ x ∈ b, x < 256) := hbb.1
    obtain ⟨ln, hln⟩ : ∃ ln, ln = b.length := ⟨_, rfl⟩
    rw [<- hln] at hc0 HPP
    clear hb hget hbl hdr hbb hn0 hlc hcm hgk hmp hmp2 hln hlt hj hgl hjl
    go_wp2_with fail
    refine HPP.out.mono ?_
    rintro e w6 ⟨hres, hb6⟩
    have hz6 := Lib.hid ((hb6.block _ (lt_of_block hz.out)).trans hz.out)
    have hg6 := Lib.hid ((hb6.block _ (lt_of_block hgg.out)).trans hgg.out)
    have hx6 := Lib.hid ((hb6.block _ (lt_of_block hx.out)).trans hx.out)
    have he6 : Hid (Below w.heap.size w w6) := hbel.out.trans (hb6.mono hbel.out.size)
    have ho6 := Lib.hid (own_up hown.out hb6)
    have hs6 : Hid (w3.heap.size + 1 <= w6.heap.size) := Nat.le_trans hsz.out hb6.size
    unfold ParsePg at hres
    cases hpp : parseP b with
    | none =>
     rw [hpp] at hres
     simp only at hres
     subst hres
     have HMN : Hid (metaN n L = none) := by show _ = _; rw [HMN0.out, HMP.out, hpp]; rfl
     have HZZ := hz6
     have HEE := he6
     clear hpp HPP HMP hz hgg hx hbel hown hsz hz6 hg6 hx6 he6 ho6 hs6 hb6 hc0
     go_wp2_with (first
      | (refine wpList_store_row rfl 63 (.tmp 4) (.tmp 51) rfl (w.heap.size + 1) (mtA 0 zeroR (.slice none 0 0)) rfl rfl 63 _ HZZ.out (by rw [meta18]; rfl) rfl (mtA_one _ _ _ _ _) ?_)
      | fail)
     refine bodyPost_ret (results_row_tmp rfl _ _ (w.heap.size + 1) _ (mtA 0 zeroR (.slice none 0 0)) (0, 0) _ rfl (setRow_heap _ _ _ _ _ _ HZZ.out) Tryz.underlying63 rfl (by rw [meta18]; rfl)) rfl ?_
     exact ⟨by unfold MParse; rw [HMN.out]; rfl, below_setRow HEE.out (by omega) _⟩
    | some P =>
     rw [hpp] at hres
     simp only at hres
     obtain ⟨v1, rfl, hown1⟩ := hres
     obtain ⟨pa, pc, rfl⟩ := own_sliceR hown1
     have hpl := parseP_len hpp
     have HP1 := Lib.hid (pgs_of_own hown1)
     have HPL : Hid (P.length = 16) := hpl
     obtain ⟨pg, pcap, hv9, _, _⟩ := own_some hown1 (by omega)
     cases hv9
     have HQS : Hid (∀ p ∈ Q ++ P, p.size < 4294967296) := fun p hp => (List.mem_append.1 hp).elim (hqs.out p) (fun h => by rw [(parseP_eq hpp).1] at h; exact pgsN_size b HB8.out p h)
     have HMP2 : Hid (mapsPg (L.drop 1) = (mapsPg (L.drop (1 + (j + 1)))).map ((Q ++ P) ++ ·)) := by
      show _ = _; rw [HMP.out, hpp]
      cases mapsPg (L.drop (1 + (j + 1))) with
      | none => rfl
      | some S => simp
     have HM16 : Hid (m + 16 <= 1000000 /\ m + 16 = 16 * (j + 1)) := by have h1 := hm.out.1; have h2 := HKM.out; have h3 := HJ.out; exact ⟨by omega, by omega⟩
     have HQL : Hid ((Q ++ P).length = m + 16) := by show _ = _; rw [List.length_append, hm.out.2, hpl]
     clear hpp HPP HMP hz hgg hx hbel hown hsz hb6 hc0 hpl hown1 hqs hm
     go_wp2_with (first
      | (refine wpList_append_pgs (base := w3.heap.size + 1) (n := m) (v := .slice a m c) (L := Q) (m := 16) (M := P) rfl (.tmp 53) (.tmp 54) rfl rfl ho6.out rfl HPL.out HP1.out (fun h => by cases h) (fun p hp => by cases hp; rfl) HM16.out.1 hs6.out ?_; intro v7 w7 hown7 hgr7; obtain ⟨a7, c7, hv7⟩ := own_sliceR hown7; subst hv7; have ho7 := Lib.hid hown7; have hlow : ∀ q, q < w3.heap.size + 1 -> w7.heap[q]? = w6.heap[q]? := (fun q hq => hgr7.block q (Nat.lt_of_lt_of_le hq hs6.out) (fun e => by have := (ho6.out.lt q e.symm).1; omega)); have hz7 := Lib.hid ((hlow (w.heap.size + 1) (by have := HZL.out; omega)).trans hz6.out); have hg7 := Lib.hid ((hlow w.heap.size (by have := HZL.out; omega)).trans hg6.out); have hx7 := Lib.hid ((hlow w3.heap.size (by omega)).trans hx6.out); have he7 : Hid (Below w.heap.size w w7) := he6.out.grown hgr7 he6.out.size (fun q e => by have := (ho6.out.lt q e).1; have := HZL.out; omega); have hs7 : Hid (w3.heap.size + 1 <= w7.heap.size) := Nat.le_trans hs6.out hgr7.size; clear hown7 hgr7 hlow)
      | fail)
     go_roundw
     case rel => exact ⟨j + 1, by have := HJ.out; omega, by go_num, a7, m + 16, c7, Q ++ P, rfl, ⟨HM16.out.2, HQL.out⟩, HMP2.out, ho7.out, HQS.out, hz7.out, hg7.out, hx7.out, he7.out, hs7.out⟩
     case measure => simp [intOf]; have := HJ.out; omega
   ·have hjm : j = mm := by omega
    have hd : decide ((j : Int) < (mm : Int)) = false := by simp; omega
    have dl : ¬ (j : Int) < (mm : Int) := by omega
    have hQ2 : mapsPg (L.drop 1) = some Q := by
     rw [hmp.out, List.drop_of_length_le (by rw [HL.out]; have := HKM.out; omega)]
     show some (Q ++ []) = _; rw [List.append_nil]
    have HMN1 : Hid (metaN n L = if mayM x (Q.take n) && !(Q.drop n).any (fun p => !freeP p) then some (x, R, Q.take n) else none) := by show _ = _; rw [HMN0.out, hQ2]
    have hmn : n <= m := by have h1 := hm.out.1; have h2 := HKM.out; have h3 : mm = mapsN n := h2.2.2.2.1; unfold mapsN at h3; omega
    have hm64 : m <= 64 := by have h1 := hm.out.1; have h2 := HKM.out; omega
    have hm1 : 1 <= m := by have h2 := HKM.out; omega
    obtain ⟨lg, lc, hlv, hlg, _⟩ := own_some hown.out (by omega)
    cases hlv
    have hql := hm.out.2
    have hmc : m <= c := by
     rcases hown.out.2 with ⟨h9, _⟩ | ⟨g9, cap9, cur9, e1, e2, e3, e4, _⟩
     ·cases h9
     ·cases e1; exact e4
    have HPQ := Lib.hid (pgs_of_own hown.out)
    have HNM : Hid (n <= m /\ m <= 64 /\ m <= c /\ Q.length = m) := ⟨hmn, hm64, hmc, hql⟩
    clear hQ2 hmp hm hjm hj hlt HMN0
    go_wp2
    refine regionMP w.heap.size w3.heap.size lg m c n x t R Q wr.heap.size wr hgg.out hx.out H16.out HPQ.out (by rw [hql]; exact hmn) hql hmc (by omega) (Nat.le_refl _) ?_
    intro vs w8 hv hk
    obtain ⟨a6, c6, v6, o6⟩ := hv 6 (by omega)
    obtain ⟨b7, v7, hb7, f7⟩ := hv 7 (by omega)
    have hz8 := (hk.block _ (lt_of_block hz.out)).trans hz.out
    have hg8 := (hk.block _ (lt_of_block hgg.out)).trans hgg.out
    have hp8 := HPQ.out.up hk (Nat.le_refl _)
    have he8 : Below w.heap.size w w8 := hbel.out.trans (hk.mono hbel.out.size)
    have ho6 : w8.ownsRow wr.heap.size 100 5 (.slice a6 n c6) n (cellsP (Q.take n)) := o6
    rw [v6, v7]
    clear hv hk v6 v7 o6
    have hzl := lt_of_block hz.out
    have HBL : Hid (w.heap.size + 1 < wr.heap.size) := hzl
    have hgl := lt_of_block hgg.out
    have HBZ : Hid (w.heap.size + 1 < b7 /\ w.heap.size ≠ b7 /\ w.heap.size + 1 ≠ b7) := ⟨by omega, by omega, by omega⟩
    refine wpList_store_row rfl 63 (.tmp 13) (.tmp 63) rfl b7 (mtA x R (.slice a6 n c6)) rfl rfl 63 _ f7 (by rw [meta18, mtA_size, H16.out]) (by rw [mtA_size, H16.out]; rfl) (mtA_one _ _ _ _ _) ?_
    have HM9 : Hid ((w8.setRow b7 (mtA x R (.slice a6 n c6))).heap[b7]? = some (.cells (mtA x R (.slice a6 n c6)) 63 (0, 0))) := setRow_heap _ _ _ _ _ _ f7
    have HZ9 : Hid ((w8.setRow b7 (mtA x R (.slice a6 n c6))).heap[w.heap.size + 1]? = some (.cells (mtA 0 zeroR (.slice none 0 0)) 63 (0, 0))) := (setRow_other _ _ _ _ HBZ.out.2.2).trans hz8
    have HG9 : Hid ((w8.setRow b7 (mtA x R (.slice a6 n c6))).heap[w.heap.size]? = some (.cells #[.int .i64 (n : Int), .int .i64 t] 31 (0, 0))) := (setRow_other _ _ _ _ HBZ.out.2.1).trans hg8
    have HE9 : Hid (Below w.heap.size w (w8.setRow b7 (mtA x R (.slice a6 n c6)))) := below_setRow he8 (by omega) _
    have HK9 : Hid (∀ q, q ≠ b7 -> (w8.setRow b7 (mtA x R (.slice a6 n c6))).heap[q]? = w8.heap[q]?) := fun q hq => setRow_other _ _ _ _ hq
    have HS9 : Hid ((w8.setRow b7 (mtA x R (.slice a6 n c6))).heap.size = w8.heap.size) := by show _ = _; simp [World.setRow]
    generalize w8.setRow b7 (mtA x R (.slice a6 n c6)) = w9 at *
    have HO9 : Hid (w9.ownsRow wr.heap.size 100 5 (.slice a6 n c6) n (cellsP (Q.take n))) := own_keep ho6 (fun q hq => HK9.out q (by
     rintro rfl
     rcases ho6.2 with ⟨h9, _⟩ | ⟨g9, cap9, cur9, e1, e2, e3, e4⟩
     ·rw [h9] at hq; cases hq
     ·rw [e1] at hq; cases hq
      rw [e3] at f7; cases f7))
    have HP9 : Hid (PgsAt w9 (some ⟨lg, 0, none⟩) Q) := fun i p hp => by
     obtain ⟨g9, o9, e1, e2, e3⟩ := hp8 i p hp
     cases e1
     refine ⟨lg, 0, rfl, by rw [HS9.out]; exact e2, fun q u hu => ?_⟩
     rw [World.cell?_of_block (HK9.out lg (by omega))]; exact e3 q u hu
    have HSZ : Hid (∀ p ∈ Q.take n, p.size < 4611686018427387904) := fun p hp => by have := hqs.out p (List.mem_of_mem_take hp); omega
    have HLT : Hid ((Q.take n).length = n) := by show _ = _; rw [List.length_take]; omega
    have HMY : Hid (∀ w', Below w9.heap.size w9 w' -> Calls Tryz.prog 40 #[.agg (mtA x R (.slice a6 n c6)), .agg #[.int .i64 (n : Int), .int .i64 t]] w' fun e w'' => e = .returned (.bool (mayM x (Q.take n))) /\ Below w'.heap.size w' w'') := fun w' h =>
     mmay_c x R H16.out a6 n c6 t HGB.out (Q.take n) HLT.out HSZ.out w' ((pgs_of_own HO9.out).up h (Nat.le_refl _))
    clear ho6 hp8 he8 hg8 hz8 f7 hz hgg hx hbel hown hqs hsz HPQ hzl hgl hmn hm64 hm1 hql hmc hlg hb7
    go_wp2_with (first
     | (refine wpList_load_row rfl 63 (.tmp 13) rfl b7 rfl _ _ _ _ HM9.out Tryz.underlying63 rfl (by rw [meta18, mtA_size, H16.out]) ?_)
     | (refine wpList_load_row rfl 31 (.tmp 2) rfl w.heap.size rfl _ _ _ _ HG9.out Tryz.underlying31 rfl (by rw [geo2]; rfl) ?_)
     | fail)
    refine (HMY.out w9 (Below.refl _ _)).mono ?_
    rintro e w10 ⟨rfl, hb10⟩
    have HM10 := Lib.hid ((hb10.block _ (lt_of_block HM9.out)).trans HM9.out)
    have HZZ := Lib.hid ((hb10.block _ (lt_of_block HZ9.out)).trans HZ9.out)
    have HG10 := Lib.hid ((hb10.block _ (lt_of_block HG9.out)).trans HG9.out)
    have HEE : Hid (Below w.heap.size w w10) := HE9.out.trans (hb10.mono HE9.out.size)
    have HO10 := Lib.hid (own_up HO9.out hb10)
    have HP10 := Lib.hid (HP9.out.up hb10 (Nat.le_refl _))
    have c10 := (cells_at HG10.out 0).trans (show _ = some (Value.int .i64 (n : Int)) from rfl)
    clear hb10 HM9 HZ9 HG9 HE9 HK9 HS9 HO9 HP9 HMY
    cases hmy : mayM x (Q.take n) with
    | false =>
     have HMN : Hid (metaN n L = none) := by show _ = _; rw [HMN1.out, hmy]; rfl
     clear hmy
     go_wp2_with (first
      | (refine wpList_store_row rfl 63 (.tmp 4) (.tmp 75) rfl (w.heap.size + 1) (mtA 0 zeroR (.slice none 0 0)) rfl rfl 63 _ HZZ.out (by rw [meta18]; rfl) rfl (mtA_one _ _ _ _ _) ?_)
      | fail)
     refine bodyPost_ret (results_row_tmp rfl _ _ (w.heap.size + 1) _ (mtA 0 zeroR (.slice none 0 0)) (0, 0) _ rfl (setRow_heap _ _ _ _ _ _ HZZ.out) Tryz.underlying63 rfl (by rw [meta18]; rfl)) rfl ?_
     exact ⟨by unfold MParse; rw [HMN.out]; rfl, below_setRow HEE.out (by omega) _⟩
    | true =>
     rw [hmy, Bool.true_and] at HMN1
     have HCF : Hid (Calls Tryz.prog 41 #[.slice (some ⟨lg, subP 0 c n, none⟩) (m - n) (c - n), .func (.func 42) #[] #[]] w10 fun e w' => e = .returned (.bool ((Q.drop n).any (fun p => !freeP p))) /\ Below w10.heap.size w10 w') := by
      show Calls _ _ _ _ _
      refine cf_nonzero_c _ (m - n) (c - n) (Q.drop n) (by rw [List.length_drop, HNM.out.2.2.2]) (by have := HNM.out.2.1; omega) w10 (HP10.out.drop n ?_)
      rw [HNM.out.2.2.2]; exact HNM.out.2.2.1
     clear hmy
     go_wp2_with (first
      | (refine wpList_sliceP (by rfl) (.tmp 69) (.tmp 71) (l := n) rfl rfl rfl HNM.out.1 ?_)
      | fail)
     refine HCF.out.mono ?_
     rintro e w11 ⟨rfl, hb11⟩
     have HM11 := Lib.hid ((hb11.block _ (lt_of_block HM10.out)).trans HM10.out)
     have HZ11 := Lib.hid ((hb11.block _ (lt_of_block HZZ.out)).trans HZZ.out)
     have HE11 : Hid (Below w.heap.size w w11) := HEE.out.trans (hb11.mono HEE.out.size)
     have HO11 := Lib.hid (own_up HO10.out hb11)
     clear hb11 HM10 HZZ HG10 HEE HO10 HP10 HCF c10
     have HZZ := HZ11
     have HEE := HE11
     clear HZ11 HE11
     cases hnz : (Q.drop n).any (fun p => !freeP p) with
     | true =>
      have HMN : Hid (metaN n L = none) := by show _ = _; rw [HMN1.out, hnz]; rfl
      clear hnz
      go_wp2_with (first
       | (refine wpList_store_row rfl 63 (.tmp 4) (.tmp 75) rfl (w.heap.size + 1) (mtA 0 zeroR (.slice none 0 0)) rfl rfl 63 _ HZZ.out (by rw [meta18]; rfl) rfl (mtA_one _ _ _ _ _) ?_)
       | fail)
      refine bodyPost_ret (results_row_tmp rfl _ _ (w.heap.size + 1) _ (mtA 0 zeroR (.slice none 0 0)) (0, 0) _ rfl (setRow_heap _ _ _ _ _ _ HZZ.out) Tryz.underlying63 rfl (by rw [meta18]; rfl)) rfl ?_
      exact ⟨by unfold MParse; rw [HMN.out]; rfl, below_setRow HEE.out (by omega) _⟩
     | false =>
      have HMN : Hid (metaN n L = some (x, R, Q.take n)) := by show _ = _; rw [HMN1.out, hnz]; rfl
      clear hnz
      go_wp2_with (first
       | (refine wpList_load_row rfl 63 (.tmp 13) rfl b7 rfl _ _ _ _ HM11.out Tryz.underlying63 rfl (by rw [meta18, mtA_size, H16.out]) ?_)
       | (refine wpList_store_row rfl 63 (.tmp 4) (.tmp 76) rfl (w.heap.size + 1) (mtA x R (.slice a6 n c6)) rfl rfl 63 _ HZZ.out (by rw [meta18, mtA_size, H16.out]) (by simp [mtA_size, H16.out, zeroR]) (mtA_one _ _ _ _ _) ?_)
       | fail)
      refine bodyPost_ret (results_row_tmp rfl _ _ (w.heap.size + 1) _ (mtA x R (.slice a6 n c6)) (0, 0) _ rfl (setRow_heap _ _ _ _ _ _ HZZ.out) Tryz.underlying63 rfl (by rw [meta18, mtA_size, H16.out])) rfl ?_
      refine ⟨?_, below_setRow HEE.out (by omega) _⟩
      unfold MParse
      rw [HMN.out]
      refine ⟨a6, c6, rfl, own_keep (own_mono HO11.out ?_) (fun q hq => setRow_other _ _ _ _ ?_)⟩
      ·have := HBL.out; omega
      ·have h9 := (HO11.out.lt q hq).1
       have := HBL.out
       omega
def wdN (c : Nat) : Nat := sz c + 8
/-- a slot's bytes -/
def winL (b : List Nat) (c k : Nat) : List Nat := (b.drop (k * wdN c)).take (wdN c)
/-- may a page of a class be -/
def pageOk (b : List Nat) (c : Nat) : Bool := decide (c < 8) && (List.range (slotsN c)).all (fun k => okW (winL b c k)) && zeroB (b.drop (slotsN c * wdN c))
def chkS (b : List Nat) (c : Nat) : Int := if pageOk b c then 0 else 4
theorem slots_lt {c k : Nat} (hk : k < slotsN c) : c < 8 := by
 rcases Nat.lt_or_ge c 8 with h | h
 ·exact h
 ·have : slotsN c = 0 := by unfold slotsN; rw [if_pos (sz_big c h)]
  omega
theorem win_bounds {c k : Nat} (hk : k < slotsN c) : k * wdN c + wdN c <= 256 /\ 16 <= wdN c /\ wdN c <= 128 := by
 have hc := slots_lt hk
 have h1 := sz_le_all c hc
 have h2 := slots_all c hc
 unfold wdN
 refine ⟨?_, by omega, by omega⟩
 have : (k + 1) * (sz c + 8) <= slotsN c * (sz c + 8) := Nat.mul_le_mul_right _ hk
 rw [Nat.succ_mul] at this
 omega
theorem winL_len {b : List Nat} (hb : b.length = 256) {c k : Nat} (hk : k < slotsN c) : (winL b c k).length = wdN c := by
 have := (win_bounds hk).1
 unfold winL; rw [List.length_take, List.length_drop, hb]; omega
theorem window_yes (g o n cap c k : Nat) (hk : k < slotsN c) (hcap : 256 <= cap) (w : World) :
  Calls Tryz.prog 74 #[.slice (some ⟨g, o, none⟩) n cap, .int .i64 (c : Int), .int .i64 (k : Int)] w fun e w' => e = .returned (.slice (some ⟨g, o + k * wdN c, none⟩) (wdN c) (wdN c)) /\ w = w' := by
 have hb := win_bounds hk
 have HP := Lib.hid (fun w => place_yes c k hk w)
 obtain ⟨y, hy⟩ : ∃ y, y = wdN c := ⟨_, rfl⟩
 have hy2 : sz c + 8 = y := hy.symm
 rw [hy2] at HP
 rw [<- hy] at hb ⊢
 obtain ⟨x, hx⟩ : ∃ x, x = k * y := ⟨_, rfl⟩
 rw [<- hx] at HP hb ⊢
 obtain ⟨z, hz⟩ : ∃ z, z = x + y := ⟨_, rfl⟩
 have e1 : IntKind.i64.wrap ((x : Int) + (y : Int)) = (z : Int) := by rw [show (x : Int) + (y : Int) = (z : Int) by omega]; exact IntWalk.i64_in _ (by omega)
 have hs := run_subM g o n cap x z (by omega) (by omega)
 have HZ : Hid (z - x = y) := by show _ = _; omega
 clear hk hcap hb hy hy2 hx hz
 go_enter Tryz.func74, Tryz.ntmps74
 go_wp2_with fail
 refine (HP.out w).mono ?_
 rintro e w1 ⟨rfl, rfl⟩
 rw [HZ.out] at hs
 go_wp2
 go_ret
 exact ⟨rfl, rfl⟩
theorem window_no (v : Value) (c k : Nat) (hk : slotsN c <= k) (w : World) :
  Calls Tryz.prog 74 #[v, .int .i64 (c : Int), .int .i64 (k : Int)] w fun e w' => e = .returned (.slice none 0 0) /\ w = w' := by
 have HP := Lib.hid (fun w => place_no c k hk w)
 clear hk
 go_enter Tryz.func74, Tryz.ntmps74
 go_wp2_with fail
 refine (HP.out w).mono ?_
 rintro e w1 ⟨rfl, rfl⟩
 go_wp2
 go_ret
 exact ⟨rfl, rfl⟩
theorem win_at {w : World} {g o cap : Nat} {b : List Nat} (hb : b.length = 256) (h : BytesAt w (some ⟨g, o, none⟩) cap b) {c k : Nat} (hk : k < slotsN c) : BytesAt w (some ⟨g, o + k * wdN c, none⟩) (wdN c) (winL b c k) := by
 have hl := winL_len hb hk
 have hbd := win_bounds hk
 refine ⟨fun x hx => h.1 x (List.mem_of_mem_drop (List.mem_of_mem_take hx)), fun h0 => ?_⟩
 obtain ⟨g', o', e1, h2, h3, h4⟩ := h.2 (by omega)
 cases e1
 refine ⟨g, _, rfl, by rw [hl]; exact Nat.le_refl _, h3, fun j hj => ?_⟩
 rw [hl] at hj
 rw [Nat.add_assoc, h4 (k * wdN c + j) (by omega), List.getD_eq_getElem?_getD, List.getD_eq_getElem?_getD]
 unfold winL
 rw [List.getElem?_take_of_lt hj, List.getElem?_drop]
theorem all_range_succ (f : Nat -> Bool) (k : Nat) : (List.range (k + 1)).all f = ((List.range k).all f && f k) := by
 rw [List.range_succ, List.all_append]; simp
theorem all_range_bad (f : Nat -> Bool) (n k : Nat) (h : k < n) (hf : f k = false) : (List.range n).all f = false := by
 rw [List.all_eq_false]; exact ⟨k, List.mem_range.2 h, by simp [hf]⟩
theorem scheck_c (g o n cap : Nat) (b : List Nat) (hb : b.length = 256) (hn : n = 256) (hcap : 256 <= cap) (c : Nat) (w : World) (h : BytesAt w (some ⟨g, o, none⟩) cap b) :
  Calls Tryz.prog 44 #[.slice (some ⟨g, o, none⟩) n cap, .int .i64 (c : Int)] w fun e w' => e = .returned (.int .i64 (chkS b c)) /\ w = w' := by
 have HB := Lib.hid hb
 have HN := Lib.hid hn
 have HC := Lib.hid hcap
 have HH := Lib.hid h
 have dn : ((n : Int) == 256) = true := by rw [hn]; rfl
 have inn : (n : Int) = 256 := by rw [hn]; rfl
 have HS := Lib.hid (fun w => size_c c w)
 have HL := Lib.hid (fun w => slots_c c w)
 by_cases hc : c < 8
 ·have h1 := sz_le_all c hc
  have h2 := slots_all c hc
  obtain ⟨z, hz⟩ : ∃ z, z = sz c := ⟨_, rfl⟩
  obtain ⟨s, hs⟩ : ∃ s, s = slotsN c := ⟨_, rfl⟩
  have hz0 : ((z : Int) == 0) = false := by rw [beq_eq_false_iff_ne]; omega
  have hzi : ¬ (z : Int) = 0 := by omega
  rw [<- hz] at HS
  rw [<- hs] at HL
  have HCS : Hid (c < 8 /\ s = slotsN c /\ s <= 16) := ⟨hc, hs, by omega⟩
  clear hb hn hcap h h1 h2 hz hs hc
  go_enter Tryz.func44, Tryz.ntmps44
  go_wp2_with fail
  refine (HS.out w).mono ?_
  rintro e w1 ⟨rfl, rfl⟩
  go_wp2_with fail
  refine (HL.out w).mono ?_
  rintro e w1 ⟨rfl, rfl⟩
  go_wp2
  go_loop [5, 18] (fun ve vi => ∃ k en : Nat, k <= s /\ vi = .int .i64 (k : Int) /\ ve = .int .i64 (en : Int) /\ Hid (en = k * wdN c) /\ Hid ((List.range k).all (fun k => okW (winL b c k)) = true)) (fun _ vi => s - (RowKit.intOf vi).toNat)
  case atStart => exact ⟨0, 0, by omega, rfl, rfl, by show _ = _; simp, rfl⟩
  case round =>
   obtain ⟨k, en, hk, rfl, rfl, hen, hall⟩ := hrel
   have hs16 := HCS.out.2.2
   by_cases hlt : k < s
   ·have hd : decide ((k : Int) < (s : Int)) = true := by simp; omega
    have dl : (k : Int) < (s : Int) := by omega
    have hks : k < slotsN c := by rw [<- HCS.out.2.1]; exact hlt
    have HW := Lib.hid (window_yes g o n cap c k hks HC.out w)
    have hwb := win_bounds hks
    have HM := Lib.hid (slmay_c g (o + k * wdN c) (wdN c) (wdN c) (winL b c k) (winL_len HB.out hks) (by omega) (by omega) w (win_at HB.out HH.out hks))
    obtain ⟨y, hy⟩ : ∃ y, y = wdN c := ⟨_, rfl⟩
    obtain ⟨a, ha⟩ : ∃ a, a = o + k * wdN c := ⟨_, rfl⟩
    rw [<- ha, <- hy] at HW HM
    rw [<- hy] at hwb
    have hey : en + y <= 256 := by rw [hen.out, <- hy] at *; omega
    have HK := Lib.hid hlt
    have HEN : Hid (en + y = (k + 1) * wdN c) := by show _ = _; rw [hen.out, <- hy, Nat.succ_mul]
    cases hok : okW (winL b c k) with
    | true =>
     rw [hok] at HM
     have HA : Hid ((List.range (k + 1)).all (fun k => okW (winL b c k)) = true) := by show _ = _; rw [all_range_succ, hall.out, hok]; rfl
     clear hok hen hall ha hy hks hk hlt hwb
     go_wp2_with fail
     refine HW.out.mono ?_
     rintro e w1 ⟨rfl, rfl⟩
     go_wp2_with fail
     refine HM.out.mono ?_
     rintro e w1 ⟨rfl, rfl⟩
     go_wp2
     go_round
     case rel => exact ⟨k + 1, en + y, by have := HK.out; omega, by go_num, by go_num, HEN.out, HA.out⟩
     case measure => simp [RowKit.intOf]; have := HK.out; omega
    | false =>
     rw [hok] at HM
     have HR : Hid (chkS b c = 4) := by
      show _ = _; unfold chkS pageOk
      rw [all_range_bad (fun k => okW (winL b c k)) (slotsN c) k hks hok]; simp
     clear hok hen hall ha hy hks hk hlt hwb
     go_wp2_with fail
     refine HW.out.mono ?_
     rintro e w1 ⟨rfl, rfl⟩
     go_wp2_with fail
     refine HM.out.mono ?_
     rintro e w1 ⟨rfl, rfl⟩
     go_wp2
     go_ret
     exact ⟨by rw [HR.out]; rfl, rfl⟩
   ·have hks : k = s := by omega
    have hd : decide ((k : Int) < (s : Int)) = false := by simp; omega
    have dl : ¬ (k : Int) < (s : Int) := by omega
    have hen2 : en = slotsN c * wdN c := by rw [hen.out, hks, HCS.out.2.1]
    have hle : en <= 256 := by
     rw [hen2]
     have := slots_all c HCS.out.1
     exact this.1
    have hall2 := hall.out
    rw [hks, HCS.out.2.1] at hall2
    have HZ : Hid (Calls Tryz.prog 46 #[.slice (some ⟨g, subO o cap en, none⟩) (n - en) (cap - en)] w fun e w' => e = .returned (.bool (zeroB (b.drop en))) /\ w = w') := by
     have hbs := HH.out.sub (lo := en) (hi := 256) hle (by rw [HB.out]; exact Nat.le_refl _)
     rw [List.take_of_length_le (by rw [List.length_drop, HB.out]; exact Nat.le_refl _)] at hbs
     exact zero_c _ _ _ _ (by rw [List.length_drop, HB.out, HN.out]) (by have := HN.out; omega) w hbs
    have HR : Hid (chkS b c = if zeroB (b.drop en) then 0 else 4) := by
     show _ = _; unfold chkS pageOk
     rw [hall2, decide_eq_true HCS.out.1, <- hen2]; rfl
    have HEL : Hid (en <= n) := by have := HN.out; show _ <= _; omega
    clear hen2 hle hall2 hen hall hks hk hlt
    generalize zeroB (b.drop en) = r at *
    go_wp2_with (first
     | (refine wpList_subF_g (by rfl) (.tmp 33) (.tmp 34) (l := en) rfl rfl rfl HEL.out ?_)
     | fail)
    refine HZ.out.mono ?_
    rintro e w1 ⟨rfl, rfl⟩
    cases r with
    | true =>
     go_wp2
     go_ret
     exact ⟨by rw [HR.out]; rfl, rfl⟩
    | false =>
     go_wp2
     go_ret
     exact ⟨by rw [HR.out]; rfl, rfl⟩
 ·have hz := sz_big c (by omega)
  rw [hz] at HS
  have HR : Hid (chkS b c = 4) := by show _ = _; unfold chkS pageOk; rw [decide_eq_false hc]; rfl
  clear hb hn hcap h hz hc
  go_enter Tryz.func44, Tryz.ntmps44
  go_wp2_with fail
  refine (HS.out w).mono ?_
  rintro e w1 ⟨rfl, rfl⟩
  go_wp2
  go_ret
  exact ⟨by rw [HR.out]; rfl, rfl⟩
/-- is there an object in slot k -/
def thereS (b : List Nat) (c k : Nat) : Bool := decide (k < slotsN c) && !zeroB ((winL b c k).take 8)
theorem sobj_bad (g o n cap : Nat) (b : List Nat) (hb : b.length = 256) (hn : n = 256) (hcap : 256 <= cap) (c k : Nat) (hp : pageOk b c = false) (w : World) (h : BytesAt w (some ⟨g, o, none⟩) cap b) :
  Calls Tryz.prog 76 #[.slice (some ⟨g, o, none⟩) n cap, .int .i64 (c : Int), .int .i64 (k : Int)] w fun e w' => e = .returned (.tuple #[.slice none 0 0, .slice none 0 0, .int .i64 4]) /\ w = w' := by
 have HC := Lib.hid (scheck_c g o n cap b hb hn hcap c w h)
 rw [show chkS b c = 4 by unfold chkS; rw [hp]; rfl] at HC
 clear hb hn hcap hp h
 go_enter Tryz.func76, Tryz.ntmps76
 go_wp2_with fail
 refine HC.out.mono ?_
 rintro e w1 ⟨rfl, rfl⟩
 go_wp2
 go_ret3
 exact ⟨rfl, rfl⟩
theorem sobj_ok (g o n cap : Nat) (b : List Nat) (hb : b.length = 256) (hn : n = 256) (hcap : 256 <= cap) (hm : cap <= maxLen) (c k : Nat) (hp : pageOk b c = true) (w : World) (h : BytesAt w (some ⟨g, o, none⟩) cap b) :
  Calls Tryz.prog 76 #[.slice (some ⟨g, o, none⟩) n cap, .int .i64 (c : Int), .int .i64 (k : Int)] w fun e w' =>
   (thereS b c k = false /\ e = .returned (.tuple #[.slice none 0 0, .slice none 0 0, .int .i64 6]) \/ thereS b c k = true /\ ∃ q cp, e = .returned (.tuple #[.slice (some ⟨q, 0, none⟩) 256 cp, .slice (some ⟨q, k * wdN c, none⟩) (wdN c) (wdN c), .int .i64 0]) /\ w'.ownsRow w.heap.size 5 1 (.slice (some ⟨q, 0, none⟩) 256 cp) 256 (bA b).toList) /\ Below w.heap.size w w' := by
 have HC := Lib.hid (scheck_c g o n cap b hb hn hcap c w h)
 rw [show chkS b c = 0 by unfold chkS; rw [hp]; rfl] at HC
 have HCL := Lib.hid (clone2_c (.slice (some ⟨g, o, none⟩) n cap) b (by omega) w ⟨_, cap, by rw [hb, hn], h, fun h => (by cases h), by omega, hm⟩)
 have HLT : Hid (∀ x ∈ b, x < 256) := h.1
 have HBL := Lib.hid hb
 clear hn hcap hp h hb hm
 go_enter Tryz.func76, Tryz.ntmps76
 go_wp2_with fail
 refine HC.out.mono ?_
 rintro e w1 ⟨rfl, rfl⟩
 go_wp2_with fail
 refine HCL.out.mono ?_
 rintro e w2 ⟨v2, rfl, hown2, hb2⟩
 obtain ⟨q, cp, rfl, _, _⟩ := own_some hown2 (by rw [HBL.out]; omega)
 have HE2 := Lib.hid hb2
 have hcp : 256 <= cp := by
  rcases hown2.2 with ⟨h9, _⟩ | ⟨g9, cap9, cur9, e1, e2, e3, e4, _⟩
  ·cases h9
  ·cases e1; rw [HBL.out] at e4; exact e4
 have HBA := Lib.hid (own_bytes HLT.out hown2)
 rw [HBL.out] at hown2 HBA ⊢
 have HO2 := Lib.hid hown2
 have HB2 : Hid (BytesAt w2 (some ⟨q, 0, none⟩) cp b) := by
  obtain ⟨a9, c9, e9, h9, _⟩ := HBA.out
  cases e9; exact h9
 clear hown2 hb2 HBA HCL HC
 by_cases hk : k < slotsN c
 ·have HW := Lib.hid (window_yes q 0 256 cp c k hk hcp w2)
  rw [Nat.zero_add] at HW
  have hwb := win_bounds hk
  have hwa := win_at HBL.out HB2.out hk
  rw [Nat.zero_add] at hwa
  have HF := Lib.hid (free_c q (k * wdN c) (wdN c) (wdN c) (winL b c k) (winL_len HBL.out hk) (by omega) w2 hwa)
  have HT : Hid (thereS b c k = !zeroB ((winL b c k).take 8)) := by show _ = _; unfold thereS; rw [decide_eq_true hk, Bool.true_and]
  generalize zeroB ((winL b c k).take 8) = r at *
  have hnn : ∀ w : World, (binOp .eql 47 (.slice (some ⟨q, k * wdN c, none⟩) (wdN c) (wdN c)) (.slice none 0 0)).run Tryz.prog w = .ok (.bool false) w := fun w => by first | rfl | kernel_rfl | (simp [binOp, Op.equal]; done)
  obtain ⟨y, hy⟩ : ∃ y, y = wdN c := ⟨_, rfl⟩
  obtain ⟨x, hx⟩ : ∃ x, x = k * wdN c := ⟨_, rfl⟩
  rw [<- hx, <- hy] at HW HF
  rw [<- hx, <- hy] at hnn
  have HXY : Hid (x = k * wdN c /\ y = wdN c) := ⟨hx, hy⟩
  clear hx hy
  clear hk hcp hwb hwa
  go_wp2_with fail
  refine HW.out.mono ?_
  rintro e w3 ⟨rfl, rfl⟩
  go_wp2_with fail
  refine HF.out.mono ?_
  rintro e w3 ⟨rfl, rfl⟩
  cases r with
  | true =>
   go_wp2
   go_ret3
   exact ⟨.inl ⟨HT.out, rfl⟩, HE2.out⟩
  | false =>
   go_wp2
   go_ret3
   exact ⟨.inr ⟨HT.out, q, cp, by rw [<- HXY.out.1, <- HXY.out.2]; rfl, HO2.out⟩, HE2.out⟩
 ·have HW := Lib.hid (window_no (.slice (some ⟨q, 0, none⟩) 256 cp) c k (by omega) w2)
  have HT : Hid (thereS b c k = false) := by show _ = _; unfold thereS; rw [decide_eq_false hk, Bool.false_and]
  have hnn : ∀ w : World, (binOp .eql 47 (.slice none 0 0) (.slice none 0 0)).run Tryz.prog w = .ok (.bool true) w := fun w => by first | rfl | kernel_rfl | (simp [binOp, Op.equal]; done)
  clear hk hcp
  go_wp2_with fail
  refine HW.out.mono ?_
  rintro e w3 ⟨rfl, rfl⟩
  go_wp2
  go_ret3
  exact ⟨.inl ⟨HT.out, rfl⟩, HE2.out⟩
theorem sget_c (g o n cap : Nat) (b : List Nat) (hb : b.length = 256) (hn : n = 256) (hcap : 256 <= cap) (hm : cap <= maxLen) (c k : Nat) (w : World) (h : BytesAt w (some ⟨g, o, none⟩) cap b) :
  Calls Tryz.prog 48 #[.slice (some ⟨g, o, none⟩) n cap, .int .i64 (c : Int), .int .i64 (k : Int)] w fun e w' =>
   ((pageOk b c && thereS b c k) = false /\ (∃ er : Int, er ≠ 0 /\ e = .returned (.tuple #[.int .u64 0, .slice none 0 0, .int .i64 er])) \/ (pageOk b c && thereS b c k) = true /\ ∃ v, e = .returned (.tuple #[.int .u64 (serW (winL b c k) : Int), v, .int .i64 0])) /\ Below w.heap.size w w' := by
 cases hp : pageOk b c with
 | false =>
  have HO := Lib.hid (sobj_bad g o n cap b hb hn hcap c k hp w h)
  clear hb hn hcap hm hp h
  go_enter Tryz.func48, Tryz.ntmps48
  go_wp2_with fail
  refine HO.out.mono ?_
  rintro e w1 ⟨rfl, rfl⟩
  go_wp2
  go_ret3
  exact ⟨.inl ⟨rfl, 4, by decide, rfl⟩, Below.refl _ _⟩
 | true =>
  have HO := Lib.hid (sobj_ok g o n cap b hb hn hcap hm c k hp w h)
  have HLT : Hid (∀ x ∈ b, x < 256) := h.1
  have HBL := Lib.hid hb
  have HPK : Hid (∀ j, j < slotsN c -> okW (winL b c j) = true) := by
   unfold pageOk at hp
   simp only [Bool.and_eq_true, List.all_eq_true] at hp
   exact fun j hj => hp.1.2 j (List.mem_range.2 hj)
  clear hb hn hcap hm hp h
  go_enter Tryz.func48, Tryz.ntmps48
  go_wp2_with fail
  refine HO.out.mono ?_
  rintro e w1 ⟨⟨ht, rfl⟩ | ⟨ht, q, cp, rfl, hown⟩, hb1⟩
  ·have HE1 := Lib.hid hb1
   have HT := Lib.hid ht
   clear hb1 ht HO
   go_wp2
   go_ret3
   exact ⟨.inl ⟨by rw [HT.out]; rfl, 6, by decide, rfl⟩, HE1.out⟩
  ·have HE1 := Lib.hid hb1
   have HT := Lib.hid ht
   have hk : k < slotsN c := by unfold thereS at ht; simp only [Bool.and_eq_true, decide_eq_true_eq] at ht; exact ht.1
   have hfree : zeroB ((winL b c k).take 8) = false := by unfold thereS at ht; simp only [Bool.and_eq_true, Bool.not_eq_true'] at ht; exact ht.2
   have hwb := win_bounds hk
   have hba : BytesAt w1 (some ⟨q, 0, none⟩) cp b := by
    rw [show (256 : Nat) = b.length from HBL.out.symm] at hown
    obtain ⟨a9, c9, e9, h9, _⟩ := own_bytes HLT.out hown
    cases e9; exact h9
   have hwa := win_at HBL.out hba hk
   rw [Nat.zero_add] at hwa
   have hsr := fun w' (hw : BytesAt w' (some ⟨q, k * wdN c, none⟩) (wdN c) (winL b c k)) => serial_c q (k * wdN c) (wdN c) (wdN c) (winL b c k) (winL_len HBL.out hk) (by omega) w' hw
   have hsz := fun w' (hw : BytesAt w' (some ⟨q, k * wdN c, none⟩) (wdN c) (winL b c k)) => ssize_c q (k * wdN c) (wdN c) (wdN c) (winL b c k) (winL_len HBL.out hk) (by omega) w' hw
   have hok := HPK.out k hk
   have hszb : sizeW (winL b c k) <= wdN c - 8 /\ 0 < sizeW (winL b c k) := by
    unfold okW at hok
    rw [hfree, if_neg (by simp)] at hok
    simp only [Bool.and_eq_true, decide_eq_true_eq] at hok
    rw [winL_len HBL.out hk] at hok
    exact ⟨hok.1.1.2, hok.1.1.1⟩
   obtain ⟨W, hW⟩ : ∃ W : List Nat, W = winL b c k := ⟨_, rfl⟩
   rw [<- hW] at hwa hsr hsz hszb
   obtain ⟨y, hy⟩ : ∃ y, y = wdN c := ⟨_, rfl⟩
   obtain ⟨x, hx⟩ : ∃ x, x = k * wdN c := ⟨_, rfl⟩
   rw [<- hx, <- hy] at hwa hsr hsz
   rw [<- hy] at hszb
   rw [<- hx, <- hy] at hwb
   simp only [<- hx]
   simp only [<- hy]
   obtain ⟨m, hm⟩ : ∃ m, m = sizeW W := ⟨_, rfl⟩
   obtain ⟨s, hs⟩ : ∃ s, s = serW W := ⟨_, rfl⟩
   rw [<- hm] at hsz hszb
   rw [<- hs] at hsr
   have HS9 : Hid (s = serW (winL b c k)) := by show _ = _; rw [hs, hW]
   have hm8 : m < 4096 := by omega
   have e1 : IntKind.i64.wrap (8 + (m : Int)) = ((8 + m : Nat) : Int) := by rw [show 8 + (m : Int) = ((8 + m : Nat) : Int) by omega]; exact IntWalk.i64_in _ (by omega)
   have hsl := run_subM q x y y 8 (8 + m) (by omega) (by omega)
   have hsl2 : ∀ w : World, (Instr.sliceAt 47 (.slice (some ⟨q, x, none⟩) y y) (some (.int .i64 8)) (some (.int .i64 (8 + (m : Int)))) (some (.int .i64 (8 + (m : Int))))).run Tryz.prog w = .ok (.slice (some ⟨q, x + 8, none⟩) (8 + m - 8) (8 + m - 8)) w := by
    intro w; have h := hsl w; rw [show ((8 + m : Nat) : Int) = 8 + (m : Int) by omega] at h; exact h
   clear hsl
   have HSR : Hid (∀ n, Calls Tryz.prog 77 #[.slice (some ⟨q, x, none⟩) y y] (w1.drewN n) fun e w' => e = .returned (.int .u64 (s : Int)) /\ w1.drewN n = w') := fun n => hsr _ hwa
   have HSZ : Hid (∀ n, Calls Tryz.prog 78 #[.slice (some ⟨q, x, none⟩) y y] (w1.drewN n) fun e w' => e = .returned (.int .i64 (m : Int)) /\ w1.drewN n = w') := fun n => hsz _ hwa
   clear hb1 ht HO hk hfree hba hwa hsr hsz hok hszb hm hs hown hW hx hy HLT HBL HPK
   go_wp2
   refine wp_region_quiet_lit (by kernel_rfl) (by kernel_rfl) ?_
   go_big_quiet_want
   go_big_quiet_op
   go_big_quiet_on
   go_big_quiet_want
   go_big_quiet_op
   apply Exists.intro
   refine ⟨fun _ => ?_, ?_⟩
   go_at_call 77
   exact Calls.quiet_of_same ((HSR.out _).mono fun _ _ h => ⟨h.1, h.2.symm⟩)
   go_big_quiet_on
   go_big_quiet_want
   go_big_quiet_op
   go_big_quiet_on
   go_big_quiet_want
   go_big_quiet_op
   go_big_quiet_on
   go_big_quiet_want
   go_big_quiet_op
   apply Exists.intro
   refine ⟨fun _ => ?_, ?_⟩
   go_at_call 78
   exact Calls.quiet_of_same ((HSZ.out _).mono fun _ _ h => ⟨h.1, h.2.symm⟩)
   go_big_quiet_on
   repeat (go_big_quiet_step ((go_at_call 78; exact Calls.quiet_of_same ((HSZ.out _).mono fun _ _ h => ⟨h.1, h.2.symm⟩))))
   refine wpQuiet_nil ?_
   rintro _ ⟨nq, rfl⟩
   go_wp2
   go_ret3
   exact ⟨.inr ⟨by rw [HT.out]; rfl, _, by rw [<- HS9.out]; rfl⟩, below_drewG HE1.out _⟩
end Go.Proofs.YtpbmjfjnmcpieaaGreat
