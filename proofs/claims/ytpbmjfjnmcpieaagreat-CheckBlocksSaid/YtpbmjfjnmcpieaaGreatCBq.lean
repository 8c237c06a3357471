/- Texts RCl, put together by pack.py. -/
import Derived.Test.YtpbmjfjnmcpieaaGreatCBo
import Derived.Deep.CutRange
set_option maxRecDepth 100000
set_option maxHeartbeats 16000000
set_option linter.unusedVariables false
set_option linter.unusedSimpArgs false
namespace Go.Proofs.YtpbmjfjnmcpieaaGreat
open Go Go.RowKit
theorem zm_no (j : Nat) (x : Int) : (#[.int .u64 0, .int .u64 0, .int .u64 0, .int .u64 0, .int .u64 0, .int .u64 0, .int .u64 0, .int .u64 0, .int .u64 0, .int .u64 0, .int .u64 0, .int .u64 0, .int .u64 0, .int .u64 0, .int .u64 0, .int .u64 0, .int .u64 0, .slice none 0 0] : Array Value)[j]? ≠ some (.int .i64 x) := fun h => by
 have hj : j < 18 := (Array.getElem?_eq_some_iff.1 h).1
 have hc : j = 0 \/ j = 1 \/ j = 2 \/ j = 3 \/ j = 4 \/ j = 5 \/ j = 6 \/ j = 7 \/ j = 8 \/ j = 9 \/ j = 10 \/ j = 11 \/ j = 12 \/ j = 13 \/ j = 14 \/ j = 15 \/ j = 16 \/ j = 17 := by omega
 rcases hc with rfl | rfl | rfl | rfl | rfl | rfl | rfl | rfl | rfl | rfl | rfl | rfl | rfl | rfl | rfl | rfl | rfl | rfl <;> simp at h
theorem pgs_store {w : World} {b8 : Nat} {a6 : Option Addr} {P : List Pg} (h : PgsAt w a6 P) (f8 : w.heap[b8]? = some (.cells #[.int .u64 0, .int .u64 0, .int .u64 0, .int .u64 0, .int .u64 0, .int .u64 0, .int .u64 0, .int .u64 0, .int .u64 0, .int .u64 0, .int .u64 0, .int .u64 0, .int .u64 0, .int .u64 0, .int .u64 0, .int .u64 0, .int .u64 0, .slice none 0 0] 28 (0, 0))) (xs : Array Value) : PgsAt (w.setRow b8 xs) a6 P := by
 intro i p hp
 obtain ⟨g, o, e, hgl, hcell⟩ := h i p hp
 have hqn : g ≠ b8 := by
  rintro rfl
  have h7 := (cells_at f8 (o + i * 5 + 0)).symm.trans (hcell 0 _ rfl)
  exact zm_no _ _ h7
 have hbk := setRow_other w b8 g xs hqn
 refine ⟨g, o, e, ?_, fun j u hu => (World.cell?_of_block hbk).trans (hcell j u hu)⟩
 have h9 := Array.getElem?_eq_getElem hgl
 rw [<- hbk] at h9
 exact (Array.getElem?_eq_some_iff.1 h9).1
theorem left_le {P : List Pg} (ha : P.all oneP = true) : ∀ k, leftK P k <= 4096
 | 0 => Nat.zero_le _
 | k + 1 => by
  have ih := left_le ha k
  unfold leftK
  split
  ·exact ih
  ·split
   ·rename_i h2
    have : (pgK P k).size <= 4096 := by
     by_cases hk : k < P.length
     ·exact (head_size (pgK_one ha k hk) h2).2.2
     ·have : pgK P k = ⟨0, 0, 0, 0, 0⟩ := by unfold pgK; rw [List.getD_eq_getElem?_getD, List.getElem?_eq_none (by omega)]; rfl
      rw [this] at h2; cases h2
    omega
   ·omega
theorem mt_R {w : World} {g x : Nat} {R : List Nat} {v : Value} {t : TypeId} (h : w.heap[g]? = some (.cells (mtA x R v) t (0, 0))) : w.rangeAt g 1 (R.map fun (k : Nat) => Value.int .u64 (k : Int)) := by
 intro j u hu
 have hj : j < (R.map fun (k : Nat) => Value.int .u64 (k : Int)).length := (List.getElem?_eq_some_iff.1 hu).1
 refine (cells_at h (1 + j)).trans ?_
 rw [<- hu]
 unfold mtA
 simp only [List.getElem?_toArray]
 rw [Nat.add_comm, List.getElem?_cons_succ, List.getElem?_append_left hj]
theorem ser_there {w : List Nat} (h8 : 8 <= w.length) (h : okW w = true) : (0 < serW w) ↔ zeroB (w.take 8) = false := by
 unfold okW at h
 by_cases hz : zeroB (w.take 8) = true
 ·rw [hz]
  simp only [Bool.true_eq_false, iff_false]
  have h2 : zeroB ((w.drop 2).take 6) = true := by
   rw [take_eight, zeroB_app, Bool.and_eq_true] at hz
   exact hz.2
  have := (leN_zero _).2 h2
  unfold serW
  omega
 ·rw [if_neg hz] at h
  simp only [Bool.and_eq_true, decide_eq_true_eq] at h
  simp only [Bool.not_eq_true] at hz
  exact ⟨fun _ => hz, fun _ => h.1.2⟩
theorem beq_flip (a b : Nat) : (a == b) = (b == a) := by rw [Bool.eq_iff_iff, beq_iff_eq, beq_iff_eq]; exact ⟨Eq.symm, Eq.symm⟩
theorem eqPl_comm (v p : Pl) : eqPl v p = eqPl p v := by
 unfold eqPl
 rw [beq_flip v.p, beq_flip v.s, beq_flip v.q]
theorem eql_plR (p q : Pl) (w : World) : (binOp .eql 80 (.agg (plB p)) (.agg (plB q))).run Tryz.prog w = .ok (.bool (eqPl p q)) w := by
 obtain ⟨a, b, c⟩ := p
 obtain ⟨a', b', c'⟩ := q
 unfold plB eqPl
 simp only
 go_simp
 by_cases h1 : a = a'
 ·rw [if_pos (by omega)]
  by_cases h2 : b = b'
  ·rw [if_pos (by omega)]
   by_cases h3 : c = c'
   ·rw [if_pos (by omega)]
    simp [h1, h2, h3]
   ·rw [if_neg (by omega), show (c == c') = false by simpa using h3]; simp
  ·rw [if_neg (by omega), show (b == b') = false by simpa using h2]; simp
 ·rw [if_neg (by omega), show (a == a') = false by simpa using h1]; simp
theorem rblocks_none (n : Nat) (t : Int) (hg : geoB n t = true) (g o k cap : Nat) (L : List (List Nat)) (hL : L.length = k) (hk : k = sealedN n) (hcap : k <= cap) (h256 : ∀ l ∈ L, l.length = 256) (hm : metaN n (L.take (1 + mapsN n)) = none) (w : World) (hR : RowsAt w (some ⟨g, o, none⟩) L) :
  Calls Tryz.prog 10 #[.agg #[.int .i64 (n : Int), .int .i64 t], .slice (some ⟨g, o, none⟩) k cap] w fun e w' => (∃ v, e = .returned v /\ w'.ownsRow w.heap.size 73 2 v (faultsK n L).length (cellsF (faultsK n L))) /\ Below w.heap.size w w' := by
 have hp := (geoB_iff n t).1 hg
 have hn64 : n <= 64 := by omega
 have hmn := mapsN_le n hn64
 have hks : k = 1 + mapsN n + n := by rw [hk]; rfl
 have HG : Hid ((w.alloc (.cells #[.int .i64 (n : Int), .int .i64 t] 31)).heap[w.heap.size]? = some (.cells #[.int .i64 (n : Int), .int .i64 t] 31 (0, 0))) := heap_new' _ _
 have HE : Hid (Below w.heap.size w (w.alloc (.cells #[.int .i64 (n : Int), .int .i64 t] 31))) := below_box _ _
 have HMP := Lib.hid (fun w => rgMaps_c n t hn64 w)
 obtain ⟨mm, hmm⟩ : ∃ mm, mm = mapsN n := ⟨_, rfl⟩
 rw [<- hmm] at HMP
 obtain ⟨fi, hfi⟩ : ∃ fi, fi = 1 + mapsN n := ⟨_, rfl⟩
 have i1 : 1 + (mm : Int) = (fi : Int) := by omega
 have wf : IntKind.i64.wrap (fi : Int) = (fi : Int) := IntWalk.i64_in _ (by omega)
 have HGB := Lib.hid hg
 have HL := Lib.hid hL
 have HKS := Lib.hid (show k = fi + n /\ n <= 64 /\ k <= cap /\ fi <= 5 /\ 1 <= n from ⟨by omega, hn64, hcap, by omega, by omega⟩)
 have HFI := Lib.hid hfi
 have H256 := Lib.hid h256
 have HRW := Lib.hid hR
 have HFK : Hid (faultsK n L = [⟨4, -1⟩]) := by show _ = _; unfold faultsK; rw [hm]
 rw [<- hfi] at hm
 have HM := Lib.hid hm
 clear hfi hp hn64 hmn hks hg hL hk hcap h256 hm hR hmm
 go_enter Tryz.func10, Tryz.ntmps10
 go_wp2_with (first
  | (refine wpList_load_row rfl 31 (.tmp 2) rfl w.heap.size rfl _ _ _ _ HG.out Tryz.underlying31 rfl (by rw [geo2]; rfl) ?_)
  | fail)
 refine (HMP.out _).mono ?_
 rintro e w1 ⟨rfl, hb1⟩
 have HE1 : Hid (Below w.heap.size w w1) := HE.out.trans (hb1.mono HE.out.size)
 have HG1 := Lib.hid ((hb1.block _ (lt_of_block HG.out)).trans HG.out)
 have HR1 := Lib.hid (HRW.out.up HE1.out (Nat.le_refl _))
 clear hb1 HG HE HMP
 go_wp2
 go_cut [6, 7] from 34 to 42 (fun s6 s7 wx => ∃ mb, s6 = .pointer (some ⟨mb, 0, none⟩) /\ s7 = .bool false /\ Hid (Below w.heap.size w wx))
 case first =>
  refine regionRN w.heap.size g o k cap n fi t L w1.heap.size w1 HG1.out HGB.out HL.out HFI.out (by have := HKS.out; omega) HKS.out.2.2.1 H256.out HR1.out HM.out (Nat.le_refl _) ?_ ?_
  ·intro vs w5 hv hkk
   obtain ⟨X6, R6, a6, m6, c6, g6, v6⟩ := hv 6 (by omega)
   obtain ⟨b8, v8, hb8, f8⟩ := hv 8 (by omega)
   have v7 : vs 7 = .bool false := hv 7 (by omega)
   rw [v6, v7, v8]
   clear v6 v7 v8
   clear hv
   refine wpList_store_row rfl 28 (.tmp 6) (.tmp 40) rfl b8 (mtA X6 R6 (.slice a6 m6 c6)) rfl rfl 28 _ f8 (by rw [meta18R, mtA_size, g6]) (by rw [mtA_size, g6]; rfl) (mtA_one _ _ _ _ _) ?_
   have HM6 : Hid ((w5.setRow b8 (mtA X6 R6 (.slice a6 m6 c6))).heap[b8]? = some (.cells (mtA X6 R6 (.slice a6 m6 c6)) 28 (0, 0))) := setRow_heap _ _ _ _ _ _ f8
   have HE6 : Hid (Below w.heap.size w (w5.setRow b8 (mtA X6 R6 (.slice a6 m6 c6)))) := HE1.out.trans ((below_setRow hkk hb8 _).mono HE1.out.size)
   clear f8 hb8 hkk
   go_wp2
   go_meet
   case rel => exact ⟨b8, rfl, rfl, HE6.out⟩
  ·intro vs w5 hv hkk
   obtain ⟨X6, R6, a6, m6, c6, g6, v6⟩ := hv 6 (by omega) (by omega)
   obtain ⟨b8, v8, hb8, f8⟩ := hv 8 (by omega) (by omega)
   obtain ⟨X5, R5, a5, m5, c5, g5, v5⟩ := hv 5 (by omega) (by omega)
   rw [v6, v5, v8]
   clear v6 v5 v8
   clear hv
   refine wpList_store_row rfl 28 (.tmp 6) (.tmp 40) rfl b8 (mtA X6 R6 (.slice a6 m6 c6)) rfl rfl 28 _ f8 (by rw [meta18R, mtA_size, g6]) (by rw [mtA_size, g6]; rfl) (mtA_one _ _ _ _ _) ?_
   have HM6 : Hid ((w5.setRow b8 (mtA X6 R6 (.slice a6 m6 c6))).heap[b8]? = some (.cells (mtA X6 R6 (.slice a6 m6 c6)) 28 (0, 0))) := setRow_heap _ _ _ _ _ _ f8
   have HE6 : Hid (Below w.heap.size w (w5.setRow b8 (mtA X6 R6 (.slice a6 m6 c6)))) := HE1.out.trans ((below_setRow hkk hb8 _).mono HE1.out.size)
   clear f8 hb8 hkk
   simp only [opsRN, List.getElem_toArray, List.getElem_cons_succ, List.getElem_cons_zero, List.drop_succ_cons, List.drop_zero]
   go_wp2
   go_meet
   case rel => exact ⟨b8, rfl, rfl, HE6.out⟩
 case rest =>
  obtain ⟨mb, rfl, rfl, HEW⟩ := hcut
  have HBB : Hid ((wc.alloc (.cells (ftA ⟨4, -1⟩) 73)).heap[wc.heap.size]? = some (.cells (ftA ⟨4, -1⟩) 73 (0, 0))) := heap_new' _ _
  have HEB : Hid (Below w.heap.size w (wc.alloc (.cells (ftA ⟨4, -1⟩) 73))) := HEW.out.trans ((below_box wc _).mono HEW.out.size)
  go_wp2_with (first
   | (refine wpList_build_ftR (p := ⟨4, -1⟩) rfl (.tmp 44) rfl rfl ?_)
   | fail)
  go_ret
  refine ⟨⟨_, rfl, ?_⟩, HEB.out⟩
  rw [HFK.out]
  exact ⟨rfl, .inr ⟨wc.heap.size, 1, ftA ⟨4, -1⟩, rfl, HEW.out.size, HBB.out, Nat.le_refl _, by decide, rfl, rfl⟩⟩
theorem rblocks_some (n : Nat) (t : Int) (hg : geoB n t = true) (g o k cap : Nat) (L : List (List Nat)) (hL : L.length = k) (hk : k = sealedN n) (hcap : k <= cap) (h256 : ∀ l ∈ L, l.length = 256) (hlt : ∀ l ∈ L, ∀ y ∈ l, y < 256) (x : Nat) (R : List Nat) (P : List Pg) (hm : metaN n (L.take (1 + mapsN n)) = some (x, R, P)) (w : World) (hR : RowsAt w (some ⟨g, o, none⟩) L) :
  Calls Tryz.prog 10 #[.agg #[.int .i64 (n : Int), .int .i64 t], .slice (some ⟨g, o, none⟩) k cap] w fun e w' => (∃ v, e = .returned v /\ w'.ownsRow w.heap.size 73 2 v (faultsK n L).length (cellsF (faultsK n L))) /\ Below w.heap.size w w' := by
 have hp := (geoB_iff n t).1 hg
 have hn64 : n <= 64 := by omega
 have hmn := mapsN_le n hn64
 have hks : k = 1 + mapsN n + n := by rw [hk]; rfl
 have HG : Hid ((w.alloc (.cells #[.int .i64 (n : Int), .int .i64 t] 31)).heap[w.heap.size]? = some (.cells #[.int .i64 (n : Int), .int .i64 t] 31 (0, 0))) := heap_new' _ _
 have HE : Hid (Below w.heap.size w (w.alloc (.cells #[.int .i64 (n : Int), .int .i64 t] 31))) := below_box _ _
 have HMP := Lib.hid (fun w => rgMaps_c n t hn64 w)
 obtain ⟨mm, hmm⟩ : ∃ mm, mm = mapsN n := ⟨_, rfl⟩
 rw [<- hmm] at HMP
 obtain ⟨fi, hfi⟩ : ∃ fi, fi = 1 + mapsN n := ⟨_, rfl⟩
 have i1 : 1 + (mm : Int) = (fi : Int) := by omega
 have wf : IntKind.i64.wrap (fi : Int) = (fi : Int) := IntWalk.i64_in _ (by omega)
 have HGB := Lib.hid hg
 have HL := Lib.hid hL
 have HKS := Lib.hid (show k = fi + n /\ n <= 64 /\ k <= cap /\ fi <= 5 /\ 1 <= n from ⟨by omega, hn64, hcap, by omega, by omega⟩)
 have HFI := Lib.hid hfi
 have H256 := Lib.hid h256
 have HRW := Lib.hid hR
 have hmf := meta_facts (L := L.take (1 + mapsN n)) (by rw [List.length_take, hL, hk]; unfold sealedN; omega) (fun l hl => hlt l (List.mem_of_mem_take hl)) hm
 have HMF := Lib.hid hmf
 have HFK : Hid (faultsK n L = bysK P (L.drop (1 + mapsN n)) n ++ sersK (objsK P (L.drop (1 + mapsN n)) n) x (objsK P (L.drop (1 + mapsN n)) n).length ++ rtsK (objsK P (L.drop (1 + mapsN n)) n) R 16) := by show _ = _; unfold faultsK; rw [hm]
 rw [<- hfi] at hm HFK
 have HM := Lib.hid hm
 obtain ⟨D, hD⟩ : ∃ D, D = L.drop fi := ⟨_, rfl⟩
 rw [<- hD] at HFK
 have HD : Hid (∀ j, D.getD j [] = L.getD (fi + j) []) := fun j => by rw [hD, List.getD_eq_getElem?_getD, List.getD_eq_getElem?_getD, List.getElem?_drop]
 clear hfi hp hn64 hmn hks hg hL hk hcap h256 hm hR hmm hmf hlt hD
 go_enter Tryz.func10, Tryz.ntmps10
 go_wp2_with (first
  | (refine wpList_load_row rfl 31 (.tmp 2) rfl w.heap.size rfl _ _ _ _ HG.out Tryz.underlying31 rfl (by rw [geo2]; rfl) ?_)
  | fail)
 refine (HMP.out _).mono ?_
 rintro e w1 ⟨rfl, hb1⟩
 have HE1 : Hid (Below w.heap.size w w1) := HE.out.trans (hb1.mono HE.out.size)
 have HG1 := Lib.hid ((hb1.block _ (lt_of_block HG.out)).trans HG.out)
 have HR1 := Lib.hid (HRW.out.up HE1.out (Nat.le_refl _))
 clear hb1 HG HE HMP
 go_wp2
 go_cut [6, 7] from 34 to 42 (fun s6 s7 wx => ∃ mb a6 c6, s6 = .pointer (some ⟨mb, 0, none⟩) /\ s7 = .bool true /\ Hid (wx.heap[mb]? = some (.cells (mtA x R (.slice a6 n c6)) 28 (0, 0))) /\ Hid (PgsAt wx a6 P) /\ Hid (Below w.heap.size w wx))
 case first =>
  refine regionRB w.heap.size g o k cap n fi t L w1.heap.size x R P w1 HG1.out HGB.out HL.out HFI.out (by have := HKS.out; omega) HKS.out.2.2.1 H256.out HR1.out HM.out (Nat.le_refl _) ?_ ?_
  ·intro vs w5 hv hkk
   obtain ⟨a6, c6, v6, o6⟩ := hv 6 (by omega)
   obtain ⟨b8, v8, hb8, f8⟩ := hv 8 (by omega)
   have v7 : vs 7 = .bool true := hv 7 (by omega)
   rw [v6, v7, v8]
   clear v6 v7 v8
   clear hv
   refine wpList_store_row rfl 28 (.tmp 6) (.tmp 40) rfl b8 (mtA x R (.slice a6 n c6)) rfl rfl 28 _ f8 (by rw [meta18R, mtA_size, HMF.out.1]) (by rw [mtA_size, HMF.out.1]; rfl) (mtA_one _ _ _ _ _) ?_
   have HM6 : Hid ((w5.setRow b8 (mtA x R (.slice a6 n c6))).heap[b8]? = some (.cells (mtA x R (.slice a6 n c6)) 28 (0, 0))) := setRow_heap _ _ _ _ _ _ f8
   have HE6 : Hid (Below w.heap.size w (w5.setRow b8 (mtA x R (.slice a6 n c6)))) := HE1.out.trans ((below_setRow hkk hb8 _).mono HE1.out.size)
   have HP6 := Lib.hid (pgs_store o6 f8 (mtA x R (.slice a6 n c6)))
   clear f8 hb8 hkk
   go_wp2
   go_meet
   case rel => exact ⟨b8, a6, c6, rfl, rfl, HM6.out, HP6.out, HE6.out⟩
  ·intro vs w5 hv hkk
   obtain ⟨a6, c6, v6, o6⟩ := hv 6 (by omega) (by omega)
   obtain ⟨b8, v8, hb8, f8⟩ := hv 8 (by omega) (by omega)
   obtain ⟨a5, c5, v5, o5⟩ := hv 5 (by omega) (by omega)
   rw [v6, v5, v8]
   clear v6 v5 v8 o5
   clear hv
   refine wpList_store_row rfl 28 (.tmp 6) (.tmp 40) rfl b8 (mtA x R (.slice a6 n c6)) rfl rfl 28 _ f8 (by rw [meta18R, mtA_size, HMF.out.1]) (by rw [mtA_size, HMF.out.1]; rfl) (mtA_one _ _ _ _ _) ?_
   have HM6 : Hid ((w5.setRow b8 (mtA x R (.slice a6 n c6))).heap[b8]? = some (.cells (mtA x R (.slice a6 n c6)) 28 (0, 0))) := setRow_heap _ _ _ _ _ _ f8
   have HE6 : Hid (Below w.heap.size w (w5.setRow b8 (mtA x R (.slice a6 n c6)))) := HE1.out.trans ((below_setRow hkk hb8 _).mono HE1.out.size)
   have HP6 := Lib.hid (pgs_store o6 f8 (mtA x R (.slice a6 n c6)))
   clear f8 hb8 hkk
   simp only [opsRB, List.getElem_toArray, List.getElem_cons_succ, List.getElem_cons_zero, List.drop_succ_cons, List.drop_zero]
   go_wp2
   go_meet
   case rel => exact ⟨b8, a6, c6, rfl, rfl, HM6.out, HP6.out, HE6.out⟩
 case rest =>
  obtain ⟨mb, a6, c6, rfl, rfl, HMB, HPG, HEW⟩ := hcut
  generalize wc = wR at *
  have HRR := Lib.hid (HRW.out.up HEW.out (Nat.le_refl _))
  have a17 := (cells_at HMB.out 17).trans (mtA_get17 _ _ _ HMF.out.1)
  clear HRW HR1 HG1 HE1
  go_wp2
  clear a17
  go_loopw [8, 9, 10, 11, 12, 13, 14, 15, 16, 17, 18, 49] (fun v8 v9 v10 v11 v12 v13 v14 v15 v16 v17 v18 vi wr => ∃ j fa nf fc aa na ac lf, vi = .int .i64 ((j : Nat) : Int) /\ v8 = .slice fa nf fc /\ v9 = .slice aa na ac /\ v10 = .int .i64 ((lf : Nat) : Int) /\ Hid (j <= n) /\ Hid (lf = leftK P j) /\ Hid (nf = (bysK P D j).length /\ na = (objsK P D j).length) /\ Hid (wr.ownsRow wR.heap.size 73 2 (.slice fa nf fc) nf (cellsF (bysK P D j))) /\ Hid (wr.ownsRow wR.heap.size 80 3 (.slice aa na ac) na (cellsL (objsK P D j))) /\ Hid (Below wR.heap.size wR wr)) (fun _ _ _ _ _ _ _ _ _ _ _ vi _ => n - (intOf vi).toNat)
  case atStart => exact ⟨0, none, 0, 0, none, 0, 0, 0, rfl, rfl, rfl, rfl, Nat.zero_le _, rfl, ⟨rfl, rfl⟩, World.ownsRow_nil _ _ _ _, World.ownsRow_nil _ _ _ _, Below.refl _ _⟩
  case round =>
   obtain ⟨j, fa, nf, fc, aa, na, ac, lf, rfl, rfl, rfl, rfl, hj, HLFJ, HNF, hof, hoa, hbel⟩ := hrel
   have hjn : j <= n := hj
   by_cases hlt : j < n
   ·have hd : decide ((j : Int) < (n : Int)) = true := by simp; omega
    have dl : (j : Int) < (n : Int) := by omega
    have d0 : ¬ (j : Int) < 0 := by omega
    have ek : IntKind.i64.wrap ((j : Int) + 1) = (j : Int) + 1 := by have := HKS.out; exact IntWalk.i64_in _ (by omega)
    obtain ⟨q, hq⟩ : ∃ q, q = fi + j := ⟨_, rfl⟩
    have iq : (fi : Int) + (j : Int) = (q : Int) := by omega
    have wq : IntKind.i64.wrap (q : Int) = (q : Int) := IntWalk.i64_in _ (by have := HKS.out; omega)
    have q1 : (q : Int) < (k : Int) := by have := HKS.out; omega
    have q0 : ¬ (q : Int) < 0 := by omega
    have hjP : j < P.length := by rw [HMF.out.2.2.1]; exact hlt
    obtain ⟨p, hp⟩ : ∃ p, p = pgK P j := ⟨_, rfl⟩
    have hget : P[j]? = some p := by rw [hp]; exact pgK_get hjP
    have HONE : Hid (oneP p = true) := by show _ = _; rw [hp]; exact pgK_one HMF.out.2.2.2.1 j hjP
    obtain ⟨pg, po, e9, hgl, hcell⟩ := HPG.out j p hget
    have HCR : Hid (wr.rangeAt pg (po + j * 5) (pgA p).toList) := fun i u hu => (hbel.out.cell (p := ⟨pg, po + j * 5 + i, none⟩) hgl).trans (hcell i u hu)
    obtain ⟨b, hb⟩ : ∃ b, b = L.getD q [] := ⟨_, rfl⟩
    have hgetb : L[q]? = some b := by
     rw [hb, List.getD_eq_getElem?_getD, List.getElem?_eq_getElem (by rw [HL.out]; have := HKS.out; omega)]; rfl
    have HBD : Hid (D.getD j [] = b) := by show _ = _; rw [HD.out, hb, hq]
    obtain ⟨g', o', v', e8, hgl2, hcb, hsl⟩ := HRR.out q b hgetb
    cases e8
    obtain ⟨sa, bc, rfl, hbb, hnil, hbc, hbm⟩ := hsl
    have hb256 : b.length = 256 := H256.out b (List.mem_of_getElem? hgetb)
    obtain ⟨bg, bo, rfl, _, _, _⟩ := hbb.2 (by omega)
    obtain ⟨bm, hbmm⟩ : ∃ bm, bm = b.length := ⟨_, rfl⟩
    rw [<- hbmm] at hcb
    have HBM : Hid (b.length = bm /\ bm = 256 /\ 256 <= bc /\ bc <= maxLen) := ⟨hbmm.symm, by omega, by omega, hbm⟩
    have HBB := Lib.hid hbb
    have HCB := Lib.hid hcb
    have HGL := Lib.hid hgl2
    have HPK := Lib.hid hp
    have HJ := Lib.hid hlt
    have HZP : Hid ((wr.alloc (.cells #[.int .i64 0, .int .i64 0, .int .i64 0, .int .i64 0, .int .u64 0] 78)).heap[wr.heap.size]? = some (.cells (pgA ⟨0, 0, 0, 0, 0⟩) 78 (0, 0))) := heap_new' _ _
    have HE1p : Hid (Below wr.heap.size wr (wr.alloc (.cells #[.int .i64 0, .int .i64 0, .int .i64 0, .int .i64 0, .int .u64 0] 78))) := below_box wr _
    subst e9
    clear hq hjP hp hget hgl hcell hb hgetb hgl2 hcb hbb hnil hbc hbm hb256 hbmm hlt hjn hj
    by_cases h2 : p.kind = 2
    ·have HC0 : Hid ((pgA p)[0]? = some (Value.int .i64 2)) := by show _ = _; rw [show (2 : Int) = (p.kind : Int) by omega]; rfl
     have HK1 : Hid (p.kind ≠ 1) := by show _ ≠ _; omega
     have HLF4 : Hid (p.size <= 4096) := (head_size HONE.out h2).2.2
     have HANEW : Hid (objsK P D (j + 1) = objsK P D j ++ [⟨j, 0, p.ser⟩]) := by
      show objsK P D j ++ objK P D j = _
      unfold objK; rw [<- HPK.out, if_pos h2]
     have HNA : Hid (na + 1 = (objsK P D (j + 1)).length) := by show _ = _; rw [HANEW.out, List.length_append, <- HNF.out.2]; rfl
     have HNAB : Hid (na + 1 <= 1000000) := by have h1 := HNF.out.2; have h2 := objsK_len P D j; have h3 := HJ.out; have h4 := HKS.out; show _ <= _; omega
     obtain ⟨lfv, hlfv⟩ : ∃ lfv, lfv = p.size := ⟨_, rfl⟩
     have HLF : Hid (lfv = if p.kind = 2 then p.size else leftK P j) := by show _ = _; rw [if_pos h2, hlfv]
     rw [<- hlfv] at HLF4
     have HC3 : Hid ((pgA p)[3]? = some (Value.int .i64 (lfv : Int))) := by show _ = _; rw [hlfv]; rfl
     clear h2 hlfv
     obtain ⟨e, he⟩ : ∃ e, e = min lfv 256 := ⟨_, rfl⟩
     have hE : endL P j = e := by unfold endL; rw [<- HPK.out, <- HLF.out, he]
     obtain ⟨zb, hzb⟩ : ∃ zb, zb = zeroB (b.drop e) := ⟨_, rfl⟩
     have HBY : Hid (bysK P D (j + 1) = bysK P D j ++ (if zb then [] else [⟨5, (j : Int)⟩])) := by
      show bysK P D j ++ byK P D j = _
      unfold byK
      rw [<- HPK.out, if_neg HK1.out, HBD.out, hE, <- hzb]
     have HLN : Hid (leftK P (j + 1) = lfv - e) := by
      show (if _ then _ else _) = _
      rw [<- HPK.out, if_neg HK1.out, <- HLF.out, he]
     have hzc : ∀ W', Below wR.heap.size wR W' -> Calls Tryz.prog 29 #[.slice (some ⟨bg, subO bo bc e, none⟩) (bm - e) (bc - e)] W' fun e' w' => e' = .returned (.bool zb) /\ W' = w' := fun W' hW' => by
      rw [hzb]
      exact noughts_c _ _ _ _ (by rw [List.length_drop, HBM.out.1]) (by have := HBM.out; omega) W' (by
       have h2 := (HBB.out.up hW' (Nat.le_refl _)).sub (lo := e) (hi := bm) (by rw [HBM.out.2.1]; omega) (by rw [HBM.out.1]; exact Nat.le_refl _)
       rw [List.take_of_length_le (by rw [List.length_drop, HBM.out.1]; exact Nat.le_refl _)] at h2
       exact h2)
     have hslE : ∀ w : World, (Instr.sliceAt 47 (.slice (some ⟨bg, bo, none⟩) bm bc) (some (.int .i64 (e : Int))) none none).run Tryz.prog w = .ok (.slice (some ⟨bg, subO bo bc e, none⟩) (bm - e) (bc - e)) w := fun w => run_subF bg bo bm bc e (by have := HBM.out; omega) w
     have HEE : Hid (e = min lfv 256) := he
     obtain ⟨xo, hxo⟩ : ∃ xo, xo = subO bo bc e := ⟨_, rfl⟩
     obtain ⟨xm, hxm⟩ : ∃ xm, xm = bm - e := ⟨_, rfl⟩
     obtain ⟨xc, hxc⟩ : ∃ xc, xc = bc - e := ⟨_, rfl⟩
     rw [<- hxo, <- hxm, <- hxc] at hzc hslE
     have HZC := Lib.hid hzc
     clear hE hzb he hxo hxm hxc hzc
     by_cases hbig : lfv > 256
     ·have he2 : e = 256 := by have := HEE.out; omega
      have g1 : (lfv : Int) > 256 := by omega
      have g2 : decide ((lfv : Int) > 256) = true := by simp; omega
      have g3 : (256 : Int) < (lfv : Int) := by omega
      obtain ⟨r, hr⟩ : ∃ r, r = lfv - 256 := ⟨_, rfl⟩
      have ir : (lfv : Int) - 256 = (r : Int) := by omega
      have wr0 : IntKind.i64.wrap (r : Int) = (r : Int) := IntWalk.i64_in _ (by have := HLF4.out; omega)
      have HR2 : Hid (r = leftK P (j + 1)) := by show _ = _; rw [HLN.out, he2, hr]
      rw [he2] at hslE
      have hslF : ∀ w : World, (Instr.sliceAt 47 (.slice (some ⟨bg, bo, none⟩) bm bc) (some (.int .i64 256)) none none).run Tryz.prog w = .ok (.slice (some ⟨bg, xo, none⟩) xm xc) w := hslE
      clear hslE he2 hr hbig
      cases zb with
      | true =>
       have HBY2 : Hid (bysK P D (j + 1) = bysK P D j) := by show _ = _; rw [HBY.out, if_pos rfl, List.append_nil]
       go_wp2_with (first
        | (refine wpList_load_mid rfl 78 (.tmp 52) rfl pg (po + j * 5) rfl _ _ HCR.out Tryz.underlying78 rfl (by rw [page5R]; rfl) ?_)
        | (refine wpList_store_row rfl 78 (.tmp 12) (.tmp 53) rfl wr.heap.size (pgA p) rfl rfl 78 _ HZP.out (by rw [page5R]; rfl) rfl (pgA_one _) ?_
           generalize hW1 : World.setRow _ _ _ = w2
           have HZ2 : Hid (w2.heap[wr.heap.size]? = some (.cells (pgA p) 78 (0, 0))) := (by show _ = _; rw [<- hW1]; exact setRow_heap _ _ _ _ _ _ HZP.out)
           have HE2 : Hid (Below wr.heap.size wr w2) := (by rw [<- hW1]; exact below_setRow HE1p.out (Nat.le_refl _) _)
           have HEx : Hid (Below wR.heap.size wR w2) := hbel.out.trans (HE2.out.mono hbel.out.size)
           have HOFx := Lib.hid (own_up hof.out HE2.out)
           have HOAx := Lib.hid (own_up hoa.out HE2.out)
           have c0 := (cells_at HZ2.out 0).trans HC0.out
           have c1 := (cells_at HZ2.out 1).trans (show _ = some (Value.int .i64 (p.cls : Int)) from rfl)
           have c3 := (cells_at HZ2.out 3).trans HC3.out
           have c4 := (cells_at HZ2.out 4).trans (show _ = some (Value.int .u64 (p.ser : Int)) from rfl)
           have cb := (HEx.out.cell (p := ⟨g, o + q, none⟩) HGL.out).trans HCB.out
           clear hW1
           have HOFb : Hid ((w2.alloc (.cells (plB ⟨j, 0, p.ser⟩) 80)).ownsRow wR.heap.size 73 2 (.slice fa nf fc) nf (cellsF (bysK P D j))) := World.ownsRow.alloc HOFx.out _
           have HOAb : Hid ((w2.alloc (.cells (plB ⟨j, 0, p.ser⟩) 80)).ownsRow wR.heap.size 80 3 (.slice aa na ac) na (cellsL (objsK P D j))) := World.ownsRow.alloc HOAx.out _
           have HEb : Hid (Below wR.heap.size wR (w2.alloc (.cells (plB ⟨j, 0, p.ser⟩) 80))) := HEx.out.alloc HEx.out.size _
           have HPLb : Hid (PlsAt (w2.alloc (.cells (plB ⟨j, 0, p.ser⟩) 80)) (some ⟨w2.heap.size, 0, none⟩) [⟨j, 0, p.ser⟩]) := pls_blk (heap_new' _ _))
        | (refine wpList_build_plR (p := ⟨j, 0, p.ser⟩) rfl (.tmp 69) rfl rfl ?_)
        | (refine wpList_append_plsR (v := .slice aa na ac) (base := wR.heap.size) (n := na) (L := objsK P D j) rfl (.tmp 65) (.tmp 70) rfl rfl HOAb.out rfl (M := [⟨j, 0, p.ser⟩]) rfl HPLb.out (fun h => by cases h) (fun p hp => by cases hp; rfl) (HNAB.out) HEb.out.size ?_
           intro v9 w9 ho9 hg9
           have HOA9 := Lib.hid ho9
           have HOF9 := Lib.hid (own_other HOAb.out hg9 HOFb.out (by decide))
           have HE9 : Hid (Below wR.heap.size wR w9) := HEb.out.grown hg9 HEb.out.size (fun q h => own_base HOAb.out q h)
           have hz9 := (hg9.block wr.heap.size (Nat.lt_of_lt_of_le (lt_of_block HZ2.out) (below_box w2 _).size) (fun e => by have := own_lt hoa.out e.symm; omega)).trans ((heap_old' _ _ _ (lt_of_block HZ2.out)).trans HZ2.out)
           have k0 := (cells_at hz9 0).trans HC0.out
           clear hz9
           obtain ⟨p9, r9, hv9⟩ := own_sliceR ho9
           subst hv9
           clear ho9 hg9)
        | fail)
       clear HOFx HOAx HEx
       have HOFx := HOF9
       have HOAx := HOA9
       have HEx := HE9
       clear HOF9 HOA9 HE9
       refine (HZC.out w9 HEx.out).mono ?_
       rintro e' w8 ⟨rfl, rfl⟩
       go_wp2
       go_roundw
       case rel => exact ⟨j + 1, fa, nf, fc, p9, (na + 1), r9, r, by go_num, rfl, rfl, rfl, by have := HJ.out; show _ <= _; omega, HR2.out, ⟨by rw [HBY2.out]; exact HNF.out.1, HNA.out⟩, by rw [HBY2.out]; exact HOFx.out, by rw [HANEW.out]; exact HOAx.out, HEx.out⟩
       case measure => simp [intOf]; have := HJ.out; omega
      | false =>
       have HBY2 : Hid (bysK P D (j + 1) = bysK P D j ++ [⟨5, (j : Int)⟩]) := by show _ = _; rw [HBY.out, if_neg (by simp)]
       have HNFB : Hid (nf + 1 <= 1000000) := by have h1 := HNF.out.1; have h2 := bysK_len P D j; have h3 := HJ.out; have h4 := HKS.out; show _ <= _; omega
       go_wp2_with (first
        | (refine wpList_load_mid rfl 78 (.tmp 52) rfl pg (po + j * 5) rfl _ _ HCR.out Tryz.underlying78 rfl (by rw [page5R]; rfl) ?_)
        | (refine wpList_store_row rfl 78 (.tmp 12) (.tmp 53) rfl wr.heap.size (pgA p) rfl rfl 78 _ HZP.out (by rw [page5R]; rfl) rfl (pgA_one _) ?_
           generalize hW1 : World.setRow _ _ _ = w2
           have HZ2 : Hid (w2.heap[wr.heap.size]? = some (.cells (pgA p) 78 (0, 0))) := (by show _ = _; rw [<- hW1]; exact setRow_heap _ _ _ _ _ _ HZP.out)
           have HE2 : Hid (Below wr.heap.size wr w2) := (by rw [<- hW1]; exact below_setRow HE1p.out (Nat.le_refl _) _)
           have HEx : Hid (Below wR.heap.size wR w2) := hbel.out.trans (HE2.out.mono hbel.out.size)
           have HOFx := Lib.hid (own_up hof.out HE2.out)
           have HOAx := Lib.hid (own_up hoa.out HE2.out)
           have c0 := (cells_at HZ2.out 0).trans HC0.out
           have c1 := (cells_at HZ2.out 1).trans (show _ = some (Value.int .i64 (p.cls : Int)) from rfl)
           have c3 := (cells_at HZ2.out 3).trans HC3.out
           have c4 := (cells_at HZ2.out 4).trans (show _ = some (Value.int .u64 (p.ser : Int)) from rfl)
           have cb := (HEx.out.cell (p := ⟨g, o + q, none⟩) HGL.out).trans HCB.out
           clear hW1
           have HOFb : Hid ((w2.alloc (.cells (plB ⟨j, 0, p.ser⟩) 80)).ownsRow wR.heap.size 73 2 (.slice fa nf fc) nf (cellsF (bysK P D j))) := World.ownsRow.alloc HOFx.out _
           have HOAb : Hid ((w2.alloc (.cells (plB ⟨j, 0, p.ser⟩) 80)).ownsRow wR.heap.size 80 3 (.slice aa na ac) na (cellsL (objsK P D j))) := World.ownsRow.alloc HOAx.out _
           have HEb : Hid (Below wR.heap.size wR (w2.alloc (.cells (plB ⟨j, 0, p.ser⟩) 80))) := HEx.out.alloc HEx.out.size _
           have HPLb : Hid (PlsAt (w2.alloc (.cells (plB ⟨j, 0, p.ser⟩) 80)) (some ⟨w2.heap.size, 0, none⟩) [⟨j, 0, p.ser⟩]) := pls_blk (heap_new' _ _))
        | (refine wpList_build_plR (p := ⟨j, 0, p.ser⟩) rfl (.tmp 69) rfl rfl ?_)
        | (refine wpList_append_plsR (v := .slice aa na ac) (base := wR.heap.size) (n := na) (L := objsK P D j) rfl (.tmp 65) (.tmp 70) rfl rfl HOAb.out rfl (M := [⟨j, 0, p.ser⟩]) rfl HPLb.out (fun h => by cases h) (fun p hp => by cases hp; rfl) (HNAB.out) HEb.out.size ?_
           intro v9 w9 ho9 hg9
           have HOA9 := Lib.hid ho9
           have HOF9 := Lib.hid (own_other HOAb.out hg9 HOFb.out (by decide))
           have HE9 : Hid (Below wR.heap.size wR w9) := HEb.out.grown hg9 HEb.out.size (fun q h => own_base HOAb.out q h)
           have hz9 := (hg9.block wr.heap.size (Nat.lt_of_lt_of_le (lt_of_block HZ2.out) (below_box w2 _).size) (fun e => by have := own_lt hoa.out e.symm; omega)).trans ((heap_old' _ _ _ (lt_of_block HZ2.out)).trans HZ2.out)
           have k0 := (cells_at hz9 0).trans HC0.out
           clear hz9
           obtain ⟨p9, r9, hv9⟩ := own_sliceR ho9
           subst hv9
           clear ho9 hg9)
        | fail)
       clear HOFx HOAx HEx
       have HOFx := HOF9
       have HOAx := HOA9
       have HEx := HE9
       clear HOF9 HOA9 HE9
       refine (HZC.out w9 HEx.out).mono ?_
       rintro e' w8 ⟨rfl, rfl⟩
       have HOFb : Hid ((w9.alloc (.cells (ftA ⟨5, (j : Int)⟩) 73)).ownsRow wR.heap.size 73 2 (.slice fa nf fc) nf (cellsF (bysK P D j))) := World.ownsRow.alloc HOFx.out _
       have HOAb : Hid ((w9.alloc (.cells (ftA ⟨5, (j : Int)⟩) 73)).ownsRow wR.heap.size 80 3 (.slice p9 (na + 1) r9) (na + 1) (cellsL (objsK P D j ++ [⟨j, 0, p.ser⟩]))) := World.ownsRow.alloc HOAx.out _
       have HEb : Hid (Below wR.heap.size wR (w9.alloc (.cells (ftA ⟨5, (j : Int)⟩) 73))) := HEx.out.alloc HEx.out.size _
       have HFTb : Hid (FtsAt (w9.alloc (.cells (ftA ⟨5, (j : Int)⟩) 73)) (some ⟨w9.heap.size, 0, none⟩) [⟨5, (j : Int)⟩]) := fts_blk (heap_new' _ _)
       go_wp2_with (first
        | (refine wpList_build_ftR (p := ⟨5, (j : Int)⟩) rfl (.tmp 121) rfl rfl ?_)
        | (refine wpList_append_ftsR (v := .slice fa nf fc) (base := wR.heap.size) (n := nf) (L := bysK P D j) rfl (.tmp 119) (.tmp 122) rfl rfl HOFb.out rfl (M := [⟨5, (j : Int)⟩]) rfl HFTb.out (fun h => by cases h) (fun p hp => by cases hp; rfl) (HNFB.out) HEb.out.size ?_
           intro v9 w9 ho9 hg9
           have HOF9 := Lib.hid ho9
           have HOA9 := Lib.hid (own_other HOFb.out hg9 HOAb.out (by decide))
           have HE9 : Hid (Below wR.heap.size wR w9) := HEb.out.grown hg9 HEb.out.size (fun q h => own_base HOFb.out q h)
           obtain ⟨f9, k9, hv9⟩ := own_sliceR ho9
           subst hv9
           clear ho9 hg9)
        | fail)
       go_roundw
       case rel => exact ⟨j + 1, f9, nf + 1, k9, p9, (na + 1), r9, r, by go_num, rfl, rfl, rfl, by have := HJ.out; show _ <= _; omega, HR2.out, ⟨by rw [HBY2.out, List.length_append, <- HNF.out.1]; rfl, HNA.out⟩, by rw [HBY2.out]; exact HOF9.out, by rw [HANEW.out]; exact HOA9.out, HE9.out⟩
       case measure => simp [intOf]; have := HJ.out; omega
     ·have g1 : ¬ (lfv : Int) > 256 := by omega
      have g2 : decide ((lfv : Int) > 256) = false := by simp; omega
      have g3 : ¬ (256 : Int) < (lfv : Int) := by omega
      have he2 : e = lfv := by have := HEE.out; omega
      have HR2 : Hid (0 = leftK P (j + 1)) := by show _ = _; rw [HLN.out, he2, Nat.sub_self]
      have gz : (lfv : Int) - (lfv : Int) = 0 := by omega
      rw [he2] at hslE
      clear he2 hbig
      cases zb with
      | true =>
       have HBY2 : Hid (bysK P D (j + 1) = bysK P D j) := by show _ = _; rw [HBY.out, if_pos rfl, List.append_nil]
       go_wp2_with (first
        | (refine wpList_load_mid rfl 78 (.tmp 52) rfl pg (po + j * 5) rfl _ _ HCR.out Tryz.underlying78 rfl (by rw [page5R]; rfl) ?_)
        | (refine wpList_store_row rfl 78 (.tmp 12) (.tmp 53) rfl wr.heap.size (pgA p) rfl rfl 78 _ HZP.out (by rw [page5R]; rfl) rfl (pgA_one _) ?_
           generalize hW1 : World.setRow _ _ _ = w2
           have HZ2 : Hid (w2.heap[wr.heap.size]? = some (.cells (pgA p) 78 (0, 0))) := (by show _ = _; rw [<- hW1]; exact setRow_heap _ _ _ _ _ _ HZP.out)
           have HE2 : Hid (Below wr.heap.size wr w2) := (by rw [<- hW1]; exact below_setRow HE1p.out (Nat.le_refl _) _)
           have HEx : Hid (Below wR.heap.size wR w2) := hbel.out.trans (HE2.out.mono hbel.out.size)
           have HOFx := Lib.hid (own_up hof.out HE2.out)
           have HOAx := Lib.hid (own_up hoa.out HE2.out)
           have c0 := (cells_at HZ2.out 0).trans HC0.out
           have c1 := (cells_at HZ2.out 1).trans (show _ = some (Value.int .i64 (p.cls : Int)) from rfl)
           have c3 := (cells_at HZ2.out 3).trans HC3.out
           have c4 := (cells_at HZ2.out 4).trans (show _ = some (Value.int .u64 (p.ser : Int)) from rfl)
           have cb := (HEx.out.cell (p := ⟨g, o + q, none⟩) HGL.out).trans HCB.out
           clear hW1
           have HOFb : Hid ((w2.alloc (.cells (plB ⟨j, 0, p.ser⟩) 80)).ownsRow wR.heap.size 73 2 (.slice fa nf fc) nf (cellsF (bysK P D j))) := World.ownsRow.alloc HOFx.out _
           have HOAb : Hid ((w2.alloc (.cells (plB ⟨j, 0, p.ser⟩) 80)).ownsRow wR.heap.size 80 3 (.slice aa na ac) na (cellsL (objsK P D j))) := World.ownsRow.alloc HOAx.out _
           have HEb : Hid (Below wR.heap.size wR (w2.alloc (.cells (plB ⟨j, 0, p.ser⟩) 80))) := HEx.out.alloc HEx.out.size _
           have HPLb : Hid (PlsAt (w2.alloc (.cells (plB ⟨j, 0, p.ser⟩) 80)) (some ⟨w2.heap.size, 0, none⟩) [⟨j, 0, p.ser⟩]) := pls_blk (heap_new' _ _))
        | (refine wpList_build_plR (p := ⟨j, 0, p.ser⟩) rfl (.tmp 69) rfl rfl ?_)
        | (refine wpList_append_plsR (v := .slice aa na ac) (base := wR.heap.size) (n := na) (L := objsK P D j) rfl (.tmp 65) (.tmp 70) rfl rfl HOAb.out rfl (M := [⟨j, 0, p.ser⟩]) rfl HPLb.out (fun h => by cases h) (fun p hp => by cases hp; rfl) (HNAB.out) HEb.out.size ?_
           intro v9 w9 ho9 hg9
           have HOA9 := Lib.hid ho9
           have HOF9 := Lib.hid (own_other HOAb.out hg9 HOFb.out (by decide))
           have HE9 : Hid (Below wR.heap.size wR w9) := HEb.out.grown hg9 HEb.out.size (fun q h => own_base HOAb.out q h)
           have hz9 := (hg9.block wr.heap.size (Nat.lt_of_lt_of_le (lt_of_block HZ2.out) (below_box w2 _).size) (fun e => by have := own_lt hoa.out e.symm; omega)).trans ((heap_old' _ _ _ (lt_of_block HZ2.out)).trans HZ2.out)
           have k0 := (cells_at hz9 0).trans HC0.out
           clear hz9
           obtain ⟨p9, r9, hv9⟩ := own_sliceR ho9
           subst hv9
           clear ho9 hg9)
        | fail)
       clear HOFx HOAx HEx
       have HOFx := HOF9
       have HOAx := HOA9
       have HEx := HE9
       clear HOF9 HOA9 HE9
       refine (HZC.out w9 HEx.out).mono ?_
       rintro e' w8 ⟨rfl, rfl⟩
       go_wp2
       go_roundw
       case rel => exact ⟨j + 1, fa, nf, fc, p9, (na + 1), r9, 0, by go_num, rfl, rfl, rfl, by have := HJ.out; show _ <= _; omega, HR2.out, ⟨by rw [HBY2.out]; exact HNF.out.1, HNA.out⟩, by rw [HBY2.out]; exact HOFx.out, by rw [HANEW.out]; exact HOAx.out, HEx.out⟩
       case measure => simp [intOf]; have := HJ.out; omega
      | false =>
       have HBY2 : Hid (bysK P D (j + 1) = bysK P D j ++ [⟨5, (j : Int)⟩]) := by show _ = _; rw [HBY.out, if_neg (by simp)]
       have HNFB : Hid (nf + 1 <= 1000000) := by have h1 := HNF.out.1; have h2 := bysK_len P D j; have h3 := HJ.out; have h4 := HKS.out; show _ <= _; omega
       go_wp2_with (first
        | (refine wpList_load_mid rfl 78 (.tmp 52) rfl pg (po + j * 5) rfl _ _ HCR.out Tryz.underlying78 rfl (by rw [page5R]; rfl) ?_)
        | (refine wpList_store_row rfl 78 (.tmp 12) (.tmp 53) rfl wr.heap.size (pgA p) rfl rfl 78 _ HZP.out (by rw [page5R]; rfl) rfl (pgA_one _) ?_
           generalize hW1 : World.setRow _ _ _ = w2
           have HZ2 : Hid (w2.heap[wr.heap.size]? = some (.cells (pgA p) 78 (0, 0))) := (by show _ = _; rw [<- hW1]; exact setRow_heap _ _ _ _ _ _ HZP.out)
           have HE2 : Hid (Below wr.heap.size wr w2) := (by rw [<- hW1]; exact below_setRow HE1p.out (Nat.le_refl _) _)
           have HEx : Hid (Below wR.heap.size wR w2) := hbel.out.trans (HE2.out.mono hbel.out.size)
           have HOFx := Lib.hid (own_up hof.out HE2.out)
           have HOAx := Lib.hid (own_up hoa.out HE2.out)
           have c0 := (cells_at HZ2.out 0).trans HC0.out
           have c1 := (cells_at HZ2.out 1).trans (show _ = some (Value.int .i64 (p.cls : Int)) from rfl)
           have c3 := (cells_at HZ2.out 3).trans HC3.out
           have c4 := (cells_at HZ2.out 4).trans (show _ = some (Value.int .u64 (p.ser : Int)) from rfl)
           have cb := (HEx.out.cell (p := ⟨g, o + q, none⟩) HGL.out).trans HCB.out
           clear hW1
           have HOFb : Hid ((w2.alloc (.cells (plB ⟨j, 0, p.ser⟩) 80)).ownsRow wR.heap.size 73 2 (.slice fa nf fc) nf (cellsF (bysK P D j))) := World.ownsRow.alloc HOFx.out _
           have HOAb : Hid ((w2.alloc (.cells (plB ⟨j, 0, p.ser⟩) 80)).ownsRow wR.heap.size 80 3 (.slice aa na ac) na (cellsL (objsK P D j))) := World.ownsRow.alloc HOAx.out _
           have HEb : Hid (Below wR.heap.size wR (w2.alloc (.cells (plB ⟨j, 0, p.ser⟩) 80))) := HEx.out.alloc HEx.out.size _
           have HPLb : Hid (PlsAt (w2.alloc (.cells (plB ⟨j, 0, p.ser⟩) 80)) (some ⟨w2.heap.size, 0, none⟩) [⟨j, 0, p.ser⟩]) := pls_blk (heap_new' _ _))
        | (refine wpList_build_plR (p := ⟨j, 0, p.ser⟩) rfl (.tmp 69) rfl rfl ?_)
        | (refine wpList_append_plsR (v := .slice aa na ac) (base := wR.heap.size) (n := na) (L := objsK P D j) rfl (.tmp 65) (.tmp 70) rfl rfl HOAb.out rfl (M := [⟨j, 0, p.ser⟩]) rfl HPLb.out (fun h => by cases h) (fun p hp => by cases hp; rfl) (HNAB.out) HEb.out.size ?_
           intro v9 w9 ho9 hg9
           have HOA9 := Lib.hid ho9
           have HOF9 := Lib.hid (own_other HOAb.out hg9 HOFb.out (by decide))
           have HE9 : Hid (Below wR.heap.size wR w9) := HEb.out.grown hg9 HEb.out.size (fun q h => own_base HOAb.out q h)
           have hz9 := (hg9.block wr.heap.size (Nat.lt_of_lt_of_le (lt_of_block HZ2.out) (below_box w2 _).size) (fun e => by have := own_lt hoa.out e.symm; omega)).trans ((heap_old' _ _ _ (lt_of_block HZ2.out)).trans HZ2.out)
           have k0 := (cells_at hz9 0).trans HC0.out
           clear hz9
           obtain ⟨p9, r9, hv9⟩ := own_sliceR ho9
           subst hv9
           clear ho9 hg9)
        | fail)
       clear HOFx HOAx HEx
       have HOFx := HOF9
       have HOAx := HOA9
       have HEx := HE9
       clear HOF9 HOA9 HE9
       refine (HZC.out w9 HEx.out).mono ?_
       rintro e' w8 ⟨rfl, rfl⟩
       have HOFb : Hid ((w9.alloc (.cells (ftA ⟨5, (j : Int)⟩) 73)).ownsRow wR.heap.size 73 2 (.slice fa nf fc) nf (cellsF (bysK P D j))) := World.ownsRow.alloc HOFx.out _
       have HOAb : Hid ((w9.alloc (.cells (ftA ⟨5, (j : Int)⟩) 73)).ownsRow wR.heap.size 80 3 (.slice p9 (na + 1) r9) (na + 1) (cellsL (objsK P D j ++ [⟨j, 0, p.ser⟩]))) := World.ownsRow.alloc HOAx.out _
       have HEb : Hid (Below wR.heap.size wR (w9.alloc (.cells (ftA ⟨5, (j : Int)⟩) 73))) := HEx.out.alloc HEx.out.size _
       have HFTb : Hid (FtsAt (w9.alloc (.cells (ftA ⟨5, (j : Int)⟩) 73)) (some ⟨w9.heap.size, 0, none⟩) [⟨5, (j : Int)⟩]) := fts_blk (heap_new' _ _)
       go_wp2_with (first
        | (refine wpList_build_ftR (p := ⟨5, (j : Int)⟩) rfl (.tmp 121) rfl rfl ?_)
        | (refine wpList_append_ftsR (v := .slice fa nf fc) (base := wR.heap.size) (n := nf) (L := bysK P D j) rfl (.tmp 119) (.tmp 122) rfl rfl HOFb.out rfl (M := [⟨5, (j : Int)⟩]) rfl HFTb.out (fun h => by cases h) (fun p hp => by cases hp; rfl) (HNFB.out) HEb.out.size ?_
           intro v9 w9 ho9 hg9
           have HOF9 := Lib.hid ho9
           have HOA9 := Lib.hid (own_other HOFb.out hg9 HOAb.out (by decide))
           have HE9 : Hid (Below wR.heap.size wR w9) := HEb.out.grown hg9 HEb.out.size (fun q h => own_base HOFb.out q h)
           obtain ⟨f9, k9, hv9⟩ := own_sliceR ho9
           subst hv9
           clear ho9 hg9)
        | fail)
       go_roundw
       case rel => exact ⟨j + 1, f9, nf + 1, k9, p9, (na + 1), r9, 0, by go_num, rfl, rfl, rfl, by have := HJ.out; show _ <= _; omega, HR2.out, ⟨by rw [HBY2.out, List.length_append, <- HNF.out.1]; rfl, HNA.out⟩, by rw [HBY2.out]; exact HOF9.out, by rw [HANEW.out]; exact HOA9.out, HE9.out⟩
       case measure => simp [intOf]; have := HJ.out; omega
    ·by_cases h1 : p.kind = 1
     ·have HC0 : Hid ((pgA p)[0]? = some (Value.int .i64 1)) := by show _ = _; rw [show (1 : Int) = (p.kind : Int) by omega]; rfl
      have HLN1 : Hid (lf = leftK P (j + 1)) := by
       show _ = (if _ then _ else _)
       rw [<- HPK.out, if_pos h1]; exact HLFJ.out
      obtain ⟨N, hN⟩ : ∃ N, N = slotsN p.cls := ⟨_, rfl⟩
      have HN16 : Hid (N <= 16) := by
       show _ <= _; rw [hN]
       by_cases h : p.cls < 8
       ·exact (slots_all _ h).2.2
       ·unfold slotsN; rw [if_pos (sz_big _ (by omega))]; omega
      have HANEW : Hid (objsK P D (j + 1) = objsK P D j ++ slK b p.cls j N) := by
       show objsK P D j ++ objK P D j = _
       unfold objK; rw [<- HPK.out, if_neg (by omega), if_pos h1, HBD.out, <- hN]
      obtain ⟨ok, hok⟩ : ∃ ok, ok = pageOk b p.cls := ⟨_, rfl⟩
      have HPO : Hid (∀ i, (pageOk b p.cls && thereS b p.cls i) = (ok && thereS b p.cls i)) := fun i => by rw [hok]
      have HBYK : Hid (bysK P D (j + 1) = bysK P D j ++ (if ok then [] else [⟨4, (j : Int)⟩])) := by
       show bysK P D j ++ byK P D j = _
       unfold byK
       rw [<- HPK.out, if_pos h1, HBD.out, <- hok]
      have HOC : Hid (∀ W', Below wR.heap.size wR W' -> Calls Tryz.prog 28 #[.slice (some ⟨bg, bo, none⟩) bm bc, .int .i64 (p.cls : Int)] W' fun e' w' => (if ok then ∃ a cc, e' = .returned (.tuple #[.slice a N cc, .bool true]) /\ ObsAt w' a (obsK b p.cls N) /\ (∀ q, a = some q -> ∃ A z, w'.heap[q.block]? = some (Obj.cells A 85 z)) else e' = .returned (.tuple #[.slice none 0 0, .bool false])) /\ Below W'.heap.size W' w') := fun W' hW' => by
       have := robjs_c bg bo bm bc b (by rw [HBM.out.1]; exact HBM.out.2.1) HBM.out.2.1 HBM.out.2.2.1 HBM.out.2.2.2 p.cls W' (HBB.out.up hW' (Nat.le_refl _))
       unfold ObjsR at this
       rw [<- hok, <- hN] at this
       exact this
      have HTHP : Hid (ok = true -> ∀ i, i < N -> (0 < serW (winL b p.cls i) ↔ thereS b p.cls i = true)) := fun hk i hi => by
       rw [hok] at hk
       unfold pageOk at hk
       simp only [Bool.and_eq_true, List.all_eq_true] at hk
       have h3 := hk.1.2 i (List.mem_range.2 (by rw [<- hN]; exact hi))
       have h4 := win_bounds (c := p.cls) (k := i) (by rw [<- hN]; exact hi)
       rw [ser_there (by rw [winL_len (by rw [HBM.out.1]; exact HBM.out.2.1) (by rw [<- hN]; exact hi)]; omega) h3]
       unfold thereS
       rw [show decide (i < slotsN p.cls) = true by rw [<- hN]; simpa using hi]
       simp
      have e1 : (p.kind : Int) = 1 := by omega
      clear h2 hN hok e1 h1
      cases ok with
      | true =>
       have HTH : Hid (∀ i, i < N -> (0 < serW (winL b p.cls i) ↔ thereS b p.cls i = true)) := HTHP.out rfl
       have HBY2 : Hid (bysK P D (j + 1) = bysK P D j) := by show _ = _; rw [HBYK.out, if_pos rfl, List.append_nil]
       have HNFN : Hid (nf = (bysK P D (j + 1)).length) := by show _ = _; rw [HBY2.out]; exact HNF.out.1
       have HPO : Hid (∀ i, (pageOk b p.cls && thereS b p.cls i) = thereS b p.cls i) := fun i => by rw [HPO.out, Bool.true_and]
       go_wp2_with (first
        | (refine wpList_load_mid rfl 78 (.tmp 52) rfl pg (po + j * 5) rfl _ _ HCR.out Tryz.underlying78 rfl (by rw [page5R]; rfl) ?_)
        | (refine wpList_store_row rfl 78 (.tmp 12) (.tmp 53) rfl wr.heap.size (pgA p) rfl rfl 78 _ HZP.out (by rw [page5R]; rfl) rfl (pgA_one _) ?_
           generalize hW1 : World.setRow _ _ _ = w2
           have HZ2 : Hid (w2.heap[wr.heap.size]? = some (.cells (pgA p) 78 (0, 0))) := (by show _ = _; rw [<- hW1]; exact setRow_heap _ _ _ _ _ _ HZP.out)
           have HE2 : Hid (Below wr.heap.size wr w2) := (by rw [<- hW1]; exact below_setRow HE1p.out (Nat.le_refl _) _)
           have HEx : Hid (Below wR.heap.size wR w2) := hbel.out.trans (HE2.out.mono hbel.out.size)
           have HOFx := Lib.hid (own_up hof.out HE2.out)
           have HOAx := Lib.hid (own_up hoa.out HE2.out)
           have c0 := (cells_at HZ2.out 0).trans HC0.out
           have c1 := (cells_at HZ2.out 1).trans (show _ = some (Value.int .i64 (p.cls : Int)) from rfl)
           have c3 := (cells_at HZ2.out 3).trans (show _ = some (Value.int .i64 (p.size : Int)) from rfl)
           have c4 := (cells_at HZ2.out 4).trans (show _ = some (Value.int .u64 (p.ser : Int)) from rfl)
           have cb := (HEx.out.cell (p := ⟨g, o + q, none⟩) HGL.out).trans HCB.out
           clear hW1)
        | fail)
       refine (HOC.out w2 HEx.out).mono ?_
       rintro e' w3 ⟨hp3, hb3⟩
       rw [if_pos trivial] at hp3
       obtain ⟨oa, oc, rfl, hob0, hty⟩ := hp3
       have hob : ObsS w3 oa (obsK b p.cls N) := ⟨hty, fun i o ho => by
        obtain ⟨g1, of1, va, vc, h1, _, h2, _⟩ := hob0 i o ho
        exact ⟨g1, of1, va, vc, h1, h2⟩⟩
       have HEy : Hid (Below wR.heap.size wR w3) := HEx.out.trans (hb3.mono HEx.out.size)
       have HOFy := Lib.hid (own_up HOFx.out hb3)
       have HOAy := Lib.hid (own_up HOAx.out hb3)
       have HOBx := Lib.hid hob
       clear HOFx HOAx HEx hb3 hob cb c0 c1 c3 c4
       have HOFx := HOFy
       have HOAx := HOAy
       have HEx := HEy
       clear HOFy HOAy HEy
       go_wp2
       generalize w3 = wL at *
       go_loopw [9, 16, 17, 91] (fun v9 v16 v17 vi wr => ∃ i aa' na' ac', vi = .int .i64 ((i : Nat) : Int) /\ v9 = .slice aa' na' ac' /\ Hid (i <= N) /\ Hid (na' = (objsK P D j ++ slK b p.cls j i).length) /\ Hid (wr.ownsRow wR.heap.size 73 2 (.slice fa nf fc) nf (cellsF (bysK P D j))) /\ Hid (wr.ownsRow wR.heap.size 80 3 (.slice aa' na' ac') na' (cellsL (objsK P D j ++ slK b p.cls j i))) /\ Hid (Below wR.heap.size wR wr) /\ Hid (wL.heap.size <= wr.heap.size /\ ObsS wr oa (obsK b p.cls N))) (fun _ _ _ vi _ => N - (intOf vi).toNat)
       case atStart => exact ⟨0, aa, na, ac, rfl, rfl, Nat.zero_le _, by show _ = _; rw [show slK b p.cls j 0 = [] from rfl, List.append_nil]; exact HNF.out.2, HOFx.out, by show World.ownsRow _ _ _ _ _ _ _; rw [show slK b p.cls j 0 = [] from rfl, List.append_nil]; exact HOAx.out, HEx.out, ⟨Nat.le_refl _, HOBx.out⟩⟩
       case round =>
        clear HOFx HOAx HEx HOBx
        obtain ⟨i, a', n', c', rfl, rfl, hi, hna, hof2, hoa2, hbel2, hsz2⟩ := hrel
        have hiN : i <= N := hi
        by_cases hil : i < N
        ·have e1 : (i : Int) < (N : Int) := by omega
         have e2 : decide ((i : Int) < (N : Int)) = true := by simp; omega
         have e0 : ¬ (i : Int) < 0 := by omega
         have ei : IntKind.i64.wrap ((i : Int) + 1) = (i : Int) + 1 := IntWalk.i64_in _ (by have := HN16.out; omega)
         obtain ⟨og, oo, va, vc, e9, hcell⟩ := hsz2.out.2.2 i _ (obsK_get b p.cls N i hil)
         obtain ⟨sr, hsr⟩ : ∃ sr, sr = (obK b p.cls i).ser := ⟨_, rfl⟩
         obtain ⟨bl, hbl⟩ : ∃ bl, bl = (obK b p.cls i).b.length := ⟨_, rfl⟩
         rw [<- hsr, <- hbl] at hcell
         have HCO : Hid (wr.rangeAt og (oo + i * 2) [.int .u64 (sr : Int), .slice va bl vc]) := hcell
         have hth := HTH.out i hil
         have hsrw : sr = serW (winL b p.cls i) := hsr
         rw [<- hsrw] at hth
         have HI := Lib.hid hil
         subst e9
         by_cases h0 : 0 < sr
         ·have g1 : (sr : Int) > 0 := by omega
          have g2 : decide ((sr : Int) > 0) = true := by simp; omega
          have g3 : 0 < (sr : Int) := by omega
          have HSN : Hid (slK b p.cls j (i + 1) = slK b p.cls j i ++ [⟨j, i, sr⟩]) := by
           show slK b p.cls j i ++ _ = _
           rw [HPO.out, hth.1 h0, <- hsrw]; rfl
          have HNAB : Hid (n' + 1 <= 1000000) := by
           have h1 := hna.out
           rw [List.length_append] at h1
           have h2 := objsK_len P D j
           have h3 := slK_len b p.cls j i
           have h4 := HJ.out
           have h5 := HKS.out
           have h6 := HN16.out
           show _ <= _; omega
          have hEo := below_box wr (.cells #[.int .u64 (sr : Int), .slice va bl vc] 85)
          have HEo := Lib.hid hEo
          have HOFx : Hid ((wr.alloc (.cells #[.int .u64 (sr : Int), .slice va bl vc] 85)).ownsRow wR.heap.size 73 2 (.slice fa nf fc) nf (cellsF (bysK P D j))) := own_up hof2.out hEo
          have HOAx : Hid ((wr.alloc (.cells #[.int .u64 (sr : Int), .slice va bl vc] 85)).ownsRow wR.heap.size 80 3 (.slice a' n' c') n' (cellsL (objsK P D j ++ slK b p.cls j i))) := own_up hoa2.out hEo
          have HEx : Hid (Below wR.heap.size wR (wr.alloc (.cells #[.int .u64 (sr : Int), .slice va bl vc] 85))) := hbel2.out.trans (hEo.mono hbel2.out.size)
          have HOFb : Hid (((wr.alloc (.cells #[.int .u64 (sr : Int), .slice va bl vc] 85)).alloc (.cells (plB ⟨j, i, sr⟩) 80)).ownsRow wR.heap.size 73 2 (.slice fa nf fc) nf (cellsF (bysK P D j))) := World.ownsRow.alloc HOFx.out _
          have HOAb : Hid (((wr.alloc (.cells #[.int .u64 (sr : Int), .slice va bl vc] 85)).alloc (.cells (plB ⟨j, i, sr⟩) 80)).ownsRow wR.heap.size 80 3 (.slice a' n' c') n' (cellsL (objsK P D j ++ slK b p.cls j i))) := World.ownsRow.alloc HOAx.out _
          have HEb : Hid (Below wR.heap.size wR ((wr.alloc (.cells #[.int .u64 (sr : Int), .slice va bl vc] 85)).alloc (.cells (plB ⟨j, i, sr⟩) 80))) := HEx.out.alloc HEx.out.size _
          have HPLb : Hid (PlsAt ((wr.alloc (.cells #[.int .u64 (sr : Int), .slice va bl vc] 85)).alloc (.cells (plB ⟨j, i, sr⟩) 80)) (some ⟨(wr.alloc (.cells #[.int .u64 (sr : Int), .slice va bl vc] 85)).heap.size, 0, none⟩) [⟨j, i, sr⟩]) := pls_blk (heap_new' _ _)
          have HOb : Hid (ObsS ((wr.alloc (.cells #[.int .u64 (sr : Int), .slice va bl vc] 85)).alloc (.cells (plB ⟨j, i, sr⟩) 80)) (some ⟨og, oo, none⟩) (obsK b p.cls N)) := (hsz2.out.2.up hEo).up (below_box _ _)
          have HSb : Hid (wL.heap.size <= ((wr.alloc (.cells #[.int .u64 (sr : Int), .slice va bl vc] 85)).alloc (.cells (plB ⟨j, i, sr⟩) 80)).heap.size) := by have h1 := hsz2.out.1; have h2 := hEo.size; have h3 := (below_box (wr.alloc (.cells #[.int .u64 (sr : Int), .slice va bl vc] 85)) (.cells (plB ⟨j, i, sr⟩) 80)).size; show _ <= _; omega
          clear hEo hsr hbl hcell hth hsrw h0 hil hiN hi
          go_wp2_with (first
           | (refine wpList_load_mid rfl 85 (.tmp 94) rfl og (oo + i * 2) rfl _ _ HCO.out Tryz.underlying85 rfl (by rw [ob2]; rfl) ?_)
           | (refine wpList_build_plR (p := ⟨j, i, sr⟩) rfl (.tmp 104) rfl rfl ?_)
           | (refine wpList_append_plsR (v := .slice a' n' c') (base := wR.heap.size) (n := n') (L := objsK P D j ++ slK b p.cls j i) rfl (.tmp 99) (.tmp 105) rfl rfl HOAb.out rfl (M := [⟨j, i, sr⟩]) rfl HPLb.out (fun h => by cases h) (fun p hp => by cases hp; rfl) (HNAB.out) HEb.out.size ?_
              intro v9 w9 ho9 hg9
              rw [List.append_assoc, <- HSN.out] at ho9
              have HOA9 := Lib.hid ho9
              have HOF9 := Lib.hid (own_other HOAb.out hg9 HOFb.out (by decide))
              have HE9 : Hid (Below wR.heap.size wR w9) := HEb.out.grown hg9 HEb.out.size (fun q h => own_base HOAb.out q h)
              have HOB9 : Hid (ObsS w9 (some ⟨og, oo, none⟩) (obsK b p.cls N)) := HOb.out.grown HOAb.out hg9 (by decide)
              have HSZ9 : Hid (wL.heap.size <= w9.heap.size) := Nat.le_trans HSb.out hg9.size
              obtain ⟨f9, k9, hv9⟩ := own_sliceR ho9
              subst hv9
              clear ho9 hg9)
           | fail)
          go_roundw
          case rel => exact ⟨i + 1, f9, n' + 1, k9, by go_num, rfl, by have := HI.out; show _ <= _; omega, by show _ = _; rw [HSN.out, <- List.append_assoc, List.length_append, <- hna.out]; rfl, HOF9.out, HOA9.out, HE9.out, ⟨HSZ9.out, HOB9.out⟩⟩
          case measure => simp [intOf]; have := HI.out; omega
         ·have g1 : ¬ (sr : Int) > 0 := by omega
          have g2 : decide ((sr : Int) > 0) = false := by simp; omega
          have g3 : ¬ 0 < (sr : Int) := by omega
          have HSN : Hid (slK b p.cls j (i + 1) = slK b p.cls j i) := by
           show slK b p.cls j i ++ _ = _
           rw [HPO.out, show thereS b p.cls i = false by cases h : thereS b p.cls i with | false => rfl | true => exact absurd (hth.2 h) h0]
           exact List.append_nil _
          have hEo := below_box wr (.cells #[.int .u64 (sr : Int), .slice va bl vc] 85)
          have HOFx : Hid ((wr.alloc (.cells #[.int .u64 (sr : Int), .slice va bl vc] 85)).ownsRow wR.heap.size 73 2 (.slice fa nf fc) nf (cellsF (bysK P D j))) := own_up hof2.out hEo
          have HOAx : Hid ((wr.alloc (.cells #[.int .u64 (sr : Int), .slice va bl vc] 85)).ownsRow wR.heap.size 80 3 (.slice a' n' c') n' (cellsL (objsK P D j ++ slK b p.cls j i))) := own_up hoa2.out hEo
          have HEx : Hid (Below wR.heap.size wR (wr.alloc (.cells #[.int .u64 (sr : Int), .slice va bl vc] 85))) := hbel2.out.trans (hEo.mono hbel2.out.size)
          have HOBx : Hid (wL.heap.size <= (wr.alloc (.cells #[.int .u64 (sr : Int), .slice va bl vc] 85)).heap.size /\ ObsS (wr.alloc (.cells #[.int .u64 (sr : Int), .slice va bl vc] 85)) (some ⟨og, oo, none⟩) (obsK b p.cls N)) := ⟨Nat.le_trans hsz2.out.1 hEo.size, hsz2.out.2.up hEo⟩
          clear hEo hsr hbl hcell hth hsrw h0 hil hiN hi
          go_wp2_with (first
           | (refine wpList_load_mid rfl 85 (.tmp 94) rfl og (oo + i * 2) rfl _ _ HCO.out Tryz.underlying85 rfl (by rw [ob2]; rfl) ?_)
           | fail)
          go_roundw
          case rel => exact ⟨i + 1, a', n', c', by go_num, rfl, by have := HI.out; show _ <= _; omega, by rw [HSN.out]; exact hna.out, HOFx.out, by rw [HSN.out]; exact HOAx.out, HEx.out, HOBx.out⟩
          case measure => simp [intOf]; have := HI.out; omega
        ·have hie : i = N := by omega
         have e1 : ¬ (i : Int) < (N : Int) := by omega
         have e2 : decide ((i : Int) < (N : Int)) = false := by simp; omega
         have HAN2 : Hid (objsK P D (j + 1) = objsK P D j ++ slK b p.cls j i) := by show _ = _; rw [HANEW.out, hie]
         clear hie hil hi hiN
         go_wp2
         go_roundw
         case rel => exact ⟨j + 1, fa, nf, fc, a', n', c', lf, by go_num, rfl, rfl, rfl, by have := HJ.out; show _ <= _; omega, HLN1.out, ⟨HNFN.out, by show _ = _; rw [HAN2.out]; exact hna.out⟩, by rw [HBY2.out]; exact hof2.out, by rw [HAN2.out]; exact hoa2.out, hbel2.out⟩
         case measure => simp [intOf]; have := HJ.out; omega
      | false =>
       have HSK : Hid (slK b p.cls j N = []) := by
        have h : ∀ m, slK b p.cls j m = [] := by
         intro m
         induction m with
         | zero => rfl
         | succ m ih =>
          show slK b p.cls j m ++ _ = _
          rw [ih, HPO.out m]; rfl
        exact h N
       have HAN2 : Hid (objsK P D (j + 1) = objsK P D j) := by show _ = _; rw [HANEW.out, HSK.out, List.append_nil]
       have HBY2 : Hid (bysK P D (j + 1) = bysK P D j ++ [⟨4, (j : Int)⟩]) := by show _ = _; rw [HBYK.out, if_neg (by simp)]
       have HNFB : Hid (nf + 1 <= 1000000) := by have h1 := HNF.out.1; have h2 := bysK_len P D j; have h3 := HJ.out; have h4 := HKS.out; show _ <= _; omega
       go_wp2_with (first
        | (refine wpList_load_mid rfl 78 (.tmp 52) rfl pg (po + j * 5) rfl _ _ HCR.out Tryz.underlying78 rfl (by rw [page5R]; rfl) ?_)
        | (refine wpList_store_row rfl 78 (.tmp 12) (.tmp 53) rfl wr.heap.size (pgA p) rfl rfl 78 _ HZP.out (by rw [page5R]; rfl) rfl (pgA_one _) ?_
           generalize hW1 : World.setRow _ _ _ = w2
           have HZ2 : Hid (w2.heap[wr.heap.size]? = some (.cells (pgA p) 78 (0, 0))) := (by show _ = _; rw [<- hW1]; exact setRow_heap _ _ _ _ _ _ HZP.out)
           have HE2 : Hid (Below wr.heap.size wr w2) := (by rw [<- hW1]; exact below_setRow HE1p.out (Nat.le_refl _) _)
           have HEx : Hid (Below wR.heap.size wR w2) := hbel.out.trans (HE2.out.mono hbel.out.size)
           have HOFx := Lib.hid (own_up hof.out HE2.out)
           have HOAx := Lib.hid (own_up hoa.out HE2.out)
           have c0 := (cells_at HZ2.out 0).trans HC0.out
           have c1 := (cells_at HZ2.out 1).trans (show _ = some (Value.int .i64 (p.cls : Int)) from rfl)
           have c3 := (cells_at HZ2.out 3).trans (show _ = some (Value.int .i64 (p.size : Int)) from rfl)
           have c4 := (cells_at HZ2.out 4).trans (show _ = some (Value.int .u64 (p.ser : Int)) from rfl)
           have cb := (HEx.out.cell (p := ⟨g, o + q, none⟩) HGL.out).trans HCB.out
           clear hW1)
        | fail)
       refine (HOC.out w2 HEx.out).mono ?_
       rintro e' w3 ⟨hp3, hb3⟩
       rw [if_neg (by simp)] at hp3
       subst hp3
       have HEy : Hid (Below wR.heap.size wR w3) := HEx.out.trans (hb3.mono HEx.out.size)
       have HOFy := Lib.hid (own_up HOFx.out hb3)
       have HOAy := Lib.hid (own_up HOAx.out hb3)
       clear HOFx HOAx HEx hb3 cb c0 c1 c3 c4
       have HOFx := HOFy
       have HOAx := HOAy
       have HEx := HEy
       clear HOFy HOAy HEy
       have HOFb : Hid ((w3.alloc (.cells (ftA ⟨4, (j : Int)⟩) 73)).ownsRow wR.heap.size 73 2 (.slice fa nf fc) nf (cellsF (bysK P D j))) := World.ownsRow.alloc HOFx.out _
       have HOAb : Hid ((w3.alloc (.cells (ftA ⟨4, (j : Int)⟩) 73)).ownsRow wR.heap.size 80 3 (.slice aa na ac) na (cellsL (objsK P D j))) := World.ownsRow.alloc HOAx.out _
       have HEb : Hid (Below wR.heap.size wR (w3.alloc (.cells (ftA ⟨4, (j : Int)⟩) 73))) := HEx.out.alloc HEx.out.size _
       have HFTb : Hid (FtsAt (w3.alloc (.cells (ftA ⟨4, (j : Int)⟩) 73)) (some ⟨w3.heap.size, 0, none⟩) [⟨4, (j : Int)⟩]) := fts_blk (heap_new' _ _)
       go_wp2_with (first
        | (refine wpList_build_ftR (p := ⟨4, (j : Int)⟩) rfl (.tmp 86) rfl rfl ?_)
        | (refine wpList_append_ftsR (v := .slice fa nf fc) (base := wR.heap.size) (n := nf) (L := bysK P D j) rfl (.tmp 84) (.tmp 87) rfl rfl HOFb.out rfl (M := [⟨4, (j : Int)⟩]) rfl HFTb.out (fun h => by cases h) (fun p hp => by cases hp; rfl) (HNFB.out) HEb.out.size ?_
           intro v9 w9 ho9 hg9
           have HOF9 := Lib.hid ho9
           have HOA9 := Lib.hid (own_other HOFb.out hg9 HOAb.out (by decide))
           have HE9 : Hid (Below wR.heap.size wR w9) := HEb.out.grown hg9 HEb.out.size (fun q h => own_base HOFb.out q h)
           obtain ⟨f9, k9, hv9⟩ := own_sliceR ho9
           subst hv9
           clear ho9 hg9)
        | fail)
       go_loopw [9, 16, 17, 91] (fun v9 v16 v17 vi wr => vi = .int .i64 0 /\ v9 = .slice aa na ac /\ Hid (wr.ownsRow wR.heap.size 73 2 (.slice f9 (nf + 1) k9) (nf + 1) (cellsF (bysK P D j ++ [⟨4, (j : Int)⟩]))) /\ Hid (wr.ownsRow wR.heap.size 80 3 (.slice aa na ac) na (cellsL (objsK P D j))) /\ Hid (Below wR.heap.size wR wr)) (fun _ _ _ _ _ => 0)
       case atStart => exact ⟨rfl, rfl, HOF9.out, HOA9.out, HE9.out⟩
       case round =>
        obtain ⟨rfl, rfl, h1, h2, h3⟩ := hrel
        go_wp2
        go_roundw
        case rel => exact ⟨j + 1, f9, nf + 1, k9, aa, na, ac, lf, by go_num, rfl, rfl, rfl, by have := HJ.out; show _ <= _; omega, HLN1.out, ⟨by rw [HBY2.out, List.length_append, <- HNF.out.1]; rfl, by rw [HAN2.out]; exact HNF.out.2⟩, by rw [HBY2.out]; exact h1.out, by rw [HAN2.out]; exact h2.out, h3.out⟩
        case measure => simp [intOf]; have := HJ.out; omega
     ·have HC0 : Hid ((pgA p)[0]? = some (Value.int .i64 (p.kind : Int))) := rfl
      have HK1 : Hid (p.kind ≠ 1) := h1
      have e2 : ¬ (p.kind : Int) = 2 := by omega
      have e2b : ((p.kind : Int) == 2) = false := by simp; omega
      have e1 : ¬ (p.kind : Int) = 1 := by omega
      have e1b : ((p.kind : Int) == 1) = false := by simp; omega
      have HLF : Hid (lf = if p.kind = 2 then p.size else leftK P j) := by show _ = _; rw [if_neg h2]; exact HLFJ.out
      have HLF4 : Hid (lf <= 4096) := by show _ <= _; rw [HLFJ.out]; exact left_le HMF.out.2.2.2.1 j
      have HANEW : Hid (objsK P D (j + 1) = objsK P D j) := by
       show objsK P D j ++ objK P D j = _
       unfold objK; rw [<- HPK.out, if_neg h2, if_neg h1, List.append_nil]
      have HNA : Hid (na = (objsK P D (j + 1)).length) := by show _ = _; rw [HANEW.out]; exact HNF.out.2
      clear h1 h2
      obtain ⟨e, he⟩ : ∃ e, e = min lf 256 := ⟨_, rfl⟩
      have hE : endL P j = e := by unfold endL; rw [<- HPK.out, <- HLF.out, he]
      obtain ⟨zb, hzb⟩ : ∃ zb, zb = zeroB (b.drop e) := ⟨_, rfl⟩
      have HBY : Hid (bysK P D (j + 1) = bysK P D j ++ (if zb then [] else [⟨5, (j : Int)⟩])) := by
       show bysK P D j ++ byK P D j = _
       unfold byK
       rw [<- HPK.out, if_neg HK1.out, HBD.out, hE, <- hzb]
      have HLN : Hid (leftK P (j + 1) = lf - e) := by
       show (if _ then _ else _) = _
       rw [<- HPK.out, if_neg HK1.out, <- HLF.out, he]
      have hzc : ∀ W', Below wR.heap.size wR W' -> Calls Tryz.prog 29 #[.slice (some ⟨bg, subO bo bc e, none⟩) (bm - e) (bc - e)] W' fun e' w' => e' = .returned (.bool zb) /\ W' = w' := fun W' hW' => by
       rw [hzb]
       exact noughts_c _ _ _ _ (by rw [List.length_drop, HBM.out.1]) (by have := HBM.out; omega) W' (by
        have h2 := (HBB.out.up hW' (Nat.le_refl _)).sub (lo := e) (hi := bm) (by rw [HBM.out.2.1]; omega) (by rw [HBM.out.1]; exact Nat.le_refl _)
        rw [List.take_of_length_le (by rw [List.length_drop, HBM.out.1]; exact Nat.le_refl _)] at h2
        exact h2)
      have hslE : ∀ w : World, (Instr.sliceAt 47 (.slice (some ⟨bg, bo, none⟩) bm bc) (some (.int .i64 (e : Int))) none none).run Tryz.prog w = .ok (.slice (some ⟨bg, subO bo bc e, none⟩) (bm - e) (bc - e)) w := fun w => run_subF bg bo bm bc e (by have := HBM.out; omega) w
      have HEE : Hid (e = min lf 256) := he
      obtain ⟨xo, hxo⟩ : ∃ xo, xo = subO bo bc e := ⟨_, rfl⟩
      obtain ⟨xm, hxm⟩ : ∃ xm, xm = bm - e := ⟨_, rfl⟩
      obtain ⟨xc, hxc⟩ : ∃ xc, xc = bc - e := ⟨_, rfl⟩
      rw [<- hxo, <- hxm, <- hxc] at hzc hslE
      have HZC := Lib.hid hzc
      clear hE hzb he hxo hxm hxc hzc
      by_cases hbig : lf > 256
      ·have he2 : e = 256 := by have := HEE.out; omega
       have g1 : (lf : Int) > 256 := by omega
       have g2 : decide ((lf : Int) > 256) = true := by simp; omega
       have g3 : (256 : Int) < (lf : Int) := by omega
       obtain ⟨r, hr⟩ : ∃ r, r = lf - 256 := ⟨_, rfl⟩
       have ir : (lf : Int) - 256 = (r : Int) := by omega
       have wr0 : IntKind.i64.wrap (r : Int) = (r : Int) := IntWalk.i64_in _ (by have := HLF4.out; omega)
       have HR2 : Hid (r = leftK P (j + 1)) := by show _ = _; rw [HLN.out, he2, hr]
       rw [he2] at hslE
       have hslF : ∀ w : World, (Instr.sliceAt 47 (.slice (some ⟨bg, bo, none⟩) bm bc) (some (.int .i64 256)) none none).run Tryz.prog w = .ok (.slice (some ⟨bg, xo, none⟩) xm xc) w := hslE
       clear hslE he2 hr hbig
       cases zb with
       | true =>
        have HBY2 : Hid (bysK P D (j + 1) = bysK P D j) := by show _ = _; rw [HBY.out, if_pos rfl, List.append_nil]
        go_wp2_with (first
         | (refine wpList_load_mid rfl 78 (.tmp 52) rfl pg (po + j * 5) rfl _ _ HCR.out Tryz.underlying78 rfl (by rw [page5R]; rfl) ?_)
         | (refine wpList_store_row rfl 78 (.tmp 12) (.tmp 53) rfl wr.heap.size (pgA p) rfl rfl 78 _ HZP.out (by rw [page5R]; rfl) rfl (pgA_one _) ?_
            generalize hW1 : World.setRow _ _ _ = w2
            have HZ2 : Hid (w2.heap[wr.heap.size]? = some (.cells (pgA p) 78 (0, 0))) := (by show _ = _; rw [<- hW1]; exact setRow_heap _ _ _ _ _ _ HZP.out)
            have HE2 : Hid (Below wr.heap.size wr w2) := (by rw [<- hW1]; exact below_setRow HE1p.out (Nat.le_refl _) _)
            have HEx : Hid (Below wR.heap.size wR w2) := hbel.out.trans (HE2.out.mono hbel.out.size)
            have HOFx := Lib.hid (own_up hof.out HE2.out)
            have HOAx := Lib.hid (own_up hoa.out HE2.out)
            have c0 := (cells_at HZ2.out 0).trans HC0.out
            have c1 := (cells_at HZ2.out 1).trans (show _ = some (Value.int .i64 (p.cls : Int)) from rfl)
            have c3 := (cells_at HZ2.out 3).trans (show _ = some (Value.int .i64 (p.size : Int)) from rfl)
            have c4 := (cells_at HZ2.out 4).trans (show _ = some (Value.int .u64 (p.ser : Int)) from rfl)
            have cb := (HEx.out.cell (p := ⟨g, o + q, none⟩) HGL.out).trans HCB.out
            clear hW1)
         | fail)
        refine (HZC.out w2 HEx.out).mono ?_
        rintro e' w8 ⟨rfl, rfl⟩
        go_wp2
        go_roundw
        case rel => exact ⟨j + 1, fa, nf, fc, aa, na, ac, r, by go_num, rfl, rfl, rfl, by have := HJ.out; show _ <= _; omega, HR2.out, ⟨by rw [HBY2.out]; exact HNF.out.1, HNA.out⟩, by rw [HBY2.out]; exact HOFx.out, by rw [HANEW.out]; exact HOAx.out, HEx.out⟩
        case measure => simp [intOf]; have := HJ.out; omega
       | false =>
        have HBY2 : Hid (bysK P D (j + 1) = bysK P D j ++ [⟨5, (j : Int)⟩]) := by show _ = _; rw [HBY.out, if_neg (by simp)]
        have HNFB : Hid (nf + 1 <= 1000000) := by have h1 := HNF.out.1; have h2 := bysK_len P D j; have h3 := HJ.out; have h4 := HKS.out; show _ <= _; omega
        go_wp2_with (first
         | (refine wpList_load_mid rfl 78 (.tmp 52) rfl pg (po + j * 5) rfl _ _ HCR.out Tryz.underlying78 rfl (by rw [page5R]; rfl) ?_)
         | (refine wpList_store_row rfl 78 (.tmp 12) (.tmp 53) rfl wr.heap.size (pgA p) rfl rfl 78 _ HZP.out (by rw [page5R]; rfl) rfl (pgA_one _) ?_
            generalize hW1 : World.setRow _ _ _ = w2
            have HZ2 : Hid (w2.heap[wr.heap.size]? = some (.cells (pgA p) 78 (0, 0))) := (by show _ = _; rw [<- hW1]; exact setRow_heap _ _ _ _ _ _ HZP.out)
            have HE2 : Hid (Below wr.heap.size wr w2) := (by rw [<- hW1]; exact below_setRow HE1p.out (Nat.le_refl _) _)
            have HEx : Hid (Below wR.heap.size wR w2) := hbel.out.trans (HE2.out.mono hbel.out.size)
            have HOFx := Lib.hid (own_up hof.out HE2.out)
            have HOAx := Lib.hid (own_up hoa.out HE2.out)
            have c0 := (cells_at HZ2.out 0).trans HC0.out
            have c1 := (cells_at HZ2.out 1).trans (show _ = some (Value.int .i64 (p.cls : Int)) from rfl)
            have c3 := (cells_at HZ2.out 3).trans (show _ = some (Value.int .i64 (p.size : Int)) from rfl)
            have c4 := (cells_at HZ2.out 4).trans (show _ = some (Value.int .u64 (p.ser : Int)) from rfl)
            have cb := (HEx.out.cell (p := ⟨g, o + q, none⟩) HGL.out).trans HCB.out
            clear hW1)
         | fail)
        refine (HZC.out w2 HEx.out).mono ?_
        rintro e' w8 ⟨rfl, rfl⟩
        have HOFb : Hid ((w2.alloc (.cells (ftA ⟨5, (j : Int)⟩) 73)).ownsRow wR.heap.size 73 2 (.slice fa nf fc) nf (cellsF (bysK P D j))) := World.ownsRow.alloc HOFx.out _
        have HOAb : Hid ((w2.alloc (.cells (ftA ⟨5, (j : Int)⟩) 73)).ownsRow wR.heap.size 80 3 (.slice aa na ac) na (cellsL (objsK P D j))) := World.ownsRow.alloc HOAx.out _
        have HEb : Hid (Below wR.heap.size wR (w2.alloc (.cells (ftA ⟨5, (j : Int)⟩) 73))) := HEx.out.alloc HEx.out.size _
        have HFTb : Hid (FtsAt (w2.alloc (.cells (ftA ⟨5, (j : Int)⟩) 73)) (some ⟨w2.heap.size, 0, none⟩) [⟨5, (j : Int)⟩]) := fts_blk (heap_new' _ _)
        go_wp2_with (first
         | (refine wpList_build_ftR (p := ⟨5, (j : Int)⟩) rfl (.tmp 121) rfl rfl ?_)
         | (refine wpList_append_ftsR (v := .slice fa nf fc) (base := wR.heap.size) (n := nf) (L := bysK P D j) rfl (.tmp 119) (.tmp 122) rfl rfl HOFb.out rfl (M := [⟨5, (j : Int)⟩]) rfl HFTb.out (fun h => by cases h) (fun p hp => by cases hp; rfl) (HNFB.out) HEb.out.size ?_
            intro v9 w9 ho9 hg9
            have HOF9 := Lib.hid ho9
            have HOA9 := Lib.hid (own_other HOFb.out hg9 HOAb.out (by decide))
            have HE9 : Hid (Below wR.heap.size wR w9) := HEb.out.grown hg9 HEb.out.size (fun q h => own_base HOFb.out q h)
            obtain ⟨f9, k9, hv9⟩ := own_sliceR ho9
            subst hv9
            clear ho9 hg9)
         | fail)
        go_roundw
        case rel => exact ⟨j + 1, f9, nf + 1, k9, aa, na, ac, r, by go_num, rfl, rfl, rfl, by have := HJ.out; show _ <= _; omega, HR2.out, ⟨by rw [HBY2.out, List.length_append, <- HNF.out.1]; rfl, HNA.out⟩, by rw [HBY2.out]; exact HOF9.out, by rw [HANEW.out]; exact HOA9.out, HE9.out⟩
        case measure => simp [intOf]; have := HJ.out; omega
      ·have g1 : ¬ (lf : Int) > 256 := by omega
       have g2 : decide ((lf : Int) > 256) = false := by simp; omega
       have g3 : ¬ (256 : Int) < (lf : Int) := by omega
       have he2 : e = lf := by have := HEE.out; omega
       have HR2 : Hid (0 = leftK P (j + 1)) := by show _ = _; rw [HLN.out, he2, Nat.sub_self]
       have gz : (lf : Int) - (lf : Int) = 0 := by omega
       rw [he2] at hslE
       clear he2 hbig
       cases zb with
       | true =>
        have HBY2 : Hid (bysK P D (j + 1) = bysK P D j) := by show _ = _; rw [HBY.out, if_pos rfl, List.append_nil]
        go_wp2_with (first
         | (refine wpList_load_mid rfl 78 (.tmp 52) rfl pg (po + j * 5) rfl _ _ HCR.out Tryz.underlying78 rfl (by rw [page5R]; rfl) ?_)
         | (refine wpList_store_row rfl 78 (.tmp 12) (.tmp 53) rfl wr.heap.size (pgA p) rfl rfl 78 _ HZP.out (by rw [page5R]; rfl) rfl (pgA_one _) ?_
            generalize hW1 : World.setRow _ _ _ = w2
            have HZ2 : Hid (w2.heap[wr.heap.size]? = some (.cells (pgA p) 78 (0, 0))) := (by show _ = _; rw [<- hW1]; exact setRow_heap _ _ _ _ _ _ HZP.out)
            have HE2 : Hid (Below wr.heap.size wr w2) := (by rw [<- hW1]; exact below_setRow HE1p.out (Nat.le_refl _) _)
            have HEx : Hid (Below wR.heap.size wR w2) := hbel.out.trans (HE2.out.mono hbel.out.size)
            have HOFx := Lib.hid (own_up hof.out HE2.out)
            have HOAx := Lib.hid (own_up hoa.out HE2.out)
            have c0 := (cells_at HZ2.out 0).trans HC0.out
            have c1 := (cells_at HZ2.out 1).trans (show _ = some (Value.int .i64 (p.cls : Int)) from rfl)
            have c3 := (cells_at HZ2.out 3).trans (show _ = some (Value.int .i64 (p.size : Int)) from rfl)
            have c4 := (cells_at HZ2.out 4).trans (show _ = some (Value.int .u64 (p.ser : Int)) from rfl)
            have cb := (HEx.out.cell (p := ⟨g, o + q, none⟩) HGL.out).trans HCB.out
            clear hW1)
         | fail)
        refine (HZC.out w2 HEx.out).mono ?_
        rintro e' w8 ⟨rfl, rfl⟩
        go_wp2
        go_roundw
        case rel => exact ⟨j + 1, fa, nf, fc, aa, na, ac, 0, by go_num, rfl, rfl, rfl, by have := HJ.out; show _ <= _; omega, HR2.out, ⟨by rw [HBY2.out]; exact HNF.out.1, HNA.out⟩, by rw [HBY2.out]; exact HOFx.out, by rw [HANEW.out]; exact HOAx.out, HEx.out⟩
        case measure => simp [intOf]; have := HJ.out; omega
       | false =>
        have HBY2 : Hid (bysK P D (j + 1) = bysK P D j ++ [⟨5, (j : Int)⟩]) := by show _ = _; rw [HBY.out, if_neg (by simp)]
        have HNFB : Hid (nf + 1 <= 1000000) := by have h1 := HNF.out.1; have h2 := bysK_len P D j; have h3 := HJ.out; have h4 := HKS.out; show _ <= _; omega
        go_wp2_with (first
         | (refine wpList_load_mid rfl 78 (.tmp 52) rfl pg (po + j * 5) rfl _ _ HCR.out Tryz.underlying78 rfl (by rw [page5R]; rfl) ?_)
         | (refine wpList_store_row rfl 78 (.tmp 12) (.tmp 53) rfl wr.heap.size (pgA p) rfl rfl 78 _ HZP.out (by rw [page5R]; rfl) rfl (pgA_one _) ?_
            generalize hW1 : World.setRow _ _ _ = w2
            have HZ2 : Hid (w2.heap[wr.heap.size]? = some (.cells (pgA p) 78 (0, 0))) := (by show _ = _; rw [<- hW1]; exact setRow_heap _ _ _ _ _ _ HZP.out)
            have HE2 : Hid (Below wr.heap.size wr w2) := (by rw [<- hW1]; exact below_setRow HE1p.out (Nat.le_refl _) _)
            have HEx : Hid (Below wR.heap.size wR w2) := hbel.out.trans (HE2.out.mono hbel.out.size)
            have HOFx := Lib.hid (own_up hof.out HE2.out)
            have HOAx := Lib.hid (own_up hoa.out HE2.out)
            have c0 := (cells_at HZ2.out 0).trans HC0.out
            have c1 := (cells_at HZ2.out 1).trans (show _ = some (Value.int .i64 (p.cls : Int)) from rfl)
            have c3 := (cells_at HZ2.out 3).trans (show _ = some (Value.int .i64 (p.size : Int)) from rfl)
            have c4 := (cells_at HZ2.out 4).trans (show _ = some (Value.int .u64 (p.ser : Int)) from rfl)
            have cb := (HEx.out.cell (p := ⟨g, o + q, none⟩) HGL.out).trans HCB.out
            clear hW1)
         | fail)
        refine (HZC.out w2 HEx.out).mono ?_
        rintro e' w8 ⟨rfl, rfl⟩
        have HOFb : Hid ((w2.alloc (.cells (ftA ⟨5, (j : Int)⟩) 73)).ownsRow wR.heap.size 73 2 (.slice fa nf fc) nf (cellsF (bysK P D j))) := World.ownsRow.alloc HOFx.out _
        have HOAb : Hid ((w2.alloc (.cells (ftA ⟨5, (j : Int)⟩) 73)).ownsRow wR.heap.size 80 3 (.slice aa na ac) na (cellsL (objsK P D j))) := World.ownsRow.alloc HOAx.out _
        have HEb : Hid (Below wR.heap.size wR (w2.alloc (.cells (ftA ⟨5, (j : Int)⟩) 73))) := HEx.out.alloc HEx.out.size _
        have HFTb : Hid (FtsAt (w2.alloc (.cells (ftA ⟨5, (j : Int)⟩) 73)) (some ⟨w2.heap.size, 0, none⟩) [⟨5, (j : Int)⟩]) := fts_blk (heap_new' _ _)
        go_wp2_with (first
         | (refine wpList_build_ftR (p := ⟨5, (j : Int)⟩) rfl (.tmp 121) rfl rfl ?_)
         | (refine wpList_append_ftsR (v := .slice fa nf fc) (base := wR.heap.size) (n := nf) (L := bysK P D j) rfl (.tmp 119) (.tmp 122) rfl rfl HOFb.out rfl (M := [⟨5, (j : Int)⟩]) rfl HFTb.out (fun h => by cases h) (fun p hp => by cases hp; rfl) (HNFB.out) HEb.out.size ?_
            intro v9 w9 ho9 hg9
            have HOF9 := Lib.hid ho9
            have HOA9 := Lib.hid (own_other HOFb.out hg9 HOAb.out (by decide))
            have HE9 : Hid (Below wR.heap.size wR w9) := HEb.out.grown hg9 HEb.out.size (fun q h => own_base HOFb.out q h)
            obtain ⟨f9, k9, hv9⟩ := own_sliceR ho9
            subst hv9
            clear ho9 hg9)
         | fail)
        go_roundw
        case rel => exact ⟨j + 1, f9, nf + 1, k9, aa, na, ac, 0, by go_num, rfl, rfl, rfl, by have := HJ.out; show _ <= _; omega, HR2.out, ⟨by rw [HBY2.out, List.length_append, <- HNF.out.1]; rfl, HNA.out⟩, by rw [HBY2.out]; exact HOF9.out, by rw [HANEW.out]; exact HOA9.out, HE9.out⟩
        case measure => simp [intOf]; have := HJ.out; omega
   ·have hjn2 : j = n := by omega
    have hd : decide ((j : Int) < (n : Int)) = false := by simp; omega
    have dl : ¬ (j : Int) < (n : Int) := by omega
    have hoa3 := hoa.out
    have hof3 := hof.out
    have hnf3 := HNF.out
    rw [hjn2] at hoa3 hof3 hnf3
    have hb1 : na <= 1024 := by have h1 := objsK_len P D n; have h2 := HKS.out; omega
    have hb2 : nf <= 64 := by have h1 := bysK_len P D n; have h2 := HKS.out; omega
    obtain ⟨A, hA⟩ : ∃ A, A = objsK P D n := ⟨_, rfl⟩
    obtain ⟨F1, hF1⟩ : ∃ F1, F1 = bysK P D n := ⟨_, rfl⟩
    rw [<- hA] at hoa3 HFK hnf3
    rw [<- hF1] at hof3 HFK hnf3
    have HOA3 := Lib.hid hoa3
    have HOF3 := Lib.hid hof3
    have HN3 : Hid (na = A.length /\ nf = F1.length /\ na <= 1024 /\ nf <= 64) := ⟨hnf3.2, hnf3.1, hb1, hb2⟩
    have HBL3 := hbel
    have H16 : Hid (R.length = 16) := HMF.out.1
    have HRL : Hid (∀ r ∈ R, r < 18446744073709551616) := HMF.out.2.1
    clear hjn2 hoa hof hoa3 hof3 hnf3 hb1 hb2 hA hF1 HNF HLFJ hlt hjn hj hbel HRR HPG HD H256 HL HM HMF
    go_wp2
    generalize wr = wO at *
    go_loopw [8, 19, 20, 21, 23, 127] (fun v8 v19 v20 v21 v23 vi wr => ∃ i fa nf fc, vi = .int .i64 ((i : Nat) : Int) /\ v8 = .slice fa nf fc /\ Hid (i <= na) /\ Hid (nf = (F1 ++ sersK A x i).length) /\ Hid (wr.ownsRow wR.heap.size 73 2 (.slice fa nf fc) nf (cellsF (F1 ++ sersK A x i))) /\ Hid (wr.ownsRow wR.heap.size 80 3 (.slice aa na ac) na (cellsL A)) /\ Hid (Below wR.heap.size wR wr)) (fun _ _ _ _ _ vi _ => na - (intOf vi).toNat)
    case atStart => exact ⟨0, fa, nf, fc, rfl, rfl, Nat.zero_le _, by show _ = _; rw [show sersK A x 0 = [] from rfl, List.append_nil]; exact HN3.out.2.1, by show World.ownsRow _ _ _ _ _ _ _; rw [show sersK A x 0 = [] from rfl, List.append_nil]; exact HOF3.out, HOA3.out, HBL3.out⟩
    case round =>
     clear HOF3 HOA3 HBL3
     obtain ⟨i, fa, nf, fc, rfl, rfl, hi, hnf, hof, hoa, hbel⟩ := hrel
     have hin : i <= na := hi
     by_cases hlt : i < na
     ·have hd3 : decide ((i : Int) < (na : Int)) = true := by simp; omega
      have dl3 : (i : Int) < (na : Int) := by omega
      have d03 : ¬ (i : Int) < 0 := by omega
      have ek3 : IntKind.i64.wrap ((i : Int) + 1) = (i : Int) + 1 := by have := HN3.out; exact IntWalk.i64_in _ (by omega)
      have hiA : i < A.length := by rw [<- HN3.out.1]; exact hlt
      obtain ⟨y, hy⟩ : ∃ y, y = A.getD i ⟨0, 0, 0⟩ := ⟨_, rfl⟩
      have hget : A[i]? = some y := by rw [hy, List.getD_eq_getElem?_getD, List.getElem?_eq_getElem hiA]; rfl
      obtain ⟨ga, rfl, _, hac⟩ := own_someR hoa.out (by omega)
      have hpls := pls_of_ownR hoa.out
      obtain ⟨g1, o1, e1, hgl, hcell⟩ := hpls i y hget
      cases e1
      have HCR : Hid (wr.rangeAt ga (0 + i * 3) (plB y).toList) := hcell
      have HSS : Hid (sersK A x (i + 1) = sersK A x i ++ (if x <= y.q then [⟨2, (y.p : Int)⟩] else if (A.take i).any (fun z => z.q == y.q) then [⟨3, (y.p : Int)⟩] else [])) := by
       show sersK A x i ++ serK A x i = _
       unfold serK; rw [<- hy]
      have HZ : Hid ((wr.alloc (.cells #[.int .i64 0, .int .i64 0, .int .u64 0] 80)).heap[wr.heap.size]? = some (.cells (plB ⟨0, 0, 0⟩) 80 (0, 0))) := heap_new' _ _
      have HE1 : Hid (Below wr.heap.size wr (wr.alloc (.cells #[.int .i64 0, .int .i64 0, .int .u64 0] 80))) := below_box _ _
      have hsl : ∀ w : World, (Instr.sliceAt 76 (.slice (some ⟨ga, 0, none⟩) na ac) none (some (.int .i64 (i : Int))) none).run Tryz.prog w = .ok (.slice (some ⟨ga, 0, none⟩) i ac) w := fun w => run_subLhR ga 0 na ac i (by omega) w
      have HI := Lib.hid hlt
      have HNB : Hid (nf <= 64 + 1024) := by
       have h1 := hnf.out
       rw [List.length_append] at h1
       have h2 := sersK_len A x i
       have h3 := HN3.out
       show _ <= _; omega
      have HNFB : Hid (nf + 1 <= 1000000) := by have := HNB.out; show _ <= _; omega
      clear hget hy hpls hgl hcell hiA hlt hin hi hac hsl
      have hsl : ∀ w : World, (Instr.sliceAt 76 (.slice (some ⟨ga, 0, none⟩) na ac) none (some (.int .i64 (i : Int))) none).run Tryz.prog w = .ok (.slice (some ⟨ga, 0, none⟩) i ac) w := fun w => run_subLhR ga 0 na ac i (by have := own_le hoa.out; have := HI.out; omega) w
      go_wp2_with (first
       | (refine wpList_load_mid rfl 80 (.tmp 130) rfl ga (0 + i * 3) (by go_simp) _ _ HCR.out Tryz.underlying80 rfl (by rw [place3R]; rfl) ?_)
       | (refine wpList_store_row rfl 80 (.tmp 20) (.tmp 131) rfl wr.heap.size (plB y) rfl rfl 80 _ HZ.out (by rw [place3R]; rfl) rfl (plB_one _) ?_
          generalize hW1 : World.setRow _ _ _ = wY
          have HZY : Hid (wY.heap[wr.heap.size]? = some (.cells (plB y) 80 (0, 0))) := (by show _ = _; rw [<- hW1]; exact setRow_heap _ _ _ _ _ _ HZ.out)
          have HEY : Hid (Below wr.heap.size wr wY) := (by rw [<- hW1]; exact below_setRow HE1.out (Nat.le_refl _) _)
          clear hW1)
       | fail)
      have HOFY := Lib.hid (own_up hof.out HEY.out)
      have HOAY := Lib.hid (own_up hoa.out HEY.out)
      have HBY : Hid (Below wR.heap.size wR wY) := hbel.out.trans (HEY.out.mono hbel.out.size)
      have HPY := Lib.hid (pls_of_ownR HOAY.out)
      obtain ⟨yb, hyb⟩ : ∃ yb, yb = wr.heap.size := ⟨_, rfl⟩
      rw [<- hyb] at HZY
      simp only [<- hyb]
      clear hof hoa hbel HEY HZ HE1 HCR hyb hsl
      go_loopw [21, 23, 136] (fun v21 v23 vi wr => ∃ q tb, vi = .int .i64 ((q : Nat) : Int) /\ v21 = .bool tb /\ Hid (q <= i) /\ Hid (tb = (A.take q).any (fun z => z.q == y.q)) /\ Hid (Below wY.heap.size wY wr)) (fun _ _ vi _ => i - (intOf vi).toNat)
      case atStart => exact ⟨0, false, rfl, rfl, Nat.zero_le _, rfl, Below.refl _ _⟩
      case round =>
       obtain ⟨q, tb, rfl, rfl, hq, htb, hb4⟩ := hrel
       have hqi : q <= i := hq
       by_cases hql : q < i
       ·have f1 : decide ((q : Int) < (i : Int)) = true := by simp; omega
        have f2 : (q : Int) < (i : Int) := by omega
        have f0 : ¬ (q : Int) < 0 := by omega
        have eq4 : IntKind.i64.wrap ((q : Int) + 1) = (q : Int) + 1 := by have h1 := HN3.out; have h2 := HI.out; exact IntWalk.i64_in _ (by omega)
        have hqA : q < A.length := by rw [<- HN3.out.1]; have := HI.out; omega
        obtain ⟨z, hz⟩ : ∃ z, z = A[q] := ⟨_, rfl⟩
        have hgetq : A[q]? = some z := by rw [hz]; exact List.getElem?_eq_getElem hqA
        obtain ⟨g2, o2, e2, hgl2, hcell2⟩ := HPY.out q z hgetq
        cases e2
        have HCQ : Hid (wr.rangeAt ga (0 + q * 3) (plB z).toList) := fun j2 u hu => (hb4.out.cell (p := ⟨ga, 0 + q * 3 + j2, none⟩) hgl2).trans (hcell2 j2 u hu)
        have HZQ : Hid ((wr.alloc (.cells #[.int .i64 0, .int .i64 0, .int .u64 0] 80)).heap[wr.heap.size]? = some (.cells (plB ⟨0, 0, 0⟩) 80 (0, 0))) := heap_new' _ _
        have HEQ : Hid (Below wr.heap.size wr (wr.alloc (.cells #[.int .i64 0, .int .i64 0, .int .u64 0] 80))) := below_box _ _
        have HSN : Hid ((A.take (q + 1)).any (fun z => z.q == y.q) = (tb || z.q == y.q)) := by show _ = _; rw [List.take_add_one, hgetq, List.any_append, <- htb.out]; simp
        have HQ := Lib.hid hql
        clear hz hgetq hgl2 hcell2 hqA hql hqi hq
        cases tb with
        | true =>
         have HSN2 : Hid (true = (A.take (q + 1)).any (fun z => z.q == y.q)) := by show _ = _; rw [HSN.out]; rfl
         go_wp2_with (first
          | (refine wpList_load_mid rfl 80 (.tmp 138) rfl ga (0 + q * 3) (by go_simp) _ _ HCQ.out Tryz.underlying80 rfl (by rw [place3R]; rfl) ?_)
          | (refine wpList_store_row rfl 80 (.tmp 23) (.tmp 139) rfl wr.heap.size (plB z) rfl rfl 80 _ HZQ.out (by rw [place3R]; rfl) rfl (plB_one _) ?_
             generalize hW1 : World.setRow _ _ _ = wZ
             have HEZ : Hid (Below wY.heap.size wY wZ) := (by rw [<- hW1]; exact hb4.out.trans ((below_setRow HEQ.out (Nat.le_refl _) _).mono hb4.out.size))
             clear hW1)
          | fail)
         go_roundw
         case rel => exact ⟨q + 1, true, by go_num, rfl, by have := HQ.out; show _ <= _; omega, HSN2.out, HEZ.out⟩
         case measure => simp [intOf]; have := HQ.out; omega
        | false =>
         have HSN2 : Hid ((z.q == y.q) = (A.take (q + 1)).any (fun z => z.q == y.q)) := by show _ = _; rw [HSN.out]; simp
         obtain ⟨zq, hzq⟩ : ∃ zq, zq = (z.q == y.q) := ⟨_, rfl⟩
         rw [<- hzq] at HSN2
         by_cases hzy : z.q = y.q
         ·have z1 : (z.q : Int) = (y.q : Int) := by omega
          have HT : Hid (zq = true) := by show _ = _; rw [hzq, hzy]; simp
          have HC2 : Hid ((plB z)[2]? = some (Value.int .u64 (y.q : Int))) := by show _ = _; rw [<- hzy]; rfl
          clear hzy hzq z1
          go_wp2_with (first
           | (refine wpList_load_mid rfl 80 (.tmp 138) rfl ga (0 + q * 3) (by go_simp) _ _ HCQ.out Tryz.underlying80 rfl (by rw [place3R]; rfl) ?_)
           | (refine wpList_store_row rfl 80 (.tmp 23) (.tmp 139) rfl wr.heap.size (plB z) rfl rfl 80 _ HZQ.out (by rw [place3R]; rfl) rfl (plB_one _) ?_
              generalize hW1 : World.setRow _ _ _ = wZ
              have HZZ : Hid (wZ.heap[wr.heap.size]? = some (.cells (plB z) 80 (0, 0))) := (by show _ = _; rw [<- hW1]; exact setRow_heap _ _ _ _ _ _ HZQ.out)
              have HEZ : Hid (Below wY.heap.size wY wZ) := (by rw [<- hW1]; exact hb4.out.trans ((below_setRow HEQ.out (Nat.le_refl _) _).mono hb4.out.size))
              have k2 := (cells_at HZZ.out 2).trans HC2.out
              have y2 := (cells_at ((HEZ.out.block _ (lt_of_block HZY.out)).trans HZY.out) 2).trans (show _ = some (Value.int .u64 (y.q : Int)) from rfl)
              clear hW1)
           | fail)
          go_roundw
          case rel => exact ⟨q + 1, true, by go_num, rfl, by have := HQ.out; show _ <= _; omega, by show _ = _; rw [<- HSN2.out, HT.out], HEZ.out⟩
          case measure => simp [intOf]; have := HQ.out; omega
         ·have z1 : ¬ (z.q : Int) = (y.q : Int) := by omega
          have z2 : ((z.q : Int) == (y.q : Int)) = false := by simp; omega
          have HT : Hid (zq = false) := by show _ = _; rw [hzq]; simpa using hzy
          clear hzy hzq
          go_wp2_with (first
           | (refine wpList_load_mid rfl 80 (.tmp 138) rfl ga (0 + q * 3) (by go_simp) _ _ HCQ.out Tryz.underlying80 rfl (by rw [place3R]; rfl) ?_)
           | (refine wpList_store_row rfl 80 (.tmp 23) (.tmp 139) rfl wr.heap.size (plB z) rfl rfl 80 _ HZQ.out (by rw [place3R]; rfl) rfl (plB_one _) ?_
              generalize hW1 : World.setRow _ _ _ = wZ
              have HZZ : Hid (wZ.heap[wr.heap.size]? = some (.cells (plB z) 80 (0, 0))) := (by show _ = _; rw [<- hW1]; exact setRow_heap _ _ _ _ _ _ HZQ.out)
              have HEZ : Hid (Below wY.heap.size wY wZ) := (by rw [<- hW1]; exact hb4.out.trans ((below_setRow HEQ.out (Nat.le_refl _) _).mono hb4.out.size))
              have k2 := (cells_at HZZ.out 2).trans (show _ = some (Value.int .u64 (z.q : Int)) from rfl)
              have y2 := (cells_at ((HEZ.out.block _ (lt_of_block HZY.out)).trans HZY.out) 2).trans (show _ = some (Value.int .u64 (y.q : Int)) from rfl)
              clear hW1)
           | fail)
          go_roundw
          case rel => exact ⟨q + 1, false, by go_num, rfl, by have := HQ.out; show _ <= _; omega, by show _ = _; rw [<- HSN2.out, HT.out], HEZ.out⟩
          case measure => simp [intOf]; have := HQ.out; omega
       ·have hqe : q = i := by omega
        have f1 : decide ((q : Int) < (i : Int)) = false := by simp; omega
        have f2 : ¬ (q : Int) < (i : Int) := by omega
        have HTB : Hid ((A.take i).any (fun z => z.q == y.q) = tb) := by show _ = _; rw [htb.out, hqe]
        have HOFx := Lib.hid (own_up HOFY.out hb4.out)
        have HOAx := Lib.hid (own_up HOAY.out hb4.out)
        have HEx : Hid (Below wR.heap.size wR wr) := HBY.out.trans (hb4.out.mono HBY.out.size)
        have hzy := (hb4.out.block _ (lt_of_block HZY.out)).trans HZY.out
        have y0 := (cells_at hzy 0).trans (show _ = some (Value.int .i64 (y.p : Int)) from rfl)
        have y2 := (cells_at hzy 2).trans (show _ = some (Value.int .u64 (y.q : Int)) from rfl)
        have m0 := (cells_at ((HEx.out.block _ (lt_of_block HMB.out)).trans HMB.out) 0).trans (mtA_get0 _ _ _)
        clear hqe hql hqi hq htb hzy
        by_cases hx : x <= y.q
        ·have x1 : (y.q : Int) >= (x : Int) := by omega
         have x2 : (x : Int) <= (y.q : Int) := by omega
         have HSS2 : Hid (sersK A x (i + 1) = sersK A x i ++ [⟨2, (y.p : Int)⟩]) := by show _ = _; rw [HSS.out, if_pos hx]
         have HRM : Hid True := trivial
         clear hx
         have HOFb : Hid ((wr.alloc (.cells (ftA ⟨2, (y.p : Int)⟩) 73)).ownsRow wR.heap.size 73 2 (.slice fa nf fc) nf (cellsF (F1 ++ sersK A x i))) := World.ownsRow.alloc HOFx.out _
         have HOAb : Hid ((wr.alloc (.cells (ftA ⟨2, (y.p : Int)⟩) 73)).ownsRow wR.heap.size 80 3 (.slice (some ⟨ga, 0, none⟩) na ac) na (cellsL A)) := World.ownsRow.alloc HOAx.out _
         have HEb : Hid (Below wR.heap.size wR (wr.alloc (.cells (ftA ⟨2, (y.p : Int)⟩) 73))) := HEx.out.alloc HEx.out.size _
         have HFTb : Hid (FtsAt (wr.alloc (.cells (ftA ⟨2, (y.p : Int)⟩) 73)) (some ⟨wr.heap.size, 0, none⟩) [⟨2, (y.p : Int)⟩]) := fts_blk (heap_new' _ _)
         have y0b := (cells_at ((below_box wr (.cells (ftA ⟨2, (y.p : Int)⟩) 73)).block _ (by have := lt_of_block HZY.out; have := hb4.out.size; omega) |>.trans ((hb4.out.block _ (lt_of_block HZY.out)).trans HZY.out)) 0)
         clear y0b
         go_wp2_with (first
          | (refine wpList_build_ftR (p := ⟨2, (y.p : Int)⟩) rfl (.tmp 158) rfl rfl ?_)
          | (refine wpList_append_ftsR (v := .slice fa nf fc) (base := wR.heap.size) (n := nf) (L := (F1 ++ sersK A x i)) rfl (.tmp 155) (.tmp 159) rfl rfl HOFb.out rfl (M := [⟨2, (y.p : Int)⟩]) rfl HFTb.out (fun h => by cases h) (fun p hp => by cases hp; rfl) (HNFB.out) HEb.out.size ?_
             intro v9 w9 ho9 hg9
             have HOF9 := Lib.hid ho9
             have HOA9 := Lib.hid (own_other HOFb.out hg9 HOAb.out (by decide))
             have HE9 : Hid (Below wR.heap.size wR w9) := HEb.out.grown hg9 HEb.out.size (fun q h => own_base HOFb.out q h)
             obtain ⟨f9, k9, hv9⟩ := own_sliceR ho9
             subst hv9
             clear ho9 hg9)
          | fail)
         go_roundw
         case rel => exact ⟨i + 1, f9, nf + 1, k9, by go_num, rfl, by have := HI.out; show _ <= _; omega, by show _ = _; rw [HSS2.out, <- List.append_assoc, List.length_append, <- hnf.out]; rfl, by rw [HSS2.out, <- List.append_assoc]; exact HOF9.out, HOA9.out, HE9.out⟩
         case measure => simp [intOf]; have := HI.out; omega
        ·have x1 : ¬ (y.q : Int) >= (x : Int) := by omega
         have x2 : ¬ (x : Int) <= (y.q : Int) := by omega
         cases tb with
         | true =>
          have HSS2 : Hid (sersK A x (i + 1) = sersK A x i ++ [⟨3, (y.p : Int)⟩]) := by show _ = _; rw [HSS.out, if_neg hx, HTB.out, if_pos rfl]
          clear hx
          have HOFb : Hid ((wr.alloc (.cells (ftA ⟨3, (y.p : Int)⟩) 73)).ownsRow wR.heap.size 73 2 (.slice fa nf fc) nf (cellsF (F1 ++ sersK A x i))) := World.ownsRow.alloc HOFx.out _
          have HOAb : Hid ((wr.alloc (.cells (ftA ⟨3, (y.p : Int)⟩) 73)).ownsRow wR.heap.size 80 3 (.slice (some ⟨ga, 0, none⟩) na ac) na (cellsL A)) := World.ownsRow.alloc HOAx.out _
          have HEb : Hid (Below wR.heap.size wR (wr.alloc (.cells (ftA ⟨3, (y.p : Int)⟩) 73))) := HEx.out.alloc HEx.out.size _
          have HFTb : Hid (FtsAt (wr.alloc (.cells (ftA ⟨3, (y.p : Int)⟩) 73)) (some ⟨wr.heap.size, 0, none⟩) [⟨3, (y.p : Int)⟩]) := fts_blk (heap_new' _ _)
          go_wp2_with (first
           | (refine wpList_build_ftR (p := ⟨3, (y.p : Int)⟩) rfl (.tmp 165) rfl rfl ?_)
           | (refine wpList_append_ftsR (v := .slice fa nf fc) (base := wR.heap.size) (n := nf) (L := (F1 ++ sersK A x i)) rfl (.tmp 162) (.tmp 166) rfl rfl HOFb.out rfl (M := [⟨3, (y.p : Int)⟩]) rfl HFTb.out (fun h => by cases h) (fun p hp => by cases hp; rfl) (HNFB.out) HEb.out.size ?_
              intro v9 w9 ho9 hg9
              have HOF9 := Lib.hid ho9
              have HOA9 := Lib.hid (own_other HOFb.out hg9 HOAb.out (by decide))
              have HE9 : Hid (Below wR.heap.size wR w9) := HEb.out.grown hg9 HEb.out.size (fun q h => own_base HOFb.out q h)
              obtain ⟨f9, k9, hv9⟩ := own_sliceR ho9
              subst hv9
              clear ho9 hg9)
           | fail)
          go_roundw
          case rel => exact ⟨i + 1, f9, nf + 1, k9, by go_num, rfl, by have := HI.out; show _ <= _; omega, by show _ = _; rw [HSS2.out, <- List.append_assoc, List.length_append, <- hnf.out]; rfl, by rw [HSS2.out, <- List.append_assoc]; exact HOF9.out, HOA9.out, HE9.out⟩
          case measure => simp [intOf]; have := HI.out; omega
         | false =>
          have HSS2 : Hid (sersK A x (i + 1) = sersK A x i) := by show _ = _; rw [HSS.out, if_neg hx, HTB.out, if_neg (by simp), List.append_nil]
          clear hx
          go_wp2
          go_roundw
          case rel => exact ⟨i + 1, fa, nf, fc, by go_num, rfl, by have := HI.out; show _ <= _; omega, by rw [HSS2.out]; exact hnf.out, by rw [HSS2.out]; exact HOFx.out, HOAx.out, HEx.out⟩
          case measure => simp [intOf]; have := HI.out; omega
     ·have hin2 : i = na := by omega
      have hd3 : decide ((i : Int) < (na : Int)) = false := by simp; omega
      have dl3 : ¬ (i : Int) < (na : Int) := by omega
      obtain ⟨F2, hF2⟩ : ∃ F2, F2 = F1 ++ sersK A x na := ⟨_, rfl⟩
      have HFK2 : Hid (faultsK n L = F2 ++ rtsK A R 16) := by show _ = _; rw [HFK.out, hF2, HN3.out.1]
      have hof2 := hof.out
      have hnf2 := hnf.out
      rw [hin2, <- hF2] at hof2 hnf2
      have HOF4 := Lib.hid hof2
      have HNF4 := Lib.hid hnf2
      have HNB4 : Hid (nf <= 64 + 1024) := by
       have h1 := hnf.out
       rw [List.length_append] at h1
       have h2 := sersK_len A x i
       have h3 := HN3.out
       show _ <= _; omega
      have HOA4 := Lib.hid hoa.out
      have HBL4 := hbel
      have HRM := Lib.hid (mt_R ((hbel.out.block _ (lt_of_block HMB.out)).trans HMB.out))
      have HIX := Lib.hid (index_HR R H16.out)
      clear hin2 hlt hin hi hF2 hof hoa hbel hof2 hnf2 hnf
      go_wp2_with (first
       | (refine wpList_load_mid rfl 23 (.tmp 170) rfl mb 1 rfl _ _ HRM.out Tryz.underlying23 rfl (by rw [handles16R, List.length_map, H16.out]) ?_)
       | fail)
      generalize wr = wP at *
      clear HRM
      go_loopw [8, 24, 25, 26, 27, 28, 30, 172] (fun v8 v24 v25 v26 v27 v28 v30 vi wr => ∃ i fa nf fc, vi = .int .i64 ((i : Nat) : Int) /\ v8 = .slice fa nf fc /\ Hid (i <= 16) /\ Hid (nf = (F2 ++ rtsK A R i).length) /\ Hid (wr.ownsRow wR.heap.size 73 2 (.slice fa nf fc) nf (cellsF (F2 ++ rtsK A R i))) /\ Hid (wr.ownsRow wR.heap.size 80 3 (.slice aa na ac) na (cellsL A)) /\ Hid (Below wR.heap.size wR wr)) (fun _ _ _ _ _ _ _ vi _ => 16 - (intOf vi).toNat)
      case atStart => exact ⟨0, fa, nf, fc, rfl, rfl, Nat.zero_le _, by show _ = _; rw [show rtsK A R 0 = [] from rfl, List.append_nil]; exact HNF4.out, by show World.ownsRow _ _ _ _ _ _ _; rw [show rtsK A R 0 = [] from rfl, List.append_nil]; exact HOF4.out, HOA4.out, HBL4.out⟩
      case round =>
       have HNF0 := HNF4
       clear HOF4 HOA4 HBL4 HNF4
       obtain ⟨i, fa, nf, fc, rfl, rfl, hi, hnf, hof, hoa, hbel⟩ := hrel
       have hin : i <= 16 := hi
       by_cases hlt : i < 16
       ·have hd5 : decide ((i : Int) < 16) = true := by simp; omega
        have dl5 : (i : Int) < 16 := by omega
        have d05 : ¬ (i : Int) < 0 := by omega
        have ek5 : IntKind.i64.wrap ((i : Int) + 1) = (i : Int) + 1 := IntWalk.i64_in _ (by omega)
        have hix := HIX.out i hlt
        obtain ⟨h, hh⟩ : ∃ h, h = R.getD i 0 := ⟨_, rfl⟩
        have hlt64 : h < 18446744073709551616 := by
         rw [hh, List.getD_eq_getElem?_getD, List.getElem?_eq_getElem (by rw [H16.out]; exact hlt)]
         exact HRL.out _ (List.getElem_mem _)
        rw [<- hh] at hix
        have hss : rtsK A R (i + 1) = rtsK A R i ++ (if h = 0 then [] else if A.any (eqPl (plOf h)) then [] else [⟨1, (i : Int)⟩]) := by
         show rtsK A R i ++ rtK A R i = _
         unfold rtK; rw [<- hh]
        have HPL := Lib.hid (fun w => rof_c h hlt64 w)
        rw [hres_pl] at HPL
        obtain ⟨pl, hpl⟩ : ∃ pl, pl = plOf h := ⟨_, rfl⟩
        obtain ⟨ok, hok⟩ : ∃ ok, ok = hOK h := ⟨_, rfl⟩
        rw [<- hpl] at HPL hss
        rw [<- hok] at HPL
        obtain ⟨tb0, htb0⟩ : ∃ tb0, tb0 = decide (h = 0) := ⟨_, rfl⟩
        have HSS : Hid (rtsK A R (i + 1) = rtsK A R i ++ (if (tb0 || A.any (eqPl pl)) then [] else [⟨1, (i : Int)⟩])) := by
         show _ = _
         rw [hss, htb0]
         by_cases h0 : h = 0
         ·rw [if_pos h0, if_pos (by simp [h0])]
         ·rw [if_neg h0, show decide (h = 0) = false by simpa using h0, Bool.false_or]
        have tbe : decide ((h : Int) = 0) = tb0 := by rw [htb0, decide_eq_decide]; omega
        have tbe2 : ((h : Int) == 0) = tb0 := by rw [htb0, Bool.eq_iff_iff, decide_eq_true_eq, beq_iff_eq]; omega
        have tbe3 : decide (h = 0) = tb0 := htb0.symm
        have HI := Lib.hid hlt
        have HNFB : Hid (nf + 1 <= 1000000) := by
         have h1 := hnf.out
         rw [List.length_append, <- HNF0.out] at h1
         have h2 := rtsK_len A R i
         have h3 := HNB4.out
         show _ <= _; omega
        clear hh hlt64 hss hpl hok htb0 hin hi hlt
        go_wp2_with fail
        refine (HPL.out _).mono ?_
        rintro e w1' ⟨rfl, hb1⟩
        have HZ : Hid ((w1'.alloc (.cells #[.int .i64 0, .int .i64 0, .int .u64 0] 80)).heap[w1'.heap.size]? = some (.cells (plB ⟨0, 0, 0⟩) 80 (0, 0))) := heap_new' _ _
        have HE1 : Hid (Below wr.heap.size wr (w1'.alloc (.cells #[.int .i64 0, .int .i64 0, .int .u64 0] 80))) := hb1.trans ((below_box w1' _).mono hb1.size)
        have HS1 : Hid (wr.heap.size <= w1'.heap.size) := hb1.size
        clear hb1
        go_wp2_with (first
         | (refine wpList_store_row rfl 80 (.tmp 27) (.tmp 181) rfl w1'.heap.size (plB pl) rfl rfl 80 _ HZ.out (by rw [place3R]; rfl) rfl (plB_one _) ?_
            generalize hW1 : World.setRow _ _ _ = wY
            have HZY : Hid (wY.heap[w1'.heap.size]? = some (.cells (plB pl) 80 (0, 0))) := (by show _ = _; rw [<- hW1]; exact setRow_heap _ _ _ _ _ _ HZ.out)
            have HEY : Hid (Below wr.heap.size wr wY) := (by rw [<- hW1]; exact below_setRow HE1.out HS1.out _)
            clear hW1)
         | fail)
        have HOFY := Lib.hid (own_up hof.out HEY.out)
        have HOAY := Lib.hid (own_up hoa.out HEY.out)
        have HBY : Hid (Below wR.heap.size wR wY) := hbel.out.trans (HEY.out.mono hbel.out.size)
        have HPY := Lib.hid (pls_of_ownR HOAY.out)
        obtain ⟨yb, hyb⟩ : ∃ yb, yb = w1'.heap.size := ⟨_, rfl⟩
        rw [<- hyb] at HZY
        simp only [<- hyb]
        clear hof hoa hbel HEY HZ HE1 HS1 hyb HPL hix tbe tbe2 tbe3
        go_loopw [26, 30, 185] (fun v26 v30 vi wr => ∃ q tb, vi = .int .i64 ((q : Nat) : Int) /\ v26 = .bool tb /\ Hid (q <= na) /\ Hid (tb = (tb0 || (A.take q).any (eqPl pl))) /\ Hid (Below wY.heap.size wY wr)) (fun _ _ vi _ => na - (intOf vi).toNat)
        case atStart => exact ⟨0, tb0, rfl, rfl, Nat.zero_le _, by show _ = _; simp, Below.refl _ _⟩
        case round =>
         obtain ⟨q, tb, rfl, rfl, hq, htb, hb4⟩ := hrel
         have hqi : q <= na := hq
         by_cases hql : q < na
         ·have f1 : decide ((q : Int) < (na : Int)) = true := by simp; omega
          have f2 : (q : Int) < (na : Int) := by omega
          have f0 : ¬ (q : Int) < 0 := by omega
          have eq4 : IntKind.i64.wrap ((q : Int) + 1) = (q : Int) + 1 := by have h1 := HN3.out; exact IntWalk.i64_in _ (by omega)
          have hqA : q < A.length := by rw [<- HN3.out.1]; exact hql
          obtain ⟨z, hz⟩ : ∃ z, z = A[q] := ⟨_, rfl⟩
          have hgetq : A[q]? = some z := by rw [hz]; exact List.getElem?_eq_getElem hqA
          obtain ⟨g2, o2, rfl, hgl2, hcell2⟩ := HPY.out q z hgetq
          have HCQ : Hid (wr.rangeAt g2 (o2 + q * 3) (plB z).toList) := fun j2 u hu => (hb4.out.cell (p := ⟨g2, o2 + q * 3 + j2, none⟩) hgl2).trans (hcell2 j2 u hu)
          have HZQ : Hid ((wr.alloc (.cells #[.int .i64 0, .int .i64 0, .int .u64 0] 80)).heap[wr.heap.size]? = some (.cells (plB ⟨0, 0, 0⟩) 80 (0, 0))) := heap_new' _ _
          have HEQ : Hid (Below wr.heap.size wr (wr.alloc (.cells #[.int .i64 0, .int .i64 0, .int .u64 0] 80))) := below_box _ _
          have HSN : Hid ((tb0 || (A.take (q + 1)).any (eqPl pl)) = (tb || eqPl z pl)) := by
           show _ = _
           rw [List.take_add_one, hgetq, List.any_append, htb.out, eqPl_comm z pl]
           simp [Bool.or_assoc]
          have HQ := Lib.hid hql
          clear hz hgetq hgl2 hcell2 hqA hql hqi hq
          cases tb with
          | true =>
           have HSN2 : Hid (true = (tb0 || (A.take (q + 1)).any (eqPl pl))) := by show _ = _; rw [HSN.out]; rfl
           go_wp2_with (first
            | (refine wpList_load_mid rfl 80 (.tmp 187) rfl g2 (o2 + q * 3) rfl _ _ HCQ.out Tryz.underlying80 rfl (by rw [place3R]; rfl) ?_)
            | (refine wpList_store_row rfl 80 (.tmp 30) (.tmp 188) rfl wr.heap.size (plB z) rfl rfl 80 _ HZQ.out (by rw [place3R]; rfl) rfl (plB_one _) ?_
               generalize hW1 : World.setRow _ _ _ = wZ
               have HEZ : Hid (Below wY.heap.size wY wZ) := (by rw [<- hW1]; exact hb4.out.trans ((below_setRow HEQ.out (Nat.le_refl _) _).mono hb4.out.size))
               clear hW1)
            | fail)
           go_roundw
           case rel => exact ⟨q + 1, true, by go_num, rfl, by have := HQ.out; show _ <= _; omega, HSN2.out, HEZ.out⟩
           case measure => simp [intOf]; have := HQ.out; omega
          | false =>
           have HSN2 : Hid (eqPl z pl = (tb0 || (A.take (q + 1)).any (eqPl pl))) := by show _ = _; rw [HSN.out]; simp
           have HEL : Hid (∀ w, (binOp .eql 80 (.agg (plB z)) (.agg (plB pl))).run Tryz.prog w = .ok (.bool (eqPl z pl)) w) := fun w => eql_plR z pl w
           obtain ⟨zq, hzq⟩ : ∃ zq, zq = eqPl z pl := ⟨_, rfl⟩
           rw [<- hzq] at HSN2 HEL
           clear hzq
           go_wp2_with (first
            | (refine wpList_load_mid rfl 80 (.tmp 187) rfl g2 (o2 + q * 3) rfl _ _ HCQ.out Tryz.underlying80 rfl (by rw [place3R]; rfl) ?_)
            | (refine wpList_store_row rfl 80 (.tmp 30) (.tmp 188) rfl wr.heap.size (plB z) rfl rfl 80 _ HZQ.out (by rw [place3R]; rfl) rfl (plB_one _) ?_
               generalize hW1 : World.setRow _ _ _ = wZ
               have HZZ : Hid (wZ.heap[wr.heap.size]? = some (.cells (plB z) 80 (0, 0))) := (by show _ = _; rw [<- hW1]; exact setRow_heap _ _ _ _ _ _ HZQ.out)
               have HEZ : Hid (Below wY.heap.size wY wZ) := (by rw [<- hW1]; exact hb4.out.trans ((below_setRow HEQ.out (Nat.le_refl _) _).mono hb4.out.size))
               have HRZ := Lib.hid (range_row HZZ.out)
               have HRY := Lib.hid (range_row ((HEZ.out.block _ (lt_of_block HZY.out)).trans HZY.out))
               clear hW1)
            | (refine wpList_load_mid_g rfl 80 (.tmp 30) rfl wr.heap.size 0 rfl _ _ HRZ.out Tryz.underlying80 rfl (by rw [place3R]; rfl) ?_)
            | (refine wpList_load_mid_g rfl 80 (.tmp 27) rfl yb 0 rfl _ _ HRY.out Tryz.underlying80 rfl (by rw [place3R]; rfl) ?_)
            | (refine wpList_eql_agg rfl 80 _ (.tmp 191) (.tmp 192) rfl (plB z) (plB pl) rfl rfl (by kernel_rfl) zq (HEL.out _) ?_)
            | fail)
           go_roundw
           case rel => exact ⟨q + 1, zq, by go_num, rfl, by have := HQ.out; show _ <= _; omega, HSN2.out, HEZ.out⟩
           case measure => simp [intOf]; have := HQ.out; omega
         ·have hqe : q = na := by omega
          have f1 : decide ((q : Int) < (na : Int)) = false := by simp; omega
          have f2 : ¬ (q : Int) < (na : Int) := by omega
          have HTB : Hid ((tb0 || A.any (eqPl pl)) = tb) := by
           show _ = _
           rw [htb.out, hqe, List.take_of_length_le (by rw [HN3.out.1]; exact Nat.le_refl _)]
          have HOFx := Lib.hid (own_up HOFY.out hb4.out)
          have HOAx := Lib.hid (own_up HOAY.out hb4.out)
          have HEx : Hid (Below wR.heap.size wR wr) := HBY.out.trans (hb4.out.mono HBY.out.size)
          clear hqe hql hqi hq htb
          cases tb with
          | true =>
           have HSS2 : Hid (rtsK A R (i + 1) = rtsK A R i) := by show _ = _; rw [HSS.out, HTB.out, if_pos rfl, List.append_nil]
           go_wp2
           go_roundw
           case rel => exact ⟨i + 1, fa, nf, fc, by go_num, rfl, by have := HI.out; show _ <= _; omega, by rw [HSS2.out]; exact hnf.out, by rw [HSS2.out]; exact HOFx.out, HOAx.out, HEx.out⟩
           case measure => simp [intOf]; have := HI.out; omega
          | false =>
           have HSS2 : Hid (rtsK A R (i + 1) = rtsK A R i ++ [⟨1, (i : Int)⟩]) := by show _ = _; rw [HSS.out, HTB.out, if_neg (by simp)]
           have HOFb : Hid ((wr.alloc (.cells (ftA ⟨1, (i : Int)⟩) 73)).ownsRow wR.heap.size 73 2 (.slice fa nf fc) nf (cellsF (F2 ++ rtsK A R i))) := World.ownsRow.alloc HOFx.out _
           have HOAb : Hid ((wr.alloc (.cells (ftA ⟨1, (i : Int)⟩) 73)).ownsRow wR.heap.size 80 3 (.slice aa na ac) na (cellsL A)) := World.ownsRow.alloc HOAx.out _
           have HEb : Hid (Below wR.heap.size wR (wr.alloc (.cells (ftA ⟨1, (i : Int)⟩) 73))) := HEx.out.alloc HEx.out.size _
           have HFTb : Hid (FtsAt (wr.alloc (.cells (ftA ⟨1, (i : Int)⟩) 73)) (some ⟨wr.heap.size, 0, none⟩) [⟨1, (i : Int)⟩]) := fts_blk (heap_new' _ _)
           go_wp2_with (first
            | (refine wpList_build_ftR (p := ⟨1, (i : Int)⟩) rfl (.tmp 200) rfl rfl ?_)
            | (refine wpList_append_ftsR (v := .slice fa nf fc) (base := wR.heap.size) (n := nf) (L := (F2 ++ rtsK A R i)) rfl (.tmp 198) (.tmp 201) rfl rfl HOFb.out rfl (M := [⟨1, (i : Int)⟩]) rfl HFTb.out (fun h => by cases h) (fun p hp => by cases hp; rfl) (HNFB.out) HEb.out.size ?_
               intro v9 w9 ho9 hg9
               have HOF9 := Lib.hid ho9
               have HOA9 := Lib.hid (own_other HOFb.out hg9 HOAb.out (by decide))
               have HE9 : Hid (Below wR.heap.size wR w9) := HEb.out.grown hg9 HEb.out.size (fun q h => own_base HOFb.out q h)
               obtain ⟨f9, k9, hv9⟩ := own_sliceR ho9
               subst hv9
               clear ho9 hg9)
            | fail)
           go_roundw
           case rel => exact ⟨i + 1, f9, nf + 1, k9, by go_num, rfl, by have := HI.out; show _ <= _; omega, by show _ = _; rw [HSS2.out, <- List.append_assoc, List.length_append, <- hnf.out]; rfl, by rw [HSS2.out, <- List.append_assoc]; exact HOF9.out, HOA9.out, HE9.out⟩
           case measure => simp [intOf]; have := HI.out; omega
       ·have hi6 : i = 16 := by omega
        have hd5 : decide ((i : Int) < 16) = false := by simp; omega
        have dl5 : ¬ (i : Int) < 16 := by omega
        have hof6 := hof.out
        have hnf6 := hnf.out
        rw [hi6, <- HFK2.out] at hof6 hnf6
        have HOF6 := Lib.hid hof6
        have HNF6 := Lib.hid hnf6
        clear hi6 hlt hin hi hof6 hnf6
        go_wp2
        go_ret
        refine ⟨⟨_, rfl, ?_⟩, HEW.out.trans (hbel.out.mono HEW.out.size)⟩
        rw [<- HNF6.out]
        exact own_mono HOF6.out HEW.out.size
end Go.Proofs.YtpbmjfjnmcpieaaGreat
