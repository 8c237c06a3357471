/- Texts RCn, RCo, RCp, RCq, ChNo, ChLj, put together by pack.py. -/
import Derived.Test.YtpbmjfjnmcpieaaGreatCBp
import Derived.Test.YtpbmjfjnmcpieaaGreatCBq
import Derived.BigQuiet
import Derived.Test.YtpbmjfjnmcpieaaGreatCBh
import Derived.Test.YtpbmjfjnmcpieaaGreatCBf
import Derived.Test.YtpbmjfjnmcpieaaGreatCBo
import Derived.Deep.CutRange
set_option maxRecDepth 100000
set_option maxHeartbeats 16000000
set_option linter.unusedVariables false
set_option linter.unusedSimpArgs false
namespace Go.Proofs.YtpbmjfjnmcpieaaGreat
open Go Go.RowKit
theorem pginfoZ : (Tryz.prog.info? 78).map (fun i => (i.zero, i.size, i.bytes)) = some (some (.agg (pzA ⟨0, 0, 0, 0, 0⟩)), 5, 40) := by kernel_rfl
theorem run_make_pgs (n : Nat) (hn : n <= 1000) (w : World) :
  (Instr.makeSlice 26 (.int .i64 (n : Int)) (.int .i64 (n : Int))).run Tryz.prog w = .ok (.slice (some ⟨w.heap.size, 0, none⟩) n n) (w.alloc (.cells (madeCells (pzA ⟨0, 0, 0, 0, 0⟩) (n * 5)) 78)) := by
 obtain ⟨i, hi, hzz⟩ := Option.map_eq_some_iff.1 pginfoZ
 simp only [Prod.mk.injEq] at hzz
 have hr := run_make (P := Tryz.prog) w 26 78 i _ Tryz.underlying26 hi hzz.1 .i64 .i64 (n : Int) (n : Int) (by omega) (Int.le_refl _) (by rw [hzz.2.2]; omega) (by omega)
 simp only [Int.toNat_natCast, hzz.2.1] at hr
 exact hr
theorem made_pz {w : World} {q n : Nat} {t : TypeId} (h : w.heap[q]? = some (.cells (madeCells (pzA ⟨0, 0, 0, 0, 0⟩) (n * 5)) t (0, 0))) : PzAt w (some ⟨q, 0, none⟩) (List.replicate n ⟨0, 0, 0, 0, 0⟩) := by
 intro i p hp
 have hi : i < n := by have := (List.getElem?_eq_some_iff.1 hp).1; simpa using this
 have hpz : p = ⟨0, 0, 0, 0, 0⟩ := by rw [List.getElem?_replicate, if_pos hi] at hp; cases hp; rfl
 subst hpz
 refine ⟨q, 0, rfl, lt_of_block h, fun j u hu => ?_⟩
 have hj : j < 5 := (List.getElem?_eq_some_iff.1 hu).1
 rw [Nat.zero_add]
 refine (cells_at h (i * 5 + j)).trans ?_
 have hm : (i * 5 + j) % 5 = j := by omega
 have hlt : i * 5 + j < n * 5 := by omega
 have e : (madeCells (pzA ⟨0, 0, 0, 0, 0⟩) (n * 5))[i * 5 + j]? = (pzA ⟨0, 0, 0, 0, 0⟩).toList[j]? := by
  unfold madeCells
  rw [Array.getElem?_map, Array.getElem?_range, if_pos hlt]
  have hc : j = 0 \/ j = 1 \/ j = 2 \/ j = 3 \/ j = 4 := by omega
  simp only [Option.map_some]
  rw [show (pzA ⟨0, 0, 0, 0, 0⟩).size = 5 from rfl, hm]
  rcases hc with rfl | rfl | rfl | rfl | rfl <;> rfl
 rw [e]; exact hu
theorem run_subPm (g o len cap l h : Nat) (hl : l <= h) (hh : h <= cap) (w : World) :
  (Instr.sliceAt 26 (.slice (some ⟨g, o, none⟩) len cap) (some (.int .i64 (l : Int))) (some (.int .i64 (h : Int))) none).run Tryz.prog w = .ok (.slice (some ⟨g, subP o cap l, none⟩) (h - l) (cap - l)) w := by
 obtain ⟨i0, hi, hz⟩ := Option.map_eq_some_iff.1 pginfoZ
 have he : Tryz.prog.elem 26 = 78 := by kernel_rfl
 have hu : Tryz.prog.underlying 26 = some (.slice (Tryz.prog.elem 26)) := by rw [he]; exact Tryz.underlying26
 rw [run_sliceAt_slice (h := hu), run_slice_lh (ht := hu) (h0 := by omega) (h1 := by omega) (h2 := by omega)]
 rw [he, run_sizeOf (w := w) hi, show Tryz.prog.cellsOf 78 = 5 from (by kernel_rfl)]
 simp only [Result.andThen_ok, sliced, Int.toNat_natCast]
 unfold subP
 split
 ·rfl
 ·simp only [Option.map_some]; rw [add_plain]
theorem run_build_metaN (x : Nat) (R : List Nat) (h16 : R.length = 16) (a : Option Addr) (n c : Nat) (E : Operand -> Value) (o : Oper) (ho : o.op = .build 28 #[(0, .tmp 7), (1, .tmp 10)]) (h7 : E (.tmp 7) = .agg (rtA x R)) (h10 : E (.tmp 10) = .slice a n c) (w : World) :
  (execOp E o).run Tryz.prog w = .ok (.value (.agg (mtA x R (.slice a n c)))) w := by
 obtain ⟨r0, r1, r2, r3, r4, r5, r6, r7, r8, r9, r10, r11, r12, r13, r14, r15, rfl⟩ := sixteenU h16
 unfold execOp
 simp only [ho]
 unfold rtA at h7
 unfold mtA
 simp only [List.map_cons, List.map_nil, List.cons_append, List.nil_append] at h7 ⊢
 go_simp
theorem rmnew_c (n : Nat) (t : Int) (hg : geoB n t = true) (w : World) :
  Calls Tryz.prog 5 #[.agg #[.int .i64 (n : Int), .int .i64 t]] w fun e w' => ∃ q, e = .returned (.agg (mtA 1 zeroR (.slice (some ⟨q, 0, none⟩) n n))) /\ w.heap.size <= q /\ w'.heap[q]? = some (.cells (madeCells (pzA ⟨0, 0, 0, 0, 0⟩) (n * 5)) 78 (0, 0)) /\ Below w.heap.size w w' := by
 have hp := (geoB_iff n t).1 hg
 obtain ⟨W, hW⟩ : ∃ W, W = (w.alloc (.cells #[.int .i64 (n : Int), .int .i64 t] 31)).alloc (.cells #[.int .u64 0, .int .u64 0, .int .u64 0, .int .u64 0, .int .u64 0, .int .u64 0, .int .u64 0, .int .u64 0, .int .u64 0, .int .u64 0, .int .u64 0, .int .u64 0, .int .u64 0, .int .u64 0, .int .u64 0, .int .u64 0, .int .u64 0, .slice none 0 0] 28) := ⟨_, rfl⟩
 have hgg : W.heap[w.heap.size]? = some (.cells #[.int .i64 (n : Int), .int .i64 t] 31 (0, 0)) := by rw [hW, heap_old' _ _ _ (by simp)]; exact heap_new' _ _
 have hzz : W.heap[w.heap.size + 1]? = some (.cells #[.int .u64 0, .int .u64 0, .int .u64 0, .int .u64 0, .int .u64 0, .int .u64 0, .int .u64 0, .int .u64 0, .int .u64 0, .int .u64 0, .int .u64 0, .int .u64 0, .int .u64 0, .int .u64 0, .int .u64 0, .int .u64 0, .int .u64 0, .slice none 0 0] 28 (0, 0)) := by
  rw [hW, show w.heap.size + 1 = (w.alloc (.cells #[.int .i64 (n : Int), .int .i64 t] 31)).heap.size by simp]; exact heap_new' _ _
 have hE : Below w.heap.size w W := by rw [hW]; exact (below_box w _).alloc (by simp) _
 have HG := Lib.hid hgg
 have HZ := Lib.hid hzz
 have HE := Lib.hid hE
 have HGC := Lib.hid (fun w => rgmay_c n t w)
 rw [hg] at HGC
 have HMK := fun w => run_make_pgs n (by omega) w
 clear hgg hzz hE hg hp
 go_enter Tryz.func5, Tryz.ntmps5
 go_wp2_with (first
  | (refine wpList_load_row rfl 31 (.tmp 1) rfl w.heap.size rfl _ _ _ _ (show ((w.alloc (.cells #[.int .i64 (n : Int), .int .i64 t] 31)).alloc (.cells #[.int .u64 0, .int .u64 0, .int .u64 0, .int .u64 0, .int .u64 0, .int .u64 0, .int .u64 0, .int .u64 0, .int .u64 0, .int .u64 0, .int .u64 0, .int .u64 0, .int .u64 0, .int .u64 0, .int .u64 0, .int .u64 0, .int .u64 0, .slice none 0 0] 28)).heap[w.heap.size]? = some (.cells #[.int .i64 (n : Int), .int .i64 t] 31 (0, 0)) by rw [<- hW]; exact HG.out) Tryz.underlying31 rfl (by rw [geo2]; rfl) ?_)
  | fail)
 rw [<- hW]
 clear hW
 refine (HGC.out W).mono ?_
 rintro e w1 ⟨rfl, hb1⟩
 have HG1 := Lib.hid ((hb1.block _ (lt_of_block HG.out)).trans HG.out)
 have HZ1 := Lib.hid ((hb1.block _ (lt_of_block HZ.out)).trans HZ.out)
 have HE1 : Hid (Below w.heap.size w w1) := HE.out.trans (hb1.mono HE.out.size)
 have d1 := (cells_at HG1.out 0).trans (show _ = some (Value.int .i64 (n : Int)) from rfl)
 have HS1 : Hid (w.heap.size + 1 < w1.heap.size) := lt_of_block HZ1.out
 have HQ : Hid ((w1.alloc (.cells (madeCells (pzA ⟨0, 0, 0, 0, 0⟩) (n * 5)) 78)).heap[w1.heap.size]? = some (.cells (madeCells (pzA ⟨0, 0, 0, 0, 0⟩) (n * 5)) 78 (0, 0))) := heap_new' _ _
 have HZ2 : Hid ((w1.alloc (.cells (madeCells (pzA ⟨0, 0, 0, 0, 0⟩) (n * 5)) 78)).heap[w.heap.size + 1]? = some (.cells #[.int .u64 0, .int .u64 0, .int .u64 0, .int .u64 0, .int .u64 0, .int .u64 0, .int .u64 0, .int .u64 0, .int .u64 0, .int .u64 0, .int .u64 0, .int .u64 0, .int .u64 0, .int .u64 0, .int .u64 0, .int .u64 0, .int .u64 0, .slice none 0 0] 28 (0, 0))) := (heap_old' _ _ _ (lt_of_block HZ1.out)).trans HZ1.out
 have HE2 : Hid (Below w.heap.size w (w1.alloc (.cells (madeCells (pzA ⟨0, 0, 0, 0, 0⟩) (n * 5)) 78))) := HE1.out.trans ((below_box w1 _).mono HE1.out.size)
 clear hb1 HG HZ HE HGC
 go_wp2_with (first
  | (refine wpList_val rfl (run_build_metaN 1 zeroR rfl (some ⟨w1.heap.size, 0, none⟩) n n _ _ rfl rfl rfl _) ?_)
  | (refine wpList_store_row rfl 28 (.tmp 2) (.tmp 11) rfl (w.heap.size + 1) (mtA 1 zeroR (.slice (some ⟨w1.heap.size, 0, none⟩) n n)) rfl rfl 28 _ HZ2.out (by rw [meta18R]; rfl) rfl (mtA_one _ _ _ _ _) ?_)
  | fail)
 refine bodyPost_ret (results_cell_row rfl _ _ (w.heap.size + 1) _ (mtA 1 zeroR (.slice (some ⟨w1.heap.size, 0, none⟩) n n)) (0, 0) _ rfl (setRow_heap _ _ _ _ _ _ HZ2.out) Tryz.underlying28 rfl (by rw [meta18R]; rfl)) rfl ?_
 refine ⟨w1.heap.size, rfl, by have := HS1.out; omega, ?_, below_setRow HE2.out (by omega) _⟩
 rw [setRow_other _ _ _ _ (by have := HS1.out; omega)]
 exact HQ.out
/-- rows of bytes that lie in blocks of bytes -/
def RowsT (w : World) (xs : List Value) (L : List (List Nat)) : Prop := RowsV w xs L /\ ∀ (i : Nat) (p : Addr) (ln c : Nat), xs[i]? = some (.slice (some p) ln c) -> ∃ A z, w.heap[p.block]? = some (Obj.cells A 5 z)
theorem RowsT.nil (w : World) : RowsT w [] [] := ⟨⟨rfl, fun i l h => by simp at h⟩, fun i p ln c h => by simp at h⟩
theorem RowsT.up {w w' : World} {xs : List Value} {L : List (List Nat)} (h : RowsT w xs L) (hb : Below w.heap.size w w') : RowsT w' xs L :=
 ⟨h.1.up hb (Nat.le_refl _), fun i p ln c hx => by
  obtain ⟨A, z, h1⟩ := h.2 i p ln c hx
  exact ⟨A, z, (hb.block _ (lt_of_block h1)).trans h1⟩⟩
theorem RowsT.keep {w w' : World} {xs : List Value} {L : List (List Nat)} (h : RowsT w xs L) (hkp : ∀ (p : Nat) (A : Array Value) (z : Nat × Nat), w.heap[p]? = some (Obj.cells A 5 z) -> w'.heap[p]? = w.heap[p]?) : RowsT w' xs L := by
 refine ⟨⟨h.1.1, fun i l hl => ?_⟩, fun i p ln c hx => ?_⟩
 ·obtain ⟨u, h1, a, cap, e1, e2, e3⟩ := h.1.2 i l hl
  refine ⟨u, h1, a, cap, e1, bytes_keep e2 (fun g of e hgl => ?_), e3⟩
  subst e
  rw [e1] at h1
  obtain ⟨A, z, h4⟩ := h.2 i _ _ _ h1
  exact hkp g A z h4
 ·obtain ⟨A, z, h1⟩ := h.2 i p ln c hx
  exact ⟨A, z, (hkp _ A z h1).trans h1⟩
theorem RowsT.grown {w w' : World} {base n z0 : Nat} {v : Value} {ys xs : List Value} {L : List (List Nat)} {t : TypeId} (h : RowsT w xs L) (hown : w.ownsRow base t z0 v n ys) (hg : w.grownBy w' v.ownBlock) (ht : t ≠ 5) : RowsT w' xs L :=
 h.keep fun p A z hp => hg.block p (lt_of_block hp) (fun e => by
  rcases hown.2 with ⟨h9, _⟩ | ⟨g9, cap9, cur9, a1, a2, a3, a4⟩
  ·rw [h9] at e; cases e
  ·rw [a1] at e; cases e
   have h7 := a3.symm.trans hp
   cases h7
   exact ht rfl)
theorem RowsT.snoc {w : World} {xs : List Value} {L : List (List Nat)} (h : RowsT w xs L) {l : List Nat} {va : Option Addr} {n vc : Nat} (hs : SlAt w (.slice va n vc) l) (ht : ∀ p, va = some p -> ∃ A z, w.heap[p.block]? = some (Obj.cells A 5 z)) : RowsT w (xs ++ [.slice va n vc]) (L ++ [l]) := by
 refine ⟨⟨by simp [h.1.1], fun i l' hl => ?_⟩, fun i p ln c hx => ?_⟩
 ·by_cases hi : i < L.length
  ·rw [List.getElem?_append_left hi] at hl
   obtain ⟨u, h1, h2⟩ := h.1.2 i l' hl
   exact ⟨u, by rw [List.getElem?_append_left (by rw [h.1.1]; exact hi)]; exact h1, h2⟩
  ·have hlt := (List.getElem?_eq_some_iff.1 hl).1
   have hi2 : i = L.length := by simp at hlt; omega
   subst hi2
   rw [List.getElem?_append_right (Nat.le_refl _), Nat.sub_self] at hl
   have e : l = l' := by simpa using hl
   subst e
   exact ⟨_, by rw [List.getElem?_append_right (by rw [h.1.1]; exact Nat.le_refl _), h.1.1, Nat.sub_self]; rfl, hs⟩
 ·by_cases hi : i < xs.length
  ·rw [List.getElem?_append_left hi] at hx
   exact h.2 i p ln c hx
  ·have hlt := (List.getElem?_eq_some_iff.1 hx).1
   have hi2 : i = xs.length := by simp at hlt; omega
   subst hi2
   rw [List.getElem?_append_right (Nat.le_refl _), Nat.sub_self] at hx
   have e : va = some p := by
    have : (Value.slice va n vc) = .slice (some p) ln c := by simpa using hx
    cases this; rfl
   exact ht p e
theorem sl_own {w : World} {base n c : Nat} {a : Option Addr} {l : List Nat} (hl : ∀ x ∈ l, x < 256) (h : w.ownsRow base 5 1 (.slice a n c) n (bA l).toList) : SlAt w (.slice a n c) l := by
 obtain ⟨a', c', hv, hB, hn, hle, hm, hnil, _⟩ := own_bytes hl h
 cases hv
 exact ⟨a, c, by rw [hn], hB, hnil, by rw [hn]; exact hle, hm⟩
theorem rmblocks_c (n : Nat) (t : Int) (hg : geoB n t = true) (x : Nat) (hx : x < 18446744073709551616) (R : List Nat) (h16 : R.length = 16) (hR : ∀ r ∈ R, r < 18446744073709551616) (pg po c : Nat) (hc : n <= c) (L : List Pz) (hL : L.length = n) (he : ∀ p ∈ L, p.e < 18446744073709551616) (w : World) (hP : PzAt w (some ⟨pg, po, none⟩) L) :
  Calls Tryz.prog 6 #[.agg #[.int .i64 (n : Int), .int .i64 t], .agg (mtA x R (.slice (some ⟨pg, po, none⟩) n c))] w fun e w' => ∃ v xs D, e = .returned v /\ w'.ownsRow w.heap.size 47 1 v (1 + mapsN n) xs /\ RowsT w' xs D /\ (∀ l ∈ D, l.length = 256 /\ ∀ y ∈ l, y < 256) /\ Below w.heap.size w w' := by
 have hp := (geoB_iff n t).1 hg
 have hmn := mapsN_le n (by omega)
 obtain ⟨W, hW⟩ : ∃ W, W = (w.alloc (.cells #[.int .i64 (n : Int), .int .i64 t] 31)).alloc (.cells (mtA x R (.slice (some ⟨pg, po, none⟩) n c)) 28) := ⟨_, rfl⟩
 have hgg : W.heap[w.heap.size]? = some (.cells #[.int .i64 (n : Int), .int .i64 t] 31 (0, 0)) := by rw [hW, heap_old' _ _ _ (by simp)]; exact heap_new' _ _
 have hmm : W.heap[w.heap.size + 1]? = some (.cells (mtA x R (.slice (some ⟨pg, po, none⟩) n c)) 28 (0, 0)) := by
  rw [hW, show w.heap.size + 1 = (w.alloc (.cells #[.int .i64 (n : Int), .int .i64 t] 31)).heap.size by simp]; exact heap_new' _ _
 have hE : Below w.heap.size w W := by rw [hW]; exact (below_box w _).alloc (by simp) _
 have HG := Lib.hid hgg
 have HM := Lib.hid hmm
 have HE := Lib.hid hE
 have HH := Lib.hid (rhbytes_c x R h16 hx hR W)
 have HR0 := Lib.hid (mt_rootsR hmm)
 have H16 := Lib.hid h16
 have HMP := Lib.hid (fun w => rgMaps_c n t (by omega) w)
 obtain ⟨mm, hmm2⟩ : ∃ mm, mm = mapsN n := ⟨_, rfl⟩
 rw [<- hmm2] at HMP ⊢
 have HNN : Hid (mm <= 4 /\ n <= 64 /\ mm = (n + 15) / 16 /\ n <= c) := ⟨by omega, by omega, hmm2, hc⟩
 have HPB : Hid (∀ (k e2 : Nat) (w' : World), Below w.heap.size w w' -> 16 * k <= e2 -> e2 <= n -> Calls Tryz.prog 16 #[.slice (some ⟨pg, subP po c (16 * k), none⟩) (e2 - 16 * k) (c - 16 * k)] w' fun e w'' => ∃ v l, e = .returned v /\ l.length = 256 /\ (∀ x ∈ l, x < 256) /\ w''.ownsRow w'.heap.size 5 1 v 256 (bA l).toList /\ Below w'.heap.size w' w'') := fun k e2 w' h h1 h2 => by
  refine rpbytes_c _ _ _ ((L.drop (16 * k)).take (e2 - 16 * k)) (by rw [List.length_take, List.length_drop]; omega) (by omega) (fun p hp => he p (List.mem_of_mem_drop (List.mem_of_mem_take hp))) w' ?_
  intro i p hp2
  have hi : i < e2 - 16 * k := by have := (List.getElem?_eq_some_iff.1 hp2).1; rw [List.length_take, List.length_drop] at this; omega
  rw [List.getElem?_take_of_lt hi, List.getElem?_drop] at hp2
  obtain ⟨g', o', e9, hgl, hcell⟩ := hP (16 * k + i) p hp2
  cases e9
  refine ⟨pg, subP po c (16 * k), rfl, Nat.lt_of_lt_of_le hgl h.size, fun j u hu => ?_⟩
  have hs : subP po c (16 * k) = po + 16 * k * 5 := by unfold subP; rw [if_neg (by omega)]
  rw [hs]
  have := (h.cell (p := ⟨pg, po + (16 * k + i) * 5 + j, none⟩) hgl).trans (hcell j u hu)
  rw [show po + 16 * k * 5 + i * 5 + j = po + (16 * k + i) * 5 + j by omega]
  exact this
 clear hgg hmm hE hg hp hmn hx h16 hR hc hL he hP hmm2
 go_enter Tryz.func6, Tryz.ntmps6
 go_wp2_with (first
  | (refine wpList_load_mid rfl 25 (.tmp 8) rfl (w.heap.size + 1) 0 rfl _ _ (show ((w.alloc (.cells #[.int .i64 (n : Int), .int .i64 t] 31)).alloc (.cells (mtA x R (.slice (some ⟨pg, po, none⟩) n c)) 28)).rangeAt (w.heap.size + 1) 0 (rtA x R).toList by rw [<- hW]; exact HR0.out) Tryz.underlying25 rfl (by rw [roots17R, Array.length_toList, rtA_size, H16.out]) ?_)
  | fail)
 rw [<- hW]
 clear hW
 refine HH.out.mono ?_
 rintro e w1 ⟨⟨v1, rfl, ho1⟩, hb1⟩
 obtain ⟨a1, c1, rfl⟩ := own_slice ho1
 have HG1 := Lib.hid ((hb1.block _ (lt_of_block HG.out)).trans HG.out)
 have HM1 := Lib.hid ((hb1.block _ (lt_of_block HM.out)).trans HM.out)
 have HE1 : Hid (Below w.heap.size w w1) := HE.out.trans (hb1.mono HE.out.size)
 have HS1 := Lib.hid (sl_own (rtBytes_lt x R) ho1)
 have HT1 := Lib.hid (own_u8 ho1)
 have hbx := below_box w1 (.cells #[.slice a1 256 c1] 47)
 have HG2 : Hid ((w1.alloc (.cells #[.slice a1 256 c1] 47)).heap[w.heap.size]? = some (.cells #[.int .i64 (n : Int), .int .i64 t] 31 (0, 0))) := (heap_old' _ _ _ (lt_of_block HG1.out)).trans HG1.out
 have HM2 : Hid ((w1.alloc (.cells #[.slice a1 256 c1] 47)).heap[w.heap.size + 1]? = some (.cells (mtA x R (.slice (some ⟨pg, po, none⟩) n c)) 28 (0, 0))) := (heap_old' _ _ _ (lt_of_block HM1.out)).trans HM1.out
 have HE2 : Hid (Below w.heap.size w (w1.alloc (.cells #[.slice a1 256 c1] 47))) := HE1.out.trans (hbx.mono HE1.out.size)
 have HO2 : Hid ((w1.alloc (.cells #[.slice a1 256 c1] 47)).ownsRow w.heap.size 47 1 (.slice (some ⟨w1.heap.size, 0, none⟩) 1 1) 1 [.slice a1 256 c1]) := ⟨rfl, .inr ⟨w1.heap.size, 1, #[.slice a1 256 c1], rfl, HE1.out.size, heap_new' _ _, Nat.le_refl _, by decide, rfl, rfl⟩⟩
 have HT2 : Hid (RowsT (w1.alloc (.cells #[.slice a1 256 c1] 47)) [.slice a1 256 c1] [rtBytes x R]) := (RowsT.nil _).snoc (HS1.out.below hbx (Nat.le_refl _)) (fun p hp => by
  obtain ⟨A9, z9, h9⟩ := HT1.out p hp
  exact ⟨A9, z9, (hbx.block _ (lt_of_block h9)).trans h9⟩)
 have HD2 : Hid (∀ l ∈ [rtBytes x R], l.length = 256 /\ ∀ y ∈ l, y < 256) := fun l hl => by
  have : l = rtBytes x R := by simpa using hl
  subst this; exact ⟨rtBytes_len _ _, rtBytes_lt _ _⟩
 clear ho1 hb1 hbx HG HM HE HH HR0 HS1 HT1 HG1 HM1
 go_wp2
 generalize hw2 : (w1.alloc (.cells #[.slice a1 256 c1] 47)) = w2 at *
 generalize hw1s : w1.heap.size = s1 at *
 clear hw2 hw1s HE1
 go_loopw [5, 6, 7] (fun v5 vi v7 wr => ∃ k a m c' xs D, vi = .int .i64 ((k : Nat) : Int) /\ v5 = .slice a m c' /\ Hid (k <= mm) /\ Hid (m = 1 + k) /\ Hid (wr.ownsRow w.heap.size 47 1 (.slice a m c') m xs) /\ Hid (RowsT wr xs D) /\ Hid (∀ l ∈ D, List.length l = 256 /\ ∀ y ∈ l, y < 256) /\ Hid (wr.heap[w.heap.size]? = some (.cells #[.int .i64 (n : Int), .int .i64 t] 31 (0, 0))) /\ Hid (wr.heap[w.heap.size + 1]? = some (.cells (mtA x R (.slice (some ⟨pg, po, none⟩) n c)) 28 (0, 0))) /\ Hid (Below w.heap.size w wr)) (fun _ vi _ _ => mm - (intOf vi).toNat)
 case atStart => exact ⟨0, _, 1, 1, _, _, rfl, rfl, Nat.zero_le _, rfl, HO2.out, HT2.out, HD2.out, HG2.out, HM2.out, HE2.out⟩
 case round =>
  clear HO2 HT2 HD2 HG2 HM2 HE2
  obtain ⟨k, a, m, c', xs, D, rfl, rfl, hk, hm, hown, hrt, hD, hgb, hmb, hbel⟩ := hrel
  have hkm : k <= mm := hk
  have HMPx := Lib.hid (HMP.out wr)
  by_cases hlt : k < mm
  ·have hd : decide ((k : Int) < (mm : Int)) = true := by simp; omega
   have dl : (k : Int) < (mm : Int) := by omega
   have ek : IntKind.i64.wrap ((k : Int) + 1) = (k : Int) + 1 := by have := HNN.out; exact IntWalk.i64_in _ (by omega)
   obtain ⟨lo, hlo⟩ : ∃ lo, lo = 16 * k := ⟨_, rfl⟩
   obtain ⟨hi, hhi⟩ : ∃ hi, hi = lo + 16 := ⟨_, rfl⟩
   have i1 : 16 * (k : Int) = (lo : Int) := by omega
   have i2 : (lo : Int) + 16 = (hi : Int) := by omega
   have u1 : IntKind.i64.wrap (lo : Int) = (lo : Int) := IntWalk.i64_in _ (by have := HNN.out; omega)
   have u2 : IntKind.i64.wrap (hi : Int) = (hi : Int) := IntWalk.i64_in _ (by have := HNN.out; omega)
   have HK : Hid (k < mm /\ lo = 16 * k /\ hi = lo + 16 /\ lo < n) := ⟨hlt, hlo, hhi, by have := HNN.out; omega⟩
   clear hlo hhi hkm hk hlt
   go_wp2_with (first
    | (refine wpList_load_row rfl 31 (.tmp 2) rfl w.heap.size rfl _ _ _ _ hgb.out Tryz.underlying31 rfl (by rw [geo2]; rfl) ?_)
    | fail)
   refine HMPx.out.mono ?_
   rintro e w3 ⟨rfl, hb3⟩
   have HG3 := Lib.hid ((hb3.block _ (lt_of_block hgb.out)).trans hgb.out)
   have HM3 := Lib.hid ((hb3.block _ (lt_of_block hmb.out)).trans hmb.out)
   have HO3 := Lib.hid (own_up hown.out hb3)
   have HT3 := Lib.hid (hrt.out.up hb3)
   have HE3 : Hid (Below w.heap.size w w3) := hbel.out.trans (hb3.mono hbel.out.size)
   have a17 := (cells_at HM3.out 17).trans (mtA_get17 _ _ _ H16.out)
   clear hgb hmb hown hrt hbel hb3 HMPx
   by_cases hbig : hi > n
   ·have g1 : (hi : Int) > (n : Int) := by omega
    have g2 : decide ((hi : Int) > (n : Int)) = true := by simp; omega
    have g3 : decide (n < hi) = true := by simp; omega
    have hsl : ∀ w : World, (Instr.sliceAt 26 (.slice (some ⟨pg, po, none⟩) n c) (some (.int .i64 (lo : Int))) (some (.int .i64 (n : Int))) none).run Tryz.prog w = .ok (.slice (some ⟨pg, subP po c lo, none⟩) (n - lo) (c - lo)) w := fun w => run_subPm pg po n c lo n (by have := HK.out; omega) (by have := HNN.out; omega) w
    have HPX := Lib.hid (HPB.out k n w3 HE3.out (by have := HK.out; omega) (Nat.le_refl _))
    rw [<- HK.out.2.1] at HPX
    clear hbig
    go_wp2_with fail
    refine HPX.out.mono ?_
    rintro e w4 ⟨v4, l4, rfl, hl4, hlt4, ho4, hb4⟩
    obtain ⟨a4, c4, rfl⟩ := own_slice ho4
    have hbx := below_box w4 (.cells #[.slice a4 256 c4] 47)
    have hb5 : Below w3.heap.size w3 (w4.alloc (.cells #[.slice a4 256 c4] 47)) := hb4.trans (hbx.mono hb4.size)
    have hs4 := sl_own hlt4 ho4
    have ht4 := own_u8 ho4
    have HG5 := Lib.hid ((hb5.block _ (lt_of_block HG3.out)).trans HG3.out)
    have HM5 := Lib.hid ((hb5.block _ (lt_of_block HM3.out)).trans HM3.out)
    have HO5 := Lib.hid (own_up HO3.out hb5)
    have HT5 := Lib.hid ((HT3.out.up hb5).snoc (hs4.below hbx (Nat.le_refl _)) (fun p hp => by
     obtain ⟨A9, z9, h9⟩ := ht4 p hp
     exact ⟨A9, z9, (hbx.block _ (lt_of_block h9)).trans h9⟩))
    have HE5 : Hid (Below w.heap.size w (w4.alloc (.cells #[.slice a4 256 c4] 47))) := HE3.out.trans (hb5.mono HE3.out.size)
    have HC5 : Hid ((w4.alloc (.cells #[.slice a4 256 c4] 47)).cell? ⟨w4.heap.size, 0, none⟩ = some (.slice a4 256 c4)) := (cells_at (heap_new' _ _) 0).trans rfl
    have HD5 : Hid (∀ l ∈ D ++ [l4], List.length l = 256 /\ ∀ y ∈ l, y < 256) := fun l hl => by
     rcases List.mem_append.1 hl with h | h
     ·exact hD.out l h
     ·have : l = l4 := by simpa using h
      subst this; exact ⟨hl4, hlt4⟩
    clear ho4 hb4 hb5 hbx hs4 ht4 hl4 hlt4 HG3 HM3 HO3 HT3 HE3 a17
    go_wp2_with (first
     | (refine wpList_append_row (v := .slice a m c') (base := w.heap.size) (n := m) (xs := xs) (g := w4.heap.size) rfl (.tmp 29) (.tmp 37) rfl rfl HO5.out rfl HC5.out rfl (by have h1 := hm.out; have h2 := HNN.out; have h3 := HK.out; omega) HE5.out.size ?_
        intro v6 w6 ho6 hg6
        have hbo : ∀ q, (Value.slice a m c').ownBlock = some q -> w.heap.size <= q := fun q h => own_base HO5.out q h
        have HT6 := Lib.hid (HT5.out.grown HO5.out hg6 (by decide))
        have HE6 : Hid (Below w.heap.size w w6) := HE5.out.grown hg6 HE5.out.size hbo
        have hne : ∀ q A t2, (w4.alloc (.cells #[.slice a4 256 c4] 47)).heap[q]? = some (Obj.cells A t2 (0, 0)) -> t2 ≠ 47 -> w6.heap[q]? = some (Obj.cells A t2 (0, 0)) := fun q A t2 hq ht => (hg6.block q (lt_of_block hq) (fun e => by
         rcases HO5.out.2 with ⟨h9, _⟩ | ⟨g9, cap9, cur9, q1, q2, q3, q4⟩
         ·rw [h9] at e; cases e
         ·rw [q1] at e; cases e
          have h7 := q3.symm.trans hq
          cases h7
          exact ht rfl)).trans hq
        have HG6 := Lib.hid (hne _ _ _ HG5.out (by decide))
        have HM6 := Lib.hid (hne _ _ _ HM5.out (by decide))
        have HO6 := Lib.hid ho6
        obtain ⟨a6, f6, hv6⟩ := own_sliceR ho6
        subst hv6
        clear ho6 hg6 hbo hne)
     | fail)
    go_roundw
    case rel => exact ⟨k + 1, a6, m + 1, f6, _, _, by go_num, rfl, by have := HK.out; show _ <= _; omega, by have := hm.out; show _ = _; omega, HO6.out, HT6.out, HD5.out, HG6.out, HM6.out, HE6.out⟩
    case measure => simp [intOf]; have := HK.out; omega
   ·have g1 : ¬ (hi : Int) > (n : Int) := by omega
    have g2 : decide ((hi : Int) > (n : Int)) = false := by simp; omega
    have g3 : decide (n < hi) = false := by simp; omega
    have g4 : ¬ n < hi := by omega
    have hsl : ∀ w : World, (Instr.sliceAt 26 (.slice (some ⟨pg, po, none⟩) n c) (some (.int .i64 (lo : Int))) (some (.int .i64 (hi : Int))) none).run Tryz.prog w = .ok (.slice (some ⟨pg, subP po c lo, none⟩) (hi - lo) (c - lo)) w := fun w => run_subPm pg po n c lo hi (by have := HK.out; omega) (by have := HNN.out; omega) w
    have HPX := Lib.hid (HPB.out k hi w3 HE3.out (by have := HK.out; omega) (by omega))
    rw [<- HK.out.2.1] at HPX
    clear hbig
    go_wp2_with fail
    refine HPX.out.mono ?_
    rintro e w4 ⟨v4, l4, rfl, hl4, hlt4, ho4, hb4⟩
    obtain ⟨a4, c4, rfl⟩ := own_slice ho4
    have hbx := below_box w4 (.cells #[.slice a4 256 c4] 47)
    have hb5 : Below w3.heap.size w3 (w4.alloc (.cells #[.slice a4 256 c4] 47)) := hb4.trans (hbx.mono hb4.size)
    have hs4 := sl_own hlt4 ho4
    have ht4 := own_u8 ho4
    have HG5 := Lib.hid ((hb5.block _ (lt_of_block HG3.out)).trans HG3.out)
    have HM5 := Lib.hid ((hb5.block _ (lt_of_block HM3.out)).trans HM3.out)
    have HO5 := Lib.hid (own_up HO3.out hb5)
    have HT5 := Lib.hid ((HT3.out.up hb5).snoc (hs4.below hbx (Nat.le_refl _)) (fun p hp => by
     obtain ⟨A9, z9, h9⟩ := ht4 p hp
     exact ⟨A9, z9, (hbx.block _ (lt_of_block h9)).trans h9⟩))
    have HE5 : Hid (Below w.heap.size w (w4.alloc (.cells #[.slice a4 256 c4] 47))) := HE3.out.trans (hb5.mono HE3.out.size)
    have HC5 : Hid ((w4.alloc (.cells #[.slice a4 256 c4] 47)).cell? ⟨w4.heap.size, 0, none⟩ = some (.slice a4 256 c4)) := (cells_at (heap_new' _ _) 0).trans rfl
    have HD5 : Hid (∀ l ∈ D ++ [l4], List.length l = 256 /\ ∀ y ∈ l, y < 256) := fun l hl => by
     rcases List.mem_append.1 hl with h | h
     ·exact hD.out l h
     ·have : l = l4 := by simpa using h
      subst this; exact ⟨hl4, hlt4⟩
    clear ho4 hb4 hb5 hbx hs4 ht4 hl4 hlt4 HG3 HM3 HO3 HT3 HE3 a17
    go_wp2_with (first
     | (refine wpList_append_row (v := .slice a m c') (base := w.heap.size) (n := m) (xs := xs) (g := w4.heap.size) rfl (.tmp 29) (.tmp 37) rfl rfl HO5.out rfl HC5.out rfl (by have h1 := hm.out; have h2 := HNN.out; have h3 := HK.out; omega) HE5.out.size ?_
        intro v6 w6 ho6 hg6
        have hbo : ∀ q, (Value.slice a m c').ownBlock = some q -> w.heap.size <= q := fun q h => own_base HO5.out q h
        have HT6 := Lib.hid (HT5.out.grown HO5.out hg6 (by decide))
        have HE6 : Hid (Below w.heap.size w w6) := HE5.out.grown hg6 HE5.out.size hbo
        have hne : ∀ q A t2, (w4.alloc (.cells #[.slice a4 256 c4] 47)).heap[q]? = some (Obj.cells A t2 (0, 0)) -> t2 ≠ 47 -> w6.heap[q]? = some (Obj.cells A t2 (0, 0)) := fun q A t2 hq ht => (hg6.block q (lt_of_block hq) (fun e => by
         rcases HO5.out.2 with ⟨h9, _⟩ | ⟨g9, cap9, cur9, q1, q2, q3, q4⟩
         ·rw [h9] at e; cases e
         ·rw [q1] at e; cases e
          have h7 := q3.symm.trans hq
          cases h7
          exact ht rfl)).trans hq
        have HG6 := Lib.hid (hne _ _ _ HG5.out (by decide))
        have HM6 := Lib.hid (hne _ _ _ HM5.out (by decide))
        have HO6 := Lib.hid ho6
        obtain ⟨a6, f6, hv6⟩ := own_sliceR ho6
        subst hv6
        clear ho6 hg6 hbo hne)
     | fail)
    go_roundw
    case rel => exact ⟨k + 1, a6, m + 1, f6, _, _, by go_num, rfl, by have := HK.out; show _ <= _; omega, by have := hm.out; show _ = _; omega, HO6.out, HT6.out, HD5.out, HG6.out, HM6.out, HE6.out⟩
    case measure => simp [intOf]; have := HK.out; omega
  ·have hkn : k = mm := by omega
   have hd : decide ((k : Int) < (mm : Int)) = false := by simp; omega
   have dl : ¬ (k : Int) < (mm : Int) := by omega
   have HO9 : Hid (wr.ownsRow w.heap.size 47 1 (.slice a m c') (1 + mm) xs) := by
    have h := hown.out
    rw [hm.out, hkn] at h ⊢
    exact h
   clear hkn hlt hkm hk
   go_wp2_with (first
    | (refine wpList_load_row rfl 31 (.tmp 2) rfl w.heap.size rfl _ _ _ _ hgb.out Tryz.underlying31 rfl (by rw [geo2]; rfl) ?_)
    | fail)
   refine HMPx.out.mono ?_
   rintro e w3 ⟨rfl, hb3⟩
   have HO3 := Lib.hid (own_up HO9.out hb3)
   have HT3 := Lib.hid (hrt.out.up hb3)
   have HE3 : Hid (Below w.heap.size w w3) := hbel.out.trans (hb3.mono hbel.out.size)
   clear hgb hmb hown hrt hbel hb3 HMPx HO9
   go_wp2
   go_ret
   exact ⟨_, xs, D, rfl, HO3.out, HT3.out, hD.out, HE3.out⟩
theorem same25_c (F : List Ft) (m : Nat) (hF : F.length = m) (hm : m <= maxLen) (a b : Option Addr) (ca cb : Nat) (w : World) (hA : FtsAt w a F) (hB : FtsAt w b F) :
  Calls Tryz.prog 9 #[.slice a m ca, .slice b m cb] w fun e w' => e = .returned (.bool true) /\ Below w.heap.size w w' := by
 have HA := Lib.hid hA
 have HB := Lib.hid hB
 have HF := Lib.hid hF
 have HM := Lib.hid hm
 clear hA hB hF hm
 have hdn : ((m : Int) == (m : Int)) = true := beq_self_eq_true _
 go_enter Tryz.func9, Tryz.ntmps9
 go_wp2
 go_loopw [14] (fun vi wr => ∃ k : Nat, k <= m /\ vi = .int .i64 (k : Int) /\ Hid (Below w.heap.size w wr)) (fun vi _ => m - (intOf vi).toNat)
 case atStart => exact ⟨0, by omega, rfl, Below.refl _ _⟩
 case round =>
  obtain ⟨k, hk, rfl, hbel⟩ := hrel
  generalize wr = wO at *
  by_cases hlt : k < m
  ·have hd : decide ((k : Int) < (m : Int)) = true := by simp; omega
   have dl : (k : Int) < (m : Int) := by omega
   have d0 : ¬ (k : Int) < 0 := by omega
   have hget : F[k]? = some (F[k]'(by rw [HF.out]; exact hlt)) := List.getElem?_eq_getElem _
   obtain ⟨p, hp⟩ : ∃ p, p = F[k]'(by rw [HF.out]; exact hlt) := ⟨_, rfl⟩
   rw [<- hp] at hget
   obtain ⟨ga, oa, rfl, hga, hca⟩ := HA.out k p hget
   obtain ⟨gb, ob, rfl, hgb, hcb⟩ := HB.out k p hget
   obtain ⟨x, y⟩ := p
   have ck : ∀ j u, (ftA ⟨x, y⟩).toList[j]? = some u -> wO.cell? ⟨ga, oa + k * 2 + j, none⟩ = some u := fun j u hu => (hbel.out.cell (p := ⟨ga, oa + k * 2 + j, none⟩) hga).trans (hca j u hu)
   have cb' : ∀ j u, (ftA ⟨x, y⟩).toList[j]? = some u -> wO.cell? ⟨gb, ob + k * 2 + j, none⟩ = some u := fun j u hu => (hbel.out.cell (p := ⟨gb, ob + k * 2 + j, none⟩) hgb).trans (hcb j u hu)
   have f0 := cb' 0 _ rfl
   have f1 := cb' 1 _ rfl
   rw [Nat.add_zero] at f0
   have HZ : Hid ((wO.alloc (.cells #[.int .i64 x, .int .i64 y] 73)).heap[wO.heap.size]? = some (.cells #[.int .i64 x, .int .i64 y] 73 (0, 0))) := heap_new' _ _
   have hE1 : Below wO.heap.size wO (wO.alloc (.cells #[.int .i64 x, .int .i64 y] 73)) := below_box _ _
   have hgo : ga < wO.heap.size := Nat.lt_of_lt_of_le hga hbel.out.size
   have a0 := (hE1.cell (p := ⟨ga, oa + k * 2 + 0, none⟩) hgo).trans (ck 0 _ rfl)
   have a1 := (hE1.cell (p := ⟨ga, oa + k * 2 + 1, none⟩) hgo).trans (ck 1 _ rfl)
   have b0 := (cells_at HZ.out 0).trans (show _ = some (Value.int .i64 x) from rfl)
   have b1 := (cells_at HZ.out 1).trans (show _ = some (Value.int .i64 y) from rfl)
   rw [Nat.add_zero] at a0
   have HE1 : Hid (Below w.heap.size w (wO.alloc (.cells #[.int .i64 x, .int .i64 y] 73))) := hbel.out.trans (hE1.mono hbel.out.size)
   have HK := Lib.hid hlt
   have ek : IntKind.i64.wrap ((k : Int) + 1) = (k : Int) + 1 := by have h9 : m <= maxLen := HM.out; unfold maxLen at h9; exact IntWalk.i64_in _ (by omega)
   have e1 : (x == x) = true := beq_self_eq_true _
   have e2 : (y == y) = true := beq_self_eq_true _
   clear hget hp hga hca hgb hcb ck cb' hE1 hgo hlt hk
   go_wp2
   go_quiet (fail)
   have hdr : Below w.heap.size w ((wO.alloc (.cells #[.int .i64 x, .int .i64 y] 73)).drewN nq) := below_drewG HE1.out _
   generalize ((wO.alloc (.cells #[.int .i64 x, .int .i64 y] 73)).drewN nq) = w3 at *
   have HE3 := Lib.hid hdr
   clear hdr
   go_wp2
   go_roundw
   case rel => exact ⟨k + 1, by have := HK.out; omega, by go_num, HE3.out⟩
   case measure => simp [intOf]; have := HK.out; omega
  ·have hd : decide ((k : Int) < (m : Int)) = false := by simp; omega
   have dl : ¬ (k : Int) < (m : Int) := by omega
   go_wp2
   go_ret
   exact ⟨rfl, hbel.out⟩
structure Tn where
 b : Int
 a : Int
 y : Nat
def tnA (p : Tn) : Array Value := #[.int .i64 p.b, .int .i64 p.a, .int .u8 ((p.y : Nat) : Int)]
/-- turns behind an address -/
def TnsAt (w : World) (a : Option Addr) (T : List Tn) : Prop := ∀ (i : Nat) (p : Tn), T[i]? = some p -> ∃ g o, a = some ⟨g, o, none⟩ /\ g < w.heap.size /\ w.rangeAt g (o + i * 3) (tnA p).toList
theorem TnsAt.up {w w' : World} {a : Option Addr} {T : List Tn} (h : TnsAt w a T) {B : Nat} (hb : Below B w w') (hB : w.heap.size <= B) : TnsAt w' a T := by
 intro i p hp
 obtain ⟨g, o, h1, h2, h3⟩ := h i p hp
 exact ⟨g, o, h1, Nat.lt_of_lt_of_le h2 hb.size, fun j u hu => (hb.cell (p := ⟨g, o + i * 3 + j, none⟩) (Nat.lt_of_lt_of_le h2 hB)).trans (h3 j u hu)⟩
theorem bits255 (c : Int) : ∃ m : Nat, m < 256 /\ bits BinOp.and IntKind.i64 c 255 = (m : Int) := by
 have key : (BitVec.ofInt 64 c &&& BitVec.ofInt 64 255).toNat < 256 := by
  rw [BitVec.toNat_and]
  refine Nat.lt_of_le_of_lt Nat.and_le_right ?_
  decide
 refine ⟨(BitVec.ofInt 64 c &&& BitVec.ofInt 64 255).toNat, key, ?_⟩
 show IntKind.i64.wrap (((BitVec.ofInt 64 c &&& BitVec.ofInt 64 255).toNat : Nat) : Int) = _
 rw [IntKind.wrap_i64]
 omega
theorem RowsT.set {w : World} {xs : List Value} {L : List (List Nat)} (h : RowsT w xs L) (j : Nat) {l : List Nat} {va : Option Addr} {n vc : Nat} (hs : SlAt w (.slice va n vc) l) (ht : ∀ p, va = some p -> ∃ A z, w.heap[p.block]? = some (Obj.cells A 5 z)) : RowsT w (xs.set j (.slice va n vc)) (L.set j l) := by
 refine ⟨⟨by simp [h.1.1], fun i l' hl => ?_⟩, fun i p ln c hx => ?_⟩
 ·rw [List.getElem?_set] at hl
  rw [List.getElem?_set]
  split at hl
  ·split at hl
   ·rename_i e1 e2
    have e : l = l' := by simpa using hl
    subst e
    rw [if_pos e1, if_pos (by rw [h.1.1]; exact e2)]
    exact ⟨_, rfl, hs⟩
   ·cases hl
  ·rename_i e1
   rw [if_neg e1]
   exact h.1.2 i l' hl
 ·rw [List.getElem?_set] at hx
  split at hx
  ·split at hx
   ·have e : va = some p := by
     have : (Value.slice va n vc) = .slice (some p) ln c := by simpa using hx
     cases this; rfl
    exact ht p e
   ·cases hx
  ·exact h.2 i p ln c hx
theorem RowsT.one {w : World} {xs : List Value} {L : List (List Nat)} (h : RowsT w xs L) : ∀ u ∈ xs, u.oneCell' = true := by
 intro u hu
 obtain ⟨i, hi, rfl⟩ := List.getElem_of_mem hu
 obtain ⟨u', h1, a, cap, e, _⟩ := h.1.2 i (L[i]'(by rw [<- h.1.1]; exact hi)) (List.getElem?_eq_getElem _)
 rw [List.getElem?_eq_getElem hi] at h1
 have h2 := Option.some.inj h1
 rw [h2, e]; rfl
theorem run_append_rows {w : World} (ty : TypeId) {base n : Nat} {v : Value} {xs : List Value} (hown : w.ownsRow base 47 1 v n xs) {g o m cap : Nat} {ys : List Value} (hm : ys.length = m) (hys : ∀ j u, ys[j]? = some u -> w.cell? ⟨g, o + j, none⟩ = some u) (h1 : ∀ u ∈ ys, u.oneCell' = true) (h63 : n + m <= 1000000) (hbase : base <= w.heap.size) :
  ∃ v' w', (Builtin.append_ #[32, 32] ty #[v, .slice (some ⟨g, o, none⟩) m cap]).run Tryz.prog w = .ok v' w' /\ w'.ownsRow base 47 1 v' (n + m) (xs ++ ys) /\ w.grownBy w' v.ownBlock := by
 obtain ⟨i0, hi, hz0, hz1, hz2⟩ := sl_parts
 obtain ⟨v', w', h1, h2, h3, _⟩ := run_append_own_at (P := Tryz.prog) w base 32 ty 47 i0 _ 1 24 Tryz.underlying32 hi hz0 hz1 hz2 rfl (by omega) v n xs hown ⟨g, o, none⟩ m cap ys (by omega)
   (fun j y hj => by rw [add_plain]; exact hys j y hj) h1 (by unfold maxLen; omega) (by omega) hbase
 exact ⟨v', w', h1, h2, h3⟩
theorem wpList_append_rows {w : World} {ops : Array Oper} {rest : List Oper} {o : Oper} {A : Act} {Q : Exit -> Act -> World -> Prop} (hgd : o.guard = none) (s x : Operand)
  (ho : o.op = .call { callee := .builtin .append, args := #[s, x], argTypes := #[32, 32] }) {base n : Nat} {v : Value} {xs : List Value} (hs : A.eval s = v) (hown : w.ownsRow base 47 1 v n xs)
  {g oo m cap : Nat} {ys : List Value} (hx : A.eval x = .slice (some ⟨g, oo, none⟩) m cap) (hm : ys.length = m) (hys : ∀ j u, ys[j]? = some u -> w.cell? ⟨g, oo + j, none⟩ = some u) (h1 : ∀ u ∈ ys, u.oneCell' = true) (h63 : n + m <= 1000000) (hbase : base <= w.heap.size)
  (h : ∀ v' w', w'.ownsRow base 47 1 v' (n + m) (xs ++ ys) -> w.grownBy w' v.ownBlock -> wpList Tryz.prog ops Q rest (A.put o.dst v') w') : wpList Tryz.prog ops Q (o :: rest) A w :=
 wpList_plain hgd fun _ hK => by
  obtain ⟨v', w', h1, h2, h3⟩ := run_append_rows (cap := cap) o.type hown hm hys h1 h63 hbase
  unfold Oper.wp execOp
  simp only [ho, resolve, invoke, builtin, Sem.run_bind, Sem.run_pure, Result.andThen_ok, List.map_toArray, List.map_cons, List.map_nil, hs, hx, h1]
  exact hK _ _ (h v' w' h2 h3)
theorem own_byte {w : World} {base g c n m : Nat} {l : List Nat} (h : w.ownsRow base 5 1 (.slice (some ⟨g, 0, none⟩) n c) n (bA l).toList) (hl : l.length = n) (hm : m < n) : w.cell? ⟨g, m, none⟩ = some (.int .u8 ((l.getD m 0 : Nat) : Int)) := by
 rw [h.cellAt m (by omega), Array.getElem?_toList, bA_get l m (by omega)]
theorem turned25_c (T : List Tn) (n : Nat) (hT : T.length = n) (hn : n <= maxLen) (hy : ∀ p ∈ T, p.y < 256) (ta : Option Addr) (tc B0 k g0 ca : Nat) (hk0 : 0 < k) (hk : k <= 70) (xs : List Value) (L : List (List Nat)) (h256 : ∀ l ∈ L, l.length = 256) (w : World) (hTa : TnsAt w ta T) (hown : w.ownsRow B0 47 1 (.slice (some ⟨g0, 0, none⟩) k ca) k xs) (hR : RowsT w xs L) :
  Calls Tryz.prog 7 #[.slice (some ⟨g0, 0, none⟩) k ca, .slice ta n tc] w fun e w' => ∃ v xs' L', e = .returned v /\ w'.ownsRow w.heap.size 47 1 v k xs' /\ RowsT w' xs' L' /\ (∀ l ∈ L', l.length = 256) /\ Below w.heap.size w w' := by
 have HOWN0 : Hid ((w.alloc (.cells #[] 47)).ownsRow w.heap.size 47 1 (.slice (some ⟨w.heap.size, 0, none⟩) 0 0) 0 []) := World.ownsRow_lit w #[] 0 (Nat.le_refl _) (Nat.zero_le _) rfl
 have hE0 : Below w.heap.size w (w.alloc (.cells #[] 47)) := below_box _ _
 have HXS : Hid (∀ j u, xs[j]? = some u -> (w.alloc (.cells #[] 47)).cell? ⟨g0, 0 + j, none⟩ = some u) := fun j u hu => by
  have h9 := own_up hown hE0
  have hj : j < k * 1 := by rw [<- h9.1]; exact (List.getElem?_eq_some_iff.1 hu).1
  rw [Nat.zero_add, h9.cellAt j hj]; exact hu
 have HXL : Hid (xs.length = k) := by show _ = _; rw [hown.1, Nat.mul_one]
 have HX1 := Lib.hid hR.one
 have HE0 := Lib.hid hE0
 have HS0 : Hid (w.heap.size <= (w.alloc (.cells #[] 47)).heap.size) := hE0.size
 have HR := Lib.hid hR
 have HT := Lib.hid hTa
 have HTL := Lib.hid hT
 have HN := Lib.hid hn
 have HY := Lib.hid hy
 have HKK := Lib.hid (And.intro hk0 hk)
 have H256 := Lib.hid h256
 clear hE0 hR hTa hT hn hy hk0 hk h256 hown
 go_enter Tryz.func7, Tryz.ntmps7
 go_wp2_with (first
  | (refine wpList_append_rows (v := .slice (some ⟨w.heap.size, 0, none⟩) 0 0) (base := w.heap.size) (n := 0) (xs := []) (m := k) (ys := xs) rfl (.tmp 9) (.tmp 10) rfl rfl HOWN0.out rfl HXL.out HXS.out HX1.out (by have := HKK.out; omega) HS0.out ?_; intro v1 w1 hown1 hgr1; rw [Nat.zero_add, List.nil_append] at hown1; obtain ⟨q, c, rfl, hq0, hqs⟩ := own_some hown1 HKK.out.1; have HO1 := Lib.hid hown1; have HE1 : Hid (Below w.heap.size w w1) := HE0.out.grown hgr1 (by rw [World.size_alloc]; omega) (fun q e => by simp [Value.ownBlock] at e; omega); clear hown1 hgr1)
  | fail)
 have HR1 := Lib.hid (HR.out.up HE1.out)
 clear HOWN0 HXS HXL HX1 HE0 HS0 HR hq0 hqs
 go_loopw [14] (fun vi wr => ∃ i : Nat, i <= n /\ vi = .int .i64 (i : Int) /\ ∃ ys M, Hid (wr.ownsRow w.heap.size 47 1 (.slice (some ⟨q, 0, none⟩) k c) k ys) /\ Hid (RowsT wr ys M) /\ Hid (∀ l ∈ M, l.length = 256) /\ Hid (Below w.heap.size w wr)) (fun vi _ => n - (intOf vi).toNat)
 case atStart => exact ⟨0, by omega, rfl, xs, L, HO1.out, HR1.out, H256.out, HE1.out⟩
 case round =>
  clear HO1 HE1 HR1
  obtain ⟨i, hi, rfl, ys, M, hown, hrow, hlen, hbel⟩ := hrel
  generalize wr = wO at *
  by_cases hlt : i < n
  ·have hd : decide ((i : Int) < (n : Int)) = true := by simp; omega
   have dl : (i : Int) < (n : Int) := by omega
   have d0 : ¬ (i : Int) < 0 := by omega
   obtain ⟨p, hpd⟩ : ∃ p, p = T[i]'(by rw [HTL.out]; exact hlt) := ⟨_, rfl⟩
   have hget : T[i]? = some p := by rw [hpd]; exact List.getElem?_eq_getElem _
   have HPY := Lib.hid (HY.out p (List.mem_of_getElem? hget))
   obtain ⟨gt, ot, rfl, hgt, hct⟩ := (HT.out.up hbel.out (Nat.le_refl _)) i p hget
   have HLT := Lib.hid hlt
   have ek : IntKind.i64.wrap ((i : Int) + 1) = (i : Int) + 1 := by have h9 : n <= maxLen := HN.out; unfold maxLen at h9; exact IntWalk.i64_in _ (by omega)
   clear hget hpd hgt hlt hi
   have hcs : (¬ i < 8) \/ (i < 8 /\ p.b < 0) \/ (i < 8 /\ 0 <= p.b /\ (k : Int) <= p.b) \/ (i < 8 /\ ∃ j : Nat, j < k /\ p.b = (j : Int)) := by
    by_cases h1 : i < 8
    ·by_cases h2 : p.b < 0
     ·exact .inr (.inl ⟨h1, h2⟩)
     ·by_cases h3 : (k : Int) <= p.b
      ·exact .inr (.inr (.inl ⟨h1, by omega, h3⟩))
      ·exact .inr (.inr (.inr ⟨h1, p.b.toNat, by omega, by omega⟩))
    ·exact .inl h1
   obtain ⟨pb, pa, py⟩ := p
   have e0 : wO.cell? ⟨gt, ot + i * 3, none⟩ = some (.int .i64 pb) := hct 0 _ rfl
   have e1 : wO.cell? ⟨gt, ot + i * 3 + 1, none⟩ = some (.int .i64 pa) := hct 1 _ rfl
   have e2 : wO.cell? ⟨gt, ot + i * 3 + 2, none⟩ = some (.int .u8 ((py : Nat) : Int)) := hct 2 _ rfl
   clear hct
   rcases hcs with h1 | ⟨h1, h2⟩ | ⟨h1, h2, h3⟩ | ⟨h1, j, h2, h3⟩
   ·have d8 : decide ((i : Int) < 8) = false := by simp; omega
    clear h1
    go_wp2
    have HE2 : Hid (Below wO.heap.size wO (wO.alloc (.cells #[.int .i64 pb, .int .i64 pa, .int .u8 ((py : Nat) : Int)] 52))) := below_box _ _
    have HO2 := Lib.hid (own_up hown.out HE2.out)
    have HR2 := Lib.hid (hrow.out.up HE2.out)
    have HE3 : Hid (Below w.heap.size w (wO.alloc (.cells #[.int .i64 pb, .int .i64 pa, .int .u8 ((py : Nat) : Int)] 52))) := hbel.out.trans (HE2.out.mono hbel.out.size)
    go_roundw
    case rel => exact ⟨i + 1, by have := HLT.out; omega, by go_num, ys, M, HO2.out, HR2.out, hlen.out, HE3.out⟩
    case measure => simp [intOf]; have := HLT.out; omega
   ·have d8 : decide ((i : Int) < 8) = true := by simp; omega
    have d9 : decide (pb >= 0) = false := by simp; exact h2
    have d9' : ¬ 0 <= pb := by have h2' : pb < 0 := h2; omega
    clear h1 h2
    go_wp2
    have HE2 : Hid (Below wO.heap.size wO (wO.alloc (.cells #[.int .i64 pb, .int .i64 pa, .int .u8 ((py : Nat) : Int)] 52))) := below_box _ _
    have HO2 := Lib.hid (own_up hown.out HE2.out)
    have HR2 := Lib.hid (hrow.out.up HE2.out)
    have HE3 : Hid (Below w.heap.size w (wO.alloc (.cells #[.int .i64 pb, .int .i64 pa, .int .u8 ((py : Nat) : Int)] 52))) := hbel.out.trans (HE2.out.mono hbel.out.size)
    go_roundw
    case rel => exact ⟨i + 1, by have := HLT.out; omega, by go_num, ys, M, HO2.out, HR2.out, hlen.out, HE3.out⟩
    case measure => simp [intOf]; have := HLT.out; omega
   ·have d8 : decide ((i : Int) < 8) = true := by simp; omega
    have d9 : decide (pb >= 0) = true := by simp; exact h2
    have d9' : 0 <= pb := h2
    have d10 : decide (pb < (k : Int)) = false := by have h3' : (k : Int) <= pb := h3; simp; omega
    clear h1 h2 h3
    go_wp2
    have HE2 : Hid (Below wO.heap.size wO (wO.alloc (.cells #[.int .i64 pb, .int .i64 pa, .int .u8 ((py : Nat) : Int)] 52))) := below_box _ _
    have HO2 := Lib.hid (own_up hown.out HE2.out)
    have HR2 := Lib.hid (hrow.out.up HE2.out)
    have HE3 : Hid (Below w.heap.size w (wO.alloc (.cells #[.int .i64 pb, .int .i64 pa, .int .u8 ((py : Nat) : Int)] 52))) := hbel.out.trans (HE2.out.mono hbel.out.size)
    go_roundw
    case rel => exact ⟨i + 1, by have := HLT.out; omega, by go_num, ys, M, HO2.out, HR2.out, hlen.out, HE3.out⟩
    case measure => simp [intOf]; have := HLT.out; omega
   ·have h3' : pb = (j : Int) := h3
    subst h3'
    have d8 : decide ((i : Int) < 8) = true := by simp; omega
    have d9 : decide ((j : Int) >= 0) = true := by simp
    have d9' : 0 <= (j : Int) := by omega
    have d10 : decide ((j : Int) < (k : Int)) = true := by simp; omega
    have dj : (j : Int) < (k : Int) := by omega
    have dj0 : ¬ (j : Int) < 0 := by omega
    have HJ := Lib.hid h2
    clear h1 h2 h3
    have hZ2 : (wO.alloc (.cells #[.int .i64 (j : Int), .int .i64 pa, .int .u8 ((py : Nat) : Int)] 52)).heap[wO.heap.size]? = some (.cells #[.int .i64 (j : Int), .int .i64 pa, .int .u8 ((py : Nat) : Int)] 52 (0, 0)) := heap_new' _ _
    have hE2 : Below wO.heap.size wO (wO.alloc (.cells #[.int .i64 (j : Int), .int .i64 pa, .int .u8 ((py : Nat) : Int)] 52)) := below_box _ _
    have hs2 : (wO.alloc (.cells #[.int .i64 (j : Int), .int .i64 pa, .int .u8 ((py : Nat) : Int)] 52)).heap.size = wO.heap.size + 1 := World.size_alloc _ _
    have hE3 : Below (wO.heap.size + 1) (wO.alloc (.cells #[.int .i64 (j : Int), .int .i64 pa, .int .u8 ((py : Nat) : Int)] 52)) ((wO.alloc (.cells #[.int .i64 (j : Int), .int .i64 pa, .int .u8 ((py : Nat) : Int)] 52)).alloc (.cells #[] 5)) := (below_box (wO.alloc (.cells #[.int .i64 (j : Int), .int .i64 pa, .int .u8 ((py : Nat) : Int)] 52)) _).mono (by omega)
    have hs3 : ((wO.alloc (.cells #[.int .i64 (j : Int), .int .i64 pa, .int .u8 ((py : Nat) : Int)] 52)).alloc (.cells #[] 5)).heap.size = wO.heap.size + 1 + 1 := by rw [World.size_alloc, hs2]
    have hE03 : Below wO.heap.size wO ((wO.alloc (.cells #[.int .i64 (j : Int), .int .i64 pa, .int .u8 ((py : Nat) : Int)] 52)).alloc (.cells #[] 5)) := hE2.trans (hE3.mono (by omega))
    have HOB0 : Hid (((wO.alloc (.cells #[.int .i64 (j : Int), .int .i64 pa, .int .u8 ((py : Nat) : Int)] 52)).alloc (.cells #[] 5)).ownsRow (wO.heap.size + 1) 5 1 (.slice (some ⟨wO.heap.size + 1, 0, none⟩) 0 0) 0 []) := by
     have h9 := World.ownsRow_lit (base := wO.heap.size + 1) (e := 5) (size := 1) (wO.alloc (.cells #[.int .i64 (j : Int), .int .i64 pa, .int .u8 ((py : Nat) : Int)] 52)) #[] 0 (by omega) (Nat.zero_le _) rfl
     rw [hs2] at h9; exact h9
    have hML : ys.length = M.length := hrow.out.1.1
    have hYL : ys.length = k := by rw [hown.out.1, Nat.mul_one]
    obtain ⟨l, hl⟩ : ∃ l, M[j]? = some l := ⟨M[j]'(by omega), List.getElem?_eq_getElem _⟩
    have hl256 : l.length = 256 := hlen.out l (List.mem_of_getElem? hl)
    obtain ⟨u, hu1, av, cv, rfl, hB, hnil, hle, hmx⟩ := hrow.out.1.2 j l hl
    rw [hl256] at hu1 hle
    have hc3 : ((wO.alloc (.cells #[.int .i64 (j : Int), .int .i64 pa, .int .u8 ((py : Nat) : Int)] 52)).alloc (.cells #[] 5)).cell? ⟨q, j, none⟩ = some (.slice av 256 cv) := ((own_up hown.out hE03).cellAt j (by omega)).trans hu1
    have x0 := ((hE3.block _ (lt_of_block hZ2 |> fun h => (by omega : wO.heap.size < wO.heap.size + 1))).trans hZ2)
    have y0 := (cells_at x0 0).trans (show _ = some (Value.int .i64 (j : Int)) from rfl)
    have z0 := (cells_at hZ2 0).trans (show _ = some (Value.int .i64 (j : Int)) from rfl)
    have HQL : Hid (q < wO.heap.size) := own_lt hown.out (show (Value.slice (some ⟨q, 0, none⟩) k c).ownBlock = some q from rfl)
    have HB3 := Lib.hid (hB.up hE03 (Nat.le_refl _))
    have HL := Lib.hid hl256
    have HNL := Lib.hid hnil
    have HE3 := Lib.hid hE3
    have HS3 := Lib.hid hs3
    have HZ2 := Lib.hid hZ2
    have HE2 := Lib.hid hE2
    have HU := Lib.hid hu1
    obtain ⟨m, hm, hbits⟩ := bits255 pa
    have HMM := Lib.hid hm
    have dm : (m : Int) < 256 := by omega
    have dm0 : ¬ (m : Int) < 0 := by omega
    have HGL := Lib.hid hl
    clear hZ2 hE2 hs2 hE3 hs3 hE03 hML hYL hl hl256 hu1 hB hnil hle hmx x0 hm
    go_wp2_with (first
     | (refine wpList_append_bytes (v := .slice (some ⟨wO.heap.size + 1, 0, none⟩) 0 0) (base := wO.heap.size + 1) (n := 0) (xs := []) (m := 256) (l := l) rfl (.tmp 33) (.tmp 38) rfl rfl HOB0.out rfl HL.out HB3.out HNL.out (by omega) (by rw [HS3.out]; omega) ?_; intro v4 w4 hown4 hgr4; rw [Nat.zero_add, List.nil_append] at hown4; obtain ⟨h4, c4, rfl, hh4, hh5⟩ := own_some hown4 (by omega); have HO4 := Lib.hid hown4; have HB4 : Hid (Below (wO.heap.size + 1) (wO.alloc (.cells #[.int .i64 (j : Int), .int .i64 pa, .int .u8 ((py : Nat) : Int)] 52)) w4) := HE3.out.grown hgr4 (by rw [HS3.out]; omega) (fun q e => by simp [Value.ownBlock] at e; omega); have HH4 := Lib.hid hh4; have HZ4 := Lib.hid ((HB4.out.block _ (Nat.lt_succ_self _)).trans HZ2.out); have a0 := (cells_at HZ4.out 0).trans (show _ = some (Value.int .i64 (j : Int)) from rfl); have a1 := (cells_at HZ4.out 1).trans (show _ = some (Value.int .i64 pa) from rfl); have a2 := (cells_at HZ4.out 2).trans (show _ = some (Value.int .u8 ((py : Nat) : Int)) from rfl); have a4 := own_byte HO4.out HL.out HMM.out; have f4 := HO4.out.frozenAt m; have HB5 : Hid (Below wO.heap.size wO (w4.setCell ⟨h4, m, none⟩ (.int .u8 ((py : Nat) : Int)))) := (HE2.out.trans (HB4.out.mono (Nat.le_succ _))).setCell (by show _ <= h4; omega) _; have HQH : Hid (q ≠ h4) := (by have := HQL.out; have := HH4.out; show _ ≠ _; omega); have HO5 : Hid ((w4.setCell ⟨h4, m, none⟩ (.int .u8 ((py : Nat) : Int))).ownsRow w.heap.size 47 1 (.slice (some ⟨q, 0, none⟩) k c) k ys) := own_up hown.out HB5.out; have a5 : (w4.setCell ⟨h4, m, none⟩ (.int .u8 ((py : Nat) : Int))).cell? ⟨q, j, none⟩ = some (.slice av 256 cv) := (HO5.out.cellAt j (by have := HJ.out; omega)).trans HU.out; have f5 := HO5.out.frozenAt j; have HZ5 : Hid ((w4.setCell ⟨h4, m, none⟩ (.int .u8 ((py : Nat) : Int))).heap[wO.heap.size]? = some (.cells #[.int .i64 (j : Int), .int .i64 pa, .int .u8 ((py : Nat) : Int)] 52 (0, 0))) := (setCell_other _ _ _ _ (by show _ ≠ h4; omega)).trans HZ4.out; have a6 := (cells_at HZ5.out 0).trans (show _ = some (Value.int .i64 (j : Int)) from rfl); clear hown4 hgr4 hh4 hh5)
     | fail)
    have hR5 := hrow.out.up HB5.out
    have hR6 : RowsT ((w4.setCell ⟨h4, m, none⟩ (.int .u8 ((py : Nat) : Int))).setCell ⟨q, j, none⟩ (.slice (some ⟨h4, 0, none⟩) 256 c4)) ys M := hR5.keep (fun p A z hp => setCell_other _ _ _ _ (by
     show p ≠ q
     rintro rfl
     rcases HO5.out.2 with ⟨h9, _⟩ | ⟨g9, cap9, cur9, e1, e2, e3, e4⟩
     ·cases h9
     ·cases e1
      have h7 := e3.symm.trans hp
      cases h7))
    have hv5 : ((w4.setCell ⟨h4, m, none⟩ (.int .u8 ((py : Nat) : Int)))).ownsRow (wO.heap.size + 1) 5 1 (.slice (some ⟨h4, 0, none⟩) 256 c4) 256 (bA (l.set m py)).toList := by
     have h9 := (HO4.out.stored m (.int .u8 ((py : Nat) : Int))).1
     have e9 : (bA l).toList.set m (.int .u8 ((py : Nat) : Int)) = (bA (l.set m py)).toList := by simp [bA, List.map_set]
     rw [e9] at h9; exact h9
    have hv6 : ((w4.setCell ⟨h4, m, none⟩ (.int .u8 ((py : Nat) : Int))).setCell ⟨q, j, none⟩ (.slice (some ⟨h4, 0, none⟩) 256 c4)).ownsRow (wO.heap.size + 1) 5 1 (.slice (some ⟨h4, 0, none⟩) 256 c4) 256 (bA (l.set m py)).toList := own_keep hv5 (fun p hp => setCell_other _ _ _ _ (by
     show p ≠ q
     cases hp
     exact fun e => HQH.out e.symm))
    have hlt6 : ∀ x ∈ l.set m py, x < 256 := fun x hx => by
     rcases List.mem_or_eq_of_mem_set hx with h9 | h9
     ·exact HB3.out.1 x h9
     ·rw [h9]; exact HPY.out
    have hR7 : RowsT ((w4.setCell ⟨h4, m, none⟩ (.int .u8 ((py : Nat) : Int))).setCell ⟨q, j, none⟩ (.slice (some ⟨h4, 0, none⟩) 256 c4)) (ys.set j (.slice (some ⟨h4, 0, none⟩) 256 c4)) (M.set j (l.set m py)) := hR6.set j (sl_own hlt6 hv6) (own_u8 hv6)
    have hO6 := (HO5.out.stored j (.slice (some ⟨h4, 0, none⟩) 256 c4)).1
    have hl6 : ∀ x ∈ M.set j (l.set m py), x.length = 256 := fun x hx => by
     rcases List.mem_or_eq_of_mem_set hx with h9 | h9
     ·exact hlen.out x h9
     ·rw [h9, List.length_set]; exact HL.out
    have hB6 : Below w.heap.size w ((w4.setCell ⟨h4, m, none⟩ (.int .u8 ((py : Nat) : Int))).setCell ⟨q, j, none⟩ (.slice (some ⟨h4, 0, none⟩) 256 c4)) := (hbel.out.trans (HB5.out.mono hbel.out.size)).setCell (by show _ <= q; exact own_base hown.out q rfl) _
    go_roundw
    case rel => exact ⟨i + 1, by have := HLT.out; omega, by go_num, _, _, hO6, hR7, hl6, hB6⟩
    case measure => simp [intOf]; have := HLT.out; omega
  ·have hd : decide ((i : Int) < (n : Int)) = false := by simp; omega
   have dl : ¬ (i : Int) < (n : Int) := by omega
   go_wp2
   go_ret
   exact ⟨_, rfl, ys, hown.out, M, hrow.out, hlen.out, hbel.out⟩
def rowZ (p : Pz) : List Value := (pzA p).toList
def cellsZ (L : List Pz) : List Value := L.flatMap rowZ
theorem rowZ_len (p : Pz) : (rowZ p).length = 5 := rfl
theorem cellsZ_len (L : List Pz) : (cellsZ L).length = L.length * 5 := by
 induction L with
 | nil => rfl
 | cons x xs ih => unfold cellsZ at *; rw [List.flatMap_cons, List.length_append, ih, rowZ_len, List.length_cons]; omega
theorem cellsZ_app (L M : List Pz) : cellsZ (L ++ M) = cellsZ L ++ cellsZ M := by unfold cellsZ; rw [List.flatMap_append]
theorem cellsZ_get : ∀ (L : List Pz) (i j : Nat) (p : Pz), L[i]? = some p -> j < 5 -> (cellsZ L)[i * 5 + j]? = (rowZ p)[j]?
 | [], i, j, p, h, hj => by cases h
 | x :: xs, 0, j, p, h, hj => by
  have hx : x = p := by simpa using h
  subst hx
  show (rowZ x ++ cellsZ xs)[0 * 5 + j]? = _
  rw [Nat.zero_mul, Nat.zero_add, List.getElem?_append_left (by rw [rowZ_len]; exact hj)]
 | x :: xs, i + 1, j, p, h, hj => by
  show (rowZ x ++ cellsZ xs)[(i + 1) * 5 + j]? = _
  rw [List.getElem?_append_right (by rw [rowZ_len]; omega), rowZ_len, show (i + 1) * 5 + j - 5 = i * 5 + j by omega]
  exact cellsZ_get xs i j p (by simpa using h) hj
theorem cellsZ_oneCell (L : List Pz) : ∀ v ∈ cellsZ L, v.oneCell' = true := by
 intro v hv
 unfold cellsZ at hv
 obtain ⟨p, _, hp⟩ := List.mem_flatMap.1 hv
 have := pzA_one p
 rw [<- Array.all_toList, List.all_eq_true] at this
 exact this v hp
theorem pzs_of_own {w : World} {base n : Nat} {a : Option Addr} {c : Nat} {L : List Pz} (hown : w.ownsRow base 78 5 (.slice a n c) n (cellsZ L)) : PzAt w a L := by
 intro i p hp
 have hi : i < L.length := (List.getElem?_eq_some_iff.1 hp).1
 have hn : n = L.length := by have := hown.1; rw [cellsZ_len] at this; omega
 rcases hown.2 with ⟨h3, h4⟩ | ⟨g, cap, cur, h3, h4, h5, h6⟩
 ·omega
 ·cases h3
  refine ⟨g, 0, rfl, lt_of_block h5, fun j u hu => ?_⟩
  have hj : j < 5 := by have := (List.getElem?_eq_some_iff.1 hu).1; simpa [pzA] using this
  rw [Nat.zero_add, hown.cellAt (i * 5 + j) (by omega), cellsZ_get L i j p hp hj]
  exact hu
theorem pzs_cells {w : World} {g o m : Nat} {M : List Pz} (h : PzAt w (some ⟨g, o, none⟩) M) : ∀ j u, (cellsZ M)[j]? = some u -> w.cell? ⟨g, o + j, none⟩ = some u := by
 intro j u hu
 have hj : j < M.length * 5 := by have := (List.getElem?_eq_some_iff.1 hu).1; rwa [cellsZ_len] at this
 have hq : j / 5 < M.length := by omega
 obtain ⟨g', o', e1, _, h3⟩ := h (j / 5) M[j / 5] (List.getElem?_eq_getElem hq)
 cases e1
 have e : j / 5 * 5 + j % 5 = j := by omega
 have h4 := cellsZ_get M (j / 5) (j % 5) _ (List.getElem?_eq_getElem hq) (by omega)
 rw [e, hu] at h4
 have h5 := h3 (j % 5) u h4.symm
 rw [Nat.add_assoc, e] at h5
 exact h5
/-- append of pages -/
theorem run_append_pzs {w : World} (ty : TypeId) {base n : Nat} {v : Value} {L : List Pz} (hA : w.ownsRow base 78 5 v n (cellsZ L)) {a : Option Addr} {m cap : Nat} {M : List Pz} (hm : M.length = m) (hM : PzAt w a M) (hnil : a = none -> m = 0 /\ cap = 0) (hpl : ∀ p, a = some p -> p.spot = none) (h63 : n + m <= 1000000) (hbase : base <= w.heap.size) :
  ∃ v' w', (Builtin.append_ #[26, 26] ty #[v, .slice a m cap]).run Tryz.prog w = .ok v' w' /\ w'.ownsRow base 78 5 v' (n + m) (cellsZ (L ++ M)) /\ w.grownBy w' v.ownBlock := by
 obtain ⟨i0, hi, h⟩ := Option.map_eq_some_iff.1 pginfoZ
 simp only [Prod.mk.injEq] at h
 cases a with
 | none =>
  obtain ⟨rfl, rfl⟩ := hnil rfl
  have hl : M = [] := List.length_eq_zero_iff.1 hm
  subst hl
  refine ⟨v, w, run_append_owned_none w base 26 ty 78 i0 5 Tryz.underlying26 hi v n _ hA, ?_, World.grownBy.refl w _⟩
  simpa using hA
 | some ad =>
  obtain ⟨g, o, sp⟩ := ad
  have hsp : sp = none := hpl _ rfl
  subst hsp
  obtain ⟨v', w', h4, h5, h6, _⟩ := run_append_own_at (P := Tryz.prog) w base 26 ty 78 i0 _ 5 40 Tryz.underlying26 hi h.1 h.2.1 h.2.2 rfl (by omega) v n (cellsZ L) hA ⟨g, o, none⟩ m cap (cellsZ M) (by rw [cellsZ_len, hm])
   (fun j u hu => by rw [add_plain]; exact pzs_cells (m := m) hM j u hu) (cellsZ_oneCell M) (by unfold maxLen; omega) (by omega) hbase
  exact ⟨v', w', h4, by rw [cellsZ_app]; exact h5, h6⟩
theorem run_sub00 (a : Option Addr) (len cap : Nat) (w : World) :
  (Instr.sliceAt 26 (.slice a len cap) none (some (.int .i64 0)) (some (.int .i64 0))).run Tryz.prog w = .ok (.slice a 0 0) w := by
 obtain ⟨i0, hi, hz⟩ := Option.map_eq_some_iff.1 pginfoZ
 have he : Tryz.prog.elem 26 = 78 := by kernel_rfl
 have hu : Tryz.prog.underlying 26 = some (.slice (Tryz.prog.elem 26)) := by rw [he]; exact Tryz.underlying26
 rw [run_sliceAt_slice (h := hu), run_slice_any (ht := hu)]
 have hb : (Instr.sliceBounds true len cap none (some (.int .i64 0)) (some (.int .i64 0))).run Tryz.prog w = .ok (0, 0, 0) w := by
  simp [Instr.sliceBounds, run_sliceBound]
 rw [hb]
 simp only [Result.andThen_ok]
 rw [he, run_sizeOf (w := w) hi, show Tryz.prog.cellsOf 78 = 5 from (by kernel_rfl)]
 simp [Result.andThen_ok, sliced]
/-- append(s[:0:0], s...) -/
theorem run_append_old {w : World} (ty : TypeId) (a : Option Addr) (m c : Nat) (L : List Pz) (hm : L.length = m) (h16 : m <= 1000) (hP : PzAt w a L) :
  ∃ v w', (Builtin.append_ #[26, 26] ty #[.slice a 0 0, .slice a m c]).run Tryz.prog w = .ok v w' /\ Below w.heap.size w w' /\ ((m = 0 /\ v = .slice a 0 0) \/ (0 < m /\ w'.ownsRow w.heap.size 78 5 v m (cellsZ L))) := by
 obtain ⟨i0, hi, h⟩ := Option.map_eq_some_iff.1 pginfoZ
 simp only [Prod.mk.injEq] at h
 by_cases h0 : m = 0
 ·subst h0
  refine ⟨.slice a 0 0, w, ?_, Below.refl _ _, .inl ⟨rfl, rfl⟩⟩
  cases a <;> simp [Builtin.append_, run_underlying (show Tryz.prog.underlying 26 = some (.slice 78) from Tryz.underlying26), sizeOf, typeInfo, hi, Builtin.lenOf, storeCells, Builtin.firstCells, loadCells, loadCellsFrom]
 ·have hpos : 0 < L.length := by omega
  obtain ⟨g, o, rfl, _, _⟩ := hP 0 L[0] (List.getElem?_eq_getElem hpos)
  obtain ⟨v', w', h1, h2, h3⟩ := run_append_arg_grows (P := Tryz.prog) w 26 ty 78 i0 _ 5 40 Tryz.underlying26 hi h.1 h.2.1 h.2.2 rfl (by omega) ⟨g, o, none⟩ 0 0 [] rfl (fun j u hu => by simp at hu) ⟨g, o, none⟩ m c (cellsZ L) (by rw [cellsZ_len, hm]) (fun j u hu => by rw [add_plain]; exact pzs_cells (m := m) hP j u hu) (by omega) (by unfold maxLen; omega) (by omega)
  rw [Nat.zero_add, List.nil_append] at h2
  exact ⟨v', w', h1, (Below.refl _ _).grown h3 (Nat.le_refl _) (fun q e => by cases e), .inr ⟨by omega, h2⟩⟩
/-- and the zeroed pages behind it -/
theorem run_append_two {w : World} (ty : TypeId) (B : Nat) (hB : B <= w.heap.size) (a : Option Addr) (ha : a = none \/ ∃ p, a = some p) (m : Nat) (L : List Pz) (hm : L.length = m) (v : Value) (hv : (m = 0 /\ v = .slice a 0 0) \/ (0 < m /\ w.ownsRow B 78 5 v m (cellsZ L))) (q oq r rc : Nat) (Z : List Pz) (hr : Z.length = r) (hmr : 1 <= m + r) (h16 : m + r <= 1000) (hZ : PzAt w (some ⟨q, oq, none⟩) Z) :
  ∃ v' w', (Builtin.append_ #[26, 26] ty #[v, .slice (some ⟨q, oq, none⟩) r rc]).run Tryz.prog w = .ok v' w' /\ w'.ownsRow B 78 5 v' (m + r) (cellsZ (L ++ Z)) /\ Below B w w' := by
 obtain ⟨i0, hi, h⟩ := Option.map_eq_some_iff.1 pginfoZ
 simp only [Prod.mk.injEq] at h
 have key : ∀ (v : Value), w.ownsRow B 78 5 v m (cellsZ L) -> ∃ v' w', (Builtin.append_ #[26, 26] ty #[v, .slice (some ⟨q, oq, none⟩) r rc]).run Tryz.prog w = .ok v' w' /\ w'.ownsRow B 78 5 v' (m + r) (cellsZ (L ++ Z)) /\ Below B w w' := fun v ho => by
  obtain ⟨v', w', h1, h2, h3⟩ := run_append_pzs (cap := rc) ty ho hr hZ (fun e => by cases e) (fun p e => by cases e; rfl) (by omega) hB
  exact ⟨v', w', h1, h2, (Below.refl _ _).grown h3 hB (fun q e => own_base ho q e)⟩
 rcases hv with ⟨h0, rfl⟩ | ⟨h0, ho⟩
 ·subst h0
  have hL : L = [] := List.length_eq_zero_iff.1 hm
  subst hL
  cases a with
  | none => exact key _ (World.ownsRow_nil _ _ _ _)
  | some p =>
   obtain ⟨v', w', h1, h2, h3⟩ := run_append_arg_grows (P := Tryz.prog) w 26 ty 78 i0 _ 5 40 Tryz.underlying26 hi h.1 h.2.1 h.2.2 rfl (by omega) p 0 0 [] rfl (fun j u hu => by simp at hu) ⟨q, oq, none⟩ r rc (cellsZ Z) (by rw [cellsZ_len, hr]) (fun j u hu => by rw [add_plain]; exact pzs_cells (m := r) hZ j u hu) (by omega) (by unfold maxLen; omega) (by omega)
   exact ⟨v', w', h1, own_mono h2 hB, ((Below.refl _ _).grown h3 (Nat.le_refl _) (fun q e => by cases e)).mono hB⟩
 ·exact key v ho
/-- copy of rows into a row of one's own -/
theorem run_copy_rows {w : World} (ty : TypeId) {B k g cap : Nat} {xs : List Value} (hown : w.ownsRow B 47 1 (.slice (some ⟨g, 0, none⟩) k cap) k xs) (a : Addr) (m c : Nat) (ys : List Value) (hm : ys.length = m) (hk : m <= k) (hys : ∀ j u, ys[j]? = some u -> w.cell? (a.add j) = some u) (h1 : ∀ u ∈ ys, u.oneCell' = true) :
  ∃ v w', (Builtin.copy_ #[32, 32] ty #[.slice (some ⟨g, 0, none⟩) k cap, .slice (some a) m c]).run Tryz.prog w = .ok v w' /\ w'.ownsRow B 47 1 (.slice (some ⟨g, 0, none⟩) k cap) k (ys ++ xs.drop m) /\ (∀ p, p ≠ g -> w'.heap[p]? = w.heap[p]?) /\ Below B w w' := by
 have hsz : (Tryz.prog.info? 47).map (·.size) = some 1 := by kernel_rfl
 have hl := hown.1
 rcases hown.2 with ⟨h9, _⟩ | ⟨g9, cap9, cur, e1, e2, e3, e4, e5, e6, e7⟩
 ·cases h9
 cases e1
 have hcn : ys.length = Nat.min m k := by rw [hm]; exact (Nat.min_eq_left hk).symm
 have hr := run_copy_row (P := Tryz.prog) w 32 32 ty 47 g 0 k cap a m c cur 47 ys Tryz.underlying32 hsz e3 hcn hys (by rw [e6]; omega) h1
 refine ⟨_, _, hr, ?_, fun p hp => setRow_other _ _ _ _ hp, below_setRow (Below.refl _ _) e2 _⟩
 refine ⟨by rw [List.length_append, List.length_drop]; omega, .inr ⟨g, cap, _, rfl, e2, setRow_heap _ _ _ _ _ _ e3, e4, e5, ?_, ?_⟩⟩
 ·simp only [List.take_zero, List.nil_append, Nat.zero_add, List.size_toArray, List.length_append, List.length_drop, Array.length_toList]; omega
 ·simp only [List.take_zero, List.nil_append, Nat.zero_add]
  rw [List.take_append, hm, List.take_of_length_le (by omega), <- e7, List.drop_take]
theorem wpList_append_two {w : World} {ops : Array Oper} {rest : List Oper} {o : Oper} {A : Act} {Q : Exit -> Act -> World -> Prop} (hgd : o.guard = none) (s x : Operand)
  (ho : o.op = .call { callee := .builtin .append, args := #[s, x], argTypes := #[26, 26] }) (B : Nat) (hB : B <= w.heap.size) (a : Option Addr) (m : Nat) (L : List Pz) (hm : L.length = m) (v : Value) (hs : A.eval s = v) (hv : (m = 0 /\ v = .slice a 0 0) \/ (0 < m /\ w.ownsRow B 78 5 v m (cellsZ L))) (q oq r rc : Nat) (Z : List Pz) (hx : A.eval x = .slice (some ⟨q, oq, none⟩) r rc) (hr : Z.length = r) (hmr : 1 <= m + r) (h16 : m + r <= 1000) (hZ : PzAt w (some ⟨q, oq, none⟩) Z)
  (h : ∀ v' w', w'.ownsRow B 78 5 v' (m + r) (cellsZ (L ++ Z)) -> Below B w w' -> wpList Tryz.prog ops Q rest (A.put o.dst v') w') : wpList Tryz.prog ops Q (o :: rest) A w :=
 wpList_plain hgd fun _ hK => by
  obtain ⟨v', w', h1, h2, h3⟩ := run_append_two (w := w) o.type B hB a (by cases a with | none => exact .inl rfl | some p => exact .inr ⟨p, rfl⟩) m L hm v hv q oq r rc Z hr hmr h16 hZ
  unfold Oper.wp execOp
  simp only [ho, resolve, invoke, builtin, Sem.run_bind, Sem.run_pure, Result.andThen_ok, List.map_toArray, List.map_cons, List.map_nil, hs, hx, h1]
  exact hK _ _ (h v' w' h2 h3)
theorem run_field_meta (x : Nat) (R : List Nat) (h16 : R.length = 16) (a : Option Addr) (n c : Nat) (E : Operand -> Value) (y : Operand) (o : Oper) (ho : o.op = .field 28 y 1) (h : E y = .agg (mtA x R (.slice a n c))) (w : World) :
  (execOp E o).run Tryz.prog w = .ok (.value (.slice a n c)) w := by
 obtain ⟨r0, r1, r2, r3, r4, r5, r6, r7, r8, r9, r10, r11, r12, r13, r14, r15, rfl⟩ := sixteenU h16
 unfold execOp
 simp only [ho]
 unfold mtA at h
 simp only [List.map_cons, List.map_nil, List.cons_append, List.nil_append] at h
 rw [h]
 first | kernel_rfl | rfl
theorem pz_tail {w : World} {q n m : Nat} (h : PzAt w (some ⟨q, 0, none⟩) (List.replicate n ⟨0, 0, 0, 0, 0⟩)) (hm : m <= n) : PzAt w (some ⟨q, subP 0 n m, none⟩) (List.replicate (n - m) ⟨0, 0, 0, 0, 0⟩) := by
 intro i p hp
 have hi : i < n - m := by have := (List.getElem?_eq_some_iff.1 hp).1; simpa using this
 rw [List.getElem?_replicate, if_pos hi] at hp
 obtain ⟨g, o, e, h2, h3⟩ := h (m + i) p (by rw [List.getElem?_replicate, if_pos (by omega)]; exact hp)
 cases e
 refine ⟨q, subP 0 n m, rfl, h2, ?_⟩
 have e1 : subP 0 n m + i * 5 = 0 + (m + i) * 5 := by unfold subP; rw [if_neg (by omega)]; omega
 rw [e1]; exact h3
def opsQB : {o : Array Oper // some o = (Tryz.f3.body.bind (Fre.findR 5))} := ⟨_, rfl⟩
theorem fitQB : Fre.fit .any opsQB.1 71 = true := by kernel_rfl
theorem sizeQB : opsQB.1.size = 16 := by kernel_rfl
theorem tailQB : Fre.tailFitT .any opsQB.1 13 = true := by kernel_rfl
def VQB (mb gb x m pc n B : Nat) (pa : Option Addr) (R : List Nat) (L : List Pz) (i : Nat) (v : Value) (w : World) : Prop := match i with
 | 0 => v = .pointer (some ⟨mb, 17, none⟩)
 | 1 => v = .slice pa m pc
 | 2 => v = .slice pa 0 0
 | 3 => v = .pointer (some ⟨mb, 17, none⟩)
 | 4 => v = .slice pa m pc
 | 5 => (m = 0 /\ v = .slice pa 0 0) \/ (0 < m /\ w.ownsRow B 78 5 v m (cellsZ L))
 | 6 => v = .agg #[.int .i64 (n : Int), .int .i64 4]
 | 7 => ∃ q, v = .agg (mtA 1 zeroR (.slice (some ⟨q, 0, none⟩) n n)) /\ PzAt w (some ⟨q, 0, none⟩) (List.replicate n ⟨0, 0, 0, 0, 0⟩)
 | 8 => ∃ q, v = .slice (some ⟨q, 0, none⟩) n n /\ PzAt w (some ⟨q, 0, none⟩) (List.replicate n ⟨0, 0, 0, 0, 0⟩)
 | 9 => v = .pointer (some ⟨mb, 17, none⟩)
 | 10 => v = .slice pa m pc
 | 11 => v = .int .i64 (m : Int)
 | 12 => ∃ q, v = .slice (some ⟨q, subP 0 n m, none⟩) (n - m) (n - m) /\ PzAt w (some ⟨q, subP 0 n m, none⟩) (List.replicate (n - m) ⟨0, 0, 0, 0, 0⟩)
 | _ => True
theorem stQB_0 (mb gb x m pc n B : Nat) (pa : Option Addr) (R : List Nat) (L : List Pz) (a0 : Act) (g94 : a0.tmps.getD 4 undef = .pointer (some ⟨mb, 0, none⟩)) (w0 : World) (h16 : R.length = 16) (hg : geoB n 4 = true) (hm : L.length = m) (hmn : m <= n) (hn : n <= 64) (hmt : w0.heap[mb]? = some (.cells (mtA x R (.slice pa m pc)) 28 (0, 0))) (hgb : w0.heap[gb]? = some (.cells #[.int .i64 (n : Int), .int .i64 4] 31 (0, 0))) (hP : PzAt w0 pa L) (hB : B <= w0.heap.size) : Fre.StepB Tryz.prog opsQB.1 a0 w0 (VQB mb gb x m pc n B pa R L) Fre.Kept 0 := by
 intro E w hc hf hE hV hN hS o ho
 obtain rfl := Option.some.inj ho
 clear ho
 simp only [opsQB, List.getElem_toArray, List.getElem_cons_succ, List.getElem_cons_zero]
 have b4 : E (.tmp 4) = .pointer (some ⟨mb, 0, none⟩) := (hE 4 (by kernel_rfl)).trans g94
 clear g94
 clear h16 hg hm hmn hn
 refine Fre.Does.value (v := .pointer (some ⟨mb, 17, none⟩)) (w' := w) ?_ ⟨rfl, Fre.Kept.refl _⟩
 go_simp
theorem stQB_1 (mb gb x m pc n B : Nat) (pa : Option Addr) (R : List Nat) (L : List Pz) (a0 : Act)  (w0 : World) (h16 : R.length = 16) (hg : geoB n 4 = true) (hm : L.length = m) (hmn : m <= n) (hn : n <= 64) (hmt : w0.heap[mb]? = some (.cells (mtA x R (.slice pa m pc)) 28 (0, 0))) (hgb : w0.heap[gb]? = some (.cells #[.int .i64 (n : Int), .int .i64 4] 31 (0, 0))) (hP : PzAt w0 pa L) (hB : B <= w0.heap.size) : Fre.StepB Tryz.prog opsQB.1 a0 w0 (VQB mb gb x m pc n B pa R L) Fre.Kept 1 := by
 intro E w hc hf hE hV hN hS o ho
 obtain rfl := Option.some.inj ho
 clear ho
 simp only [opsQB, List.getElem_toArray, List.getElem_cons_succ, List.getElem_cons_zero]
 have d0 := hV 0 30 (by kernel_rfl) (by kernel_rfl)
 have d0 : E (.tmp 30) = .pointer (some ⟨mb, 17, none⟩) := d0
 have cc := (cells_at ((hS.block mb (lt_of_block hmt)).trans hmt) 17).trans (mtA_get17 x R _ h16)
 clear h16 hg hm hmn hn
 refine Fre.Does.value (v := .slice pa m pc) (w' := w) ?_ ⟨rfl, Fre.Kept.refl _⟩
 go_simp
theorem stQB_2 (mb gb x m pc n B : Nat) (pa : Option Addr) (R : List Nat) (L : List Pz) (a0 : Act)  (w0 : World) (h16 : R.length = 16) (hg : geoB n 4 = true) (hm : L.length = m) (hmn : m <= n) (hn : n <= 64) (hmt : w0.heap[mb]? = some (.cells (mtA x R (.slice pa m pc)) 28 (0, 0))) (hgb : w0.heap[gb]? = some (.cells #[.int .i64 (n : Int), .int .i64 4] 31 (0, 0))) (hP : PzAt w0 pa L) (hB : B <= w0.heap.size) : Fre.StepB Tryz.prog opsQB.1 a0 w0 (VQB mb gb x m pc n B pa R L) Fre.Kept 2 := by
 intro E w hc hf hE hV hN hS o ho
 obtain rfl := Option.some.inj ho
 clear ho
 simp only [opsQB, List.getElem_toArray, List.getElem_cons_succ, List.getElem_cons_zero]
 have d1 := hV 1 31 (by kernel_rfl) (by kernel_rfl)
 have d1 : E (.tmp 31) = .slice pa m pc := d1
 have hr := run_sub00 pa m pc w
 refine Fre.Does.value (v := .slice pa 0 0) (w' := w) ?_ ⟨rfl, Fre.Kept.refl _⟩
 unfold execOp
 simp only [d1, hc, Option.map_some, Option.map_none, Sem.run_bind, hr, Result.andThen_ok]
 rfl
theorem stQB_3 (mb gb x m pc n B : Nat) (pa : Option Addr) (R : List Nat) (L : List Pz) (a0 : Act) (g94 : a0.tmps.getD 4 undef = .pointer (some ⟨mb, 0, none⟩)) (w0 : World) (h16 : R.length = 16) (hg : geoB n 4 = true) (hm : L.length = m) (hmn : m <= n) (hn : n <= 64) (hmt : w0.heap[mb]? = some (.cells (mtA x R (.slice pa m pc)) 28 (0, 0))) (hgb : w0.heap[gb]? = some (.cells #[.int .i64 (n : Int), .int .i64 4] 31 (0, 0))) (hP : PzAt w0 pa L) (hB : B <= w0.heap.size) : Fre.StepB Tryz.prog opsQB.1 a0 w0 (VQB mb gb x m pc n B pa R L) Fre.Kept 3 := by
 intro E w hc hf hE hV hN hS o ho
 obtain rfl := Option.some.inj ho
 clear ho
 simp only [opsQB, List.getElem_toArray, List.getElem_cons_succ, List.getElem_cons_zero]
 have b4 : E (.tmp 4) = .pointer (some ⟨mb, 0, none⟩) := (hE 4 (by kernel_rfl)).trans g94
 clear g94
 clear h16 hg hm hmn hn
 refine Fre.Does.value (v := .pointer (some ⟨mb, 17, none⟩)) (w' := w) ?_ ⟨rfl, Fre.Kept.refl _⟩
 go_simp
theorem stQB_4 (mb gb x m pc n B : Nat) (pa : Option Addr) (R : List Nat) (L : List Pz) (a0 : Act)  (w0 : World) (h16 : R.length = 16) (hg : geoB n 4 = true) (hm : L.length = m) (hmn : m <= n) (hn : n <= 64) (hmt : w0.heap[mb]? = some (.cells (mtA x R (.slice pa m pc)) 28 (0, 0))) (hgb : w0.heap[gb]? = some (.cells #[.int .i64 (n : Int), .int .i64 4] 31 (0, 0))) (hP : PzAt w0 pa L) (hB : B <= w0.heap.size) : Fre.StepB Tryz.prog opsQB.1 a0 w0 (VQB mb gb x m pc n B pa R L) Fre.Kept 4 := by
 intro E w hc hf hE hV hN hS o ho
 obtain rfl := Option.some.inj ho
 clear ho
 simp only [opsQB, List.getElem_toArray, List.getElem_cons_succ, List.getElem_cons_zero]
 have d3 := hV 3 33 (by kernel_rfl) (by kernel_rfl)
 have d3 : E (.tmp 33) = .pointer (some ⟨mb, 17, none⟩) := d3
 have cc := (cells_at ((hS.block mb (lt_of_block hmt)).trans hmt) 17).trans (mtA_get17 x R _ h16)
 clear h16 hg hm hmn hn
 refine Fre.Does.value (v := .slice pa m pc) (w' := w) ?_ ⟨rfl, Fre.Kept.refl _⟩
 go_simp
theorem stQB_5 (mb gb x m pc n B : Nat) (pa : Option Addr) (R : List Nat) (L : List Pz) (a0 : Act)  (w0 : World) (h16 : R.length = 16) (hg : geoB n 4 = true) (hm : L.length = m) (hmn : m <= n) (hn : n <= 64) (hmt : w0.heap[mb]? = some (.cells (mtA x R (.slice pa m pc)) 28 (0, 0))) (hgb : w0.heap[gb]? = some (.cells #[.int .i64 (n : Int), .int .i64 4] 31 (0, 0))) (hP : PzAt w0 pa L) (hB : B <= w0.heap.size) : Fre.StepB Tryz.prog opsQB.1 a0 w0 (VQB mb gb x m pc n B pa R L) Fre.Kept 5 := by
 intro E w hc hf hE hV hN hS o ho
 obtain rfl := Option.some.inj ho
 clear ho
 simp only [opsQB, List.getElem_toArray, List.getElem_cons_succ, List.getElem_cons_zero]
 have d2 := hV 2 32 (by kernel_rfl) (by kernel_rfl)
 have d2 : E (.tmp 32) = .slice pa 0 0 := d2
 have d4 := hV 4 34 (by kernel_rfl) (by kernel_rfl)
 have d4 : E (.tmp 34) = .slice pa m pc := d4
 obtain ⟨v, w', h1, h2, h3⟩ := run_append_old (w := w) 26 pa m pc L hm (by omega) (hP.up hS (Nat.le_refl _))
 refine Fre.Does.value (v := v) (w' := w') ?_ ⟨?_, h2⟩
 ·unfold execOp
  simp only [d2, d4, resolve, invoke, builtin, Sem.run_bind, Sem.run_pure, Result.andThen_ok, List.map_toArray, List.map_cons, List.map_nil, h1]
 ·rcases h3 with h3 | ⟨h3, h4⟩
  ·exact .inl h3
  ·exact .inr ⟨h3, own_mono h4 (Nat.le_trans hB hS.size)⟩
theorem stQB_6 (mb gb x m pc n B : Nat) (pa : Option Addr) (R : List Nat) (L : List Pz) (a0 : Act) (g97 : a0.tmps.getD 7 undef = .pointer (some ⟨gb, 0, none⟩)) (w0 : World) (h16 : R.length = 16) (hg : geoB n 4 = true) (hm : L.length = m) (hmn : m <= n) (hn : n <= 64) (hmt : w0.heap[mb]? = some (.cells (mtA x R (.slice pa m pc)) 28 (0, 0))) (hgb : w0.heap[gb]? = some (.cells #[.int .i64 (n : Int), .int .i64 4] 31 (0, 0))) (hP : PzAt w0 pa L) (hB : B <= w0.heap.size) : Fre.StepB Tryz.prog opsQB.1 a0 w0 (VQB mb gb x m pc n B pa R L) Fre.Kept 6 := by
 intro E w hc hf hE hV hN hS o ho
 obtain rfl := Option.some.inj ho
 clear ho
 simp only [opsQB, List.getElem_toArray, List.getElem_cons_succ, List.getElem_cons_zero]
 have b7 : E (.tmp 7) = .pointer (some ⟨gb, 0, none⟩) := (hE 7 (by kernel_rfl)).trans g97
 clear g97
 have hb9 := (hS.block gb (lt_of_block hgb)).trans hgb
 have hr := run_loadVar_row w gb _ 31 #[.int .i64 (n : Int), .int .i64 4] _ _ hb9 Tryz.underlying31 rfl (by rw [geo2]; rfl)
 refine Fre.Does.value (v := .agg #[.int .i64 (n : Int), .int .i64 4]) (w' := w) ?_ ⟨rfl, Fre.Kept.refl _⟩
 unfold execOp
 simp only [b7, Instr.loadAt, Instr.sureAddr, Sem.run_bind, Sem.run_pure, Result.andThen_ok, hr]
theorem stQB_7 (mb gb x m pc n B : Nat) (pa : Option Addr) (R : List Nat) (L : List Pz) (a0 : Act)  (w0 : World) (h16 : R.length = 16) (hg : geoB n 4 = true) (hm : L.length = m) (hmn : m <= n) (hn : n <= 64) (hmt : w0.heap[mb]? = some (.cells (mtA x R (.slice pa m pc)) 28 (0, 0))) (hgb : w0.heap[gb]? = some (.cells #[.int .i64 (n : Int), .int .i64 4] 31 (0, 0))) (hP : PzAt w0 pa L) (hB : B <= w0.heap.size) : Fre.StepB Tryz.prog opsQB.1 a0 w0 (VQB mb gb x m pc n B pa R L) Fre.Kept 7 := by
 intro E w hc hf hE hV hN hS o ho
 obtain rfl := Option.some.inj ho
 clear ho
 simp only [opsQB, List.getElem_toArray, List.getElem_cons_succ, List.getElem_cons_zero]
 have d6 := hV 6 36 (by kernel_rfl) (by kernel_rfl)
 have d6 : E (.tmp 36) = .agg #[.int .i64 (n : Int), .int .i64 4] := d6
 refine Fre.Does.enter (f := 5) (args := #[.agg #[.int .i64 (n : Int), .int .i64 4]]) (w' := w) ?_ ((rmnew_c n 4 hg w).mono ?_)
 ·clear h16 hg hm hmn hn; go_simp
 ·rintro e w' ⟨q, rfl, _, hq, hk'⟩
  exact ⟨_, rfl, ⟨q, rfl, made_pz hq⟩, hk'⟩
theorem stQB_8 (mb gb x m pc n B : Nat) (pa : Option Addr) (R : List Nat) (L : List Pz) (a0 : Act)  (w0 : World) (h16 : R.length = 16) (hg : geoB n 4 = true) (hm : L.length = m) (hmn : m <= n) (hn : n <= 64) (hmt : w0.heap[mb]? = some (.cells (mtA x R (.slice pa m pc)) 28 (0, 0))) (hgb : w0.heap[gb]? = some (.cells #[.int .i64 (n : Int), .int .i64 4] 31 (0, 0))) (hP : PzAt w0 pa L) (hB : B <= w0.heap.size) : Fre.StepB Tryz.prog opsQB.1 a0 w0 (VQB mb gb x m pc n B pa R L) Fre.Kept 8 := by
 intro E w hc hf hE hV hN hS o ho
 obtain rfl := Option.some.inj ho
 clear ho
 simp only [opsQB, List.getElem_toArray, List.getElem_cons_succ, List.getElem_cons_zero]
 have d7 := hV 7 37 (by kernel_rfl) (by kernel_rfl)
 replace d7 : (fun v : Value => ∃ q, v = .agg (mtA 1 zeroR (.slice (some ⟨q, 0, none⟩) n n)) /\ PzAt w (some ⟨q, 0, none⟩) (List.replicate n ⟨0, 0, 0, 0, 0⟩)) (E (.tmp 37)) := d7
 simp only at d7
 obtain ⟨q, e, f⟩ := d7
 exact Fre.Does.value (run_field_meta 1 zeroR rfl (some ⟨q, 0, none⟩) n n E (.tmp 37) _ rfl e w) ⟨⟨q, rfl, f⟩, Fre.Kept.refl _⟩
theorem stQB_9 (mb gb x m pc n B : Nat) (pa : Option Addr) (R : List Nat) (L : List Pz) (a0 : Act) (g94 : a0.tmps.getD 4 undef = .pointer (some ⟨mb, 0, none⟩)) (w0 : World) (h16 : R.length = 16) (hg : geoB n 4 = true) (hm : L.length = m) (hmn : m <= n) (hn : n <= 64) (hmt : w0.heap[mb]? = some (.cells (mtA x R (.slice pa m pc)) 28 (0, 0))) (hgb : w0.heap[gb]? = some (.cells #[.int .i64 (n : Int), .int .i64 4] 31 (0, 0))) (hP : PzAt w0 pa L) (hB : B <= w0.heap.size) : Fre.StepB Tryz.prog opsQB.1 a0 w0 (VQB mb gb x m pc n B pa R L) Fre.Kept 9 := by
 intro E w hc hf hE hV hN hS o ho
 obtain rfl := Option.some.inj ho
 clear ho
 simp only [opsQB, List.getElem_toArray, List.getElem_cons_succ, List.getElem_cons_zero]
 have b4 : E (.tmp 4) = .pointer (some ⟨mb, 0, none⟩) := (hE 4 (by kernel_rfl)).trans g94
 clear g94
 clear h16 hg hm hmn hn
 refine Fre.Does.value (v := .pointer (some ⟨mb, 17, none⟩)) (w' := w) ?_ ⟨rfl, Fre.Kept.refl _⟩
 go_simp
theorem stQB_10 (mb gb x m pc n B : Nat) (pa : Option Addr) (R : List Nat) (L : List Pz) (a0 : Act)  (w0 : World) (h16 : R.length = 16) (hg : geoB n 4 = true) (hm : L.length = m) (hmn : m <= n) (hn : n <= 64) (hmt : w0.heap[mb]? = some (.cells (mtA x R (.slice pa m pc)) 28 (0, 0))) (hgb : w0.heap[gb]? = some (.cells #[.int .i64 (n : Int), .int .i64 4] 31 (0, 0))) (hP : PzAt w0 pa L) (hB : B <= w0.heap.size) : Fre.StepB Tryz.prog opsQB.1 a0 w0 (VQB mb gb x m pc n B pa R L) Fre.Kept 10 := by
 intro E w hc hf hE hV hN hS o ho
 obtain rfl := Option.some.inj ho
 clear ho
 simp only [opsQB, List.getElem_toArray, List.getElem_cons_succ, List.getElem_cons_zero]
 have d9 := hV 9 39 (by kernel_rfl) (by kernel_rfl)
 have d9 : E (.tmp 39) = .pointer (some ⟨mb, 17, none⟩) := d9
 have cc := (cells_at ((hS.block mb (lt_of_block hmt)).trans hmt) 17).trans (mtA_get17 x R _ h16)
 clear h16 hg hm hmn hn
 refine Fre.Does.value (v := .slice pa m pc) (w' := w) ?_ ⟨rfl, Fre.Kept.refl _⟩
 go_simp
theorem stQB_11 (mb gb x m pc n B : Nat) (pa : Option Addr) (R : List Nat) (L : List Pz) (a0 : Act)  (w0 : World) (h16 : R.length = 16) (hg : geoB n 4 = true) (hm : L.length = m) (hmn : m <= n) (hn : n <= 64) (hmt : w0.heap[mb]? = some (.cells (mtA x R (.slice pa m pc)) 28 (0, 0))) (hgb : w0.heap[gb]? = some (.cells #[.int .i64 (n : Int), .int .i64 4] 31 (0, 0))) (hP : PzAt w0 pa L) (hB : B <= w0.heap.size) : Fre.StepB Tryz.prog opsQB.1 a0 w0 (VQB mb gb x m pc n B pa R L) Fre.Kept 11 := by
 intro E w hc hf hE hV hN hS o ho
 obtain rfl := Option.some.inj ho
 clear ho
 simp only [opsQB, List.getElem_toArray, List.getElem_cons_succ, List.getElem_cons_zero]
 have d10 := hV 10 40 (by kernel_rfl) (by kernel_rfl)
 have d10 : E (.tmp 40) = .slice pa m pc := d10
 clear h16 hg hm hmn hn
 refine Fre.Does.value (v := .int .i64 (m : Int)) (w' := w) ?_ ⟨rfl, Fre.Kept.refl _⟩
 go_simp
theorem stQB_12 (mb gb x m pc n B : Nat) (pa : Option Addr) (R : List Nat) (L : List Pz) (a0 : Act)  (w0 : World) (h16 : R.length = 16) (hg : geoB n 4 = true) (hm : L.length = m) (hmn : m <= n) (hn : n <= 64) (hmt : w0.heap[mb]? = some (.cells (mtA x R (.slice pa m pc)) 28 (0, 0))) (hgb : w0.heap[gb]? = some (.cells #[.int .i64 (n : Int), .int .i64 4] 31 (0, 0))) (hP : PzAt w0 pa L) (hB : B <= w0.heap.size) : Fre.StepB Tryz.prog opsQB.1 a0 w0 (VQB mb gb x m pc n B pa R L) Fre.Kept 12 := by
 intro E w hc hf hE hV hN hS o ho
 obtain rfl := Option.some.inj ho
 clear ho
 simp only [opsQB, List.getElem_toArray, List.getElem_cons_succ, List.getElem_cons_zero]
 have d8 := hV 8 38 (by kernel_rfl) (by kernel_rfl)
 replace d8 : (fun v : Value => ∃ q, v = .slice (some ⟨q, 0, none⟩) n n /\ PzAt w (some ⟨q, 0, none⟩) (List.replicate n ⟨0, 0, 0, 0, 0⟩)) (E (.tmp 38)) := d8
 simp only at d8
 have d11 := hV 11 41 (by kernel_rfl) (by kernel_rfl)
 have d11 : E (.tmp 41) = .int .i64 (m : Int) := d11
 obtain ⟨q, e, f⟩ := d8
 have hr := run_subPlR q 0 n n m hmn w
 refine Fre.Does.value (v := .slice (some ⟨q, subP 0 n m, none⟩) (n - m) (n - m)) (w' := w) ?_ ⟨⟨q, rfl, pz_tail f hmn⟩, Fre.Kept.refl _⟩
 unfold execOp
 simp only [e, d11, Option.map_some, Option.map_none, Sem.run_bind, hr, Result.andThen_ok]
 rfl
theorem kpQB (mb gb x m pc n B : Nat) (pa : Option Addr) (R : List Nat) (L : List Pz) : ∀ j v w w', j < 13 -> VQB mb gb x m pc n B pa R L j v w -> Fre.Kept w w' -> VQB mb gb x m pc n B pa R L j v w' := by
 intro j v w w' hj h hs
 have hc : j = 0 \/ j = 1 \/ j = 2 \/ j = 3 \/ j = 4 \/ j = 5 \/ j = 6 \/ j = 7 \/ j = 8 \/ j = 9 \/ j = 10 \/ j = 11 \/ j = 12 := by omega
 rcases hc with rfl | rfl | rfl | rfl | rfl | rfl | rfl | rfl | rfl | rfl | rfl | rfl | rfl
 ·exact h
 ·exact h
 ·exact h
 ·exact h
 ·exact h
 ·change (m = 0 /\ v = .slice pa 0 0) \/ (0 < m /\ w.ownsRow B 78 5 v m (cellsZ L)) at h
  rcases h with h | ⟨h1, h2⟩
  ·exact .inl h
  ·exact .inr ⟨h1, own_up h2 hs⟩
 ·exact h
 ·change ∃ q, v = .agg (mtA 1 zeroR (.slice (some ⟨q, 0, none⟩) n n)) /\ PzAt w (some ⟨q, 0, none⟩) (List.replicate n ⟨0, 0, 0, 0, 0⟩) at h
  obtain ⟨q, h1, h2⟩ := h
  exact ⟨q, h1, h2.up hs (Nat.le_refl _)⟩
 ·change ∃ q, v = .slice (some ⟨q, 0, none⟩) n n /\ PzAt w (some ⟨q, 0, none⟩) (List.replicate n ⟨0, 0, 0, 0, 0⟩) at h
  obtain ⟨q, h1, h2⟩ := h
  exact ⟨q, h1, h2.up hs (Nat.le_refl _)⟩
 ·exact h
 ·exact h
 ·exact h
 ·change ∃ q, v = .slice (some ⟨q, subP 0 n m, none⟩) (n - m) (n - m) /\ PzAt w (some ⟨q, subP 0 n m, none⟩) (List.replicate (n - m) ⟨0, 0, 0, 0, 0⟩) at h
  obtain ⟨q, h1, h2⟩ := h
  exact ⟨q, h1, h2.up hs (Nat.le_refl _)⟩
section
variable {u0 u1 u2 u3 u5 u6 u8 u9 u10 u11 u12 u13 u14 u15 u16 u17 u18 u19 u20 u21 u22 u23 u24 u25 u26 u27 u28 u29 u30 u31 u32 u33 u34 u35 u36 u37 u38 u39 u40 u41 u42 u43 u44 u45 u46 u47 u48 u49 u50 u51 u52 u53 u54 u55 u56 u57 u58 u59 u60 u61 u62 u63 u64 u65 u66 u67 u68 u69 u70 : Value}
theorem finQB (mb gb x m pc n B : Nat) (pa : Option Addr) (R : List Nat) (L : List Pz) (vs : Nat -> Value) : Fre.finT opsQB.1 vs #[u0, u1, u2, u3, .pointer (some ⟨mb, 0, none⟩), u5, u6, .pointer (some ⟨gb, 0, none⟩), u8, u9, u10, u11, u12, u13, u14, u15, u16, u17, u18, u19, u20, u21, u22, u23, u24, u25, u26, u27, u28, u29, u30, u31, u32, u33, u34, u35, u36, u37, u38, u39, u40, u41, u42, u43, u44, u45, u46, u47, u48, u49, u50, u51, u52, u53, u54, u55, u56, u57, u58, u59, u60, u61, u62, u63, u64, u65, u66, u67, u68, u69, u70] 13 = #[u0, u1, u2, u3, .pointer (some ⟨mb, 0, none⟩), u5, u6, .pointer (some ⟨gb, 0, none⟩), u8, u9, u10, u11, u12, u13, u14, u15, u16, u17, u18, u19, u20, u21, u22, u23, u24, u25, u26, u27, u28, u29, vs 0, vs 1, vs 2, vs 3, vs 4, vs 5, vs 6, vs 7, vs 8, vs 9, vs 10, vs 11, vs 12, u43, u44, u45, u46, u47, u48, u49, u50, u51, u52, u53, u54, u55, u56, u57, u58, u59, u60, u61, u62, u63, u64, u65, u66, u67, u68, u69, u70] := by kernel_rfl
theorem regionQB (mb gb x m pc n B : Nat) (pa : Option Addr) (R : List Nat) (L : List Pz) (w0 : World) (h16 : R.length = 16) (hg : geoB n 4 = true) (hm : L.length = m) (hmn : m <= n) (hn : n <= 64) (hmt : w0.heap[mb]? = some (.cells (mtA x R (.slice pa m pc)) 28 (0, 0))) (hgb : w0.heap[gb]? = some (.cells #[.int .i64 (n : Int), .int .i64 4] 31 (0, 0))) (hP : PzAt w0 pa L) (hB : B <= w0.heap.size) {QQ : Exit -> Act -> World -> Prop} (hQ : ∀ (vs : Nat -> Value) w, (∀ j, j < 13 -> VQB mb gb x m pc n B pa R L j (vs j) w) -> Fre.Kept w0 w -> wpList Tryz.prog opsQB.1 QQ (opsQB.1.toList.drop 13) ⟨#[u0, u1, u2, u3, .pointer (some ⟨mb, 0, none⟩), u5, u6, .pointer (some ⟨gb, 0, none⟩), u8, u9, u10, u11, u12, u13, u14, u15, u16, u17, u18, u19, u20, u21, u22, u23, u24, u25, u26, u27, u28, u29, vs 0, vs 1, vs 2, vs 3, vs 4, vs 5, vs 6, vs 7, vs 8, vs 9, vs 10, vs 11, vs 12, u43, u44, u45, u46, u47, u48, u49, u50, u51, u52, u53, u54, u55, u56, u57, u58, u59, u60, u61, u62, u63, u64, u65, u66, u67, u68, u69, u70], []⟩ w) : (Code.region 5 opsQB.1 true).wp Tryz.prog QQ ⟨#[u0, u1, u2, u3, .pointer (some ⟨mb, 0, none⟩), u5, u6, .pointer (some ⟨gb, 0, none⟩), u8, u9, u10, u11, u12, u13, u14, u15, u16, u17, u18, u19, u20, u21, u22, u23, u24, u25, u26, u27, u28, u29, u30, u31, u32, u33, u34, u35, u36, u37, u38, u39, u40, u41, u42, u43, u44, u45, u46, u47, u48, u49, u50, u51, u52, u53, u54, u55, u56, u57, u58, u59, u60, u61, u62, u63, u64, u65, u66, u67, u68, u69, u70], []⟩ w0 := by
 refine Fre.region_tailT 71 13 (by kernel_rfl) fitQB rfl tailQB (by rw [sizeQB]; omega) (VQB mb gb x m pc n B pa R L) (kpQB mb gb x m pc n B pa R L) (fun i hi => ?_) (fun vs w h1 h2 => ?_)
 case refine_2 =>
  have e9 := @finQB u0 u1 u2 u3 u5 u6 u8 u9 u10 u11 u12 u13 u14 u15 u16 u17 u18 u19 u20 u21 u22 u23 u24 u25 u26 u27 u28 u29 u30 u31 u32 u33 u34 u35 u36 u37 u38 u39 u40 u41 u42 u43 u44 u45 u46 u47 u48 u49 u50 u51 u52 u53 u54 u55 u56 u57 u58 u59 u60 u61 u62 u63 u64 u65 u66 u67 u68 u69 u70 mb gb x m pc n B pa R L vs
  have h9 := hQ vs w h1 h2
  rw [<- e9] at h9
  exact h9
 have hc : i = 0 \/ i = 1 \/ i = 2 \/ i = 3 \/ i = 4 \/ i = 5 \/ i = 6 \/ i = 7 \/ i = 8 \/ i = 9 \/ i = 10 \/ i = 11 \/ i = 12 := by omega
 rcases hc with rfl | rfl | rfl | rfl | rfl | rfl | rfl | rfl | rfl | rfl | rfl | rfl | rfl
 ·exact stQB_0 mb gb x m pc n B pa R L _ rfl w0 h16 hg hm hmn hn hmt hgb hP hB
 ·exact stQB_1 mb gb x m pc n B pa R L _  w0 h16 hg hm hmn hn hmt hgb hP hB
 ·exact stQB_2 mb gb x m pc n B pa R L _  w0 h16 hg hm hmn hn hmt hgb hP hB
 ·exact stQB_3 mb gb x m pc n B pa R L _ rfl w0 h16 hg hm hmn hn hmt hgb hP hB
 ·exact stQB_4 mb gb x m pc n B pa R L _  w0 h16 hg hm hmn hn hmt hgb hP hB
 ·exact stQB_5 mb gb x m pc n B pa R L _  w0 h16 hg hm hmn hn hmt hgb hP hB
 ·exact stQB_6 mb gb x m pc n B pa R L _ rfl w0 h16 hg hm hmn hn hmt hgb hP hB
 ·exact stQB_7 mb gb x m pc n B pa R L _  w0 h16 hg hm hmn hn hmt hgb hP hB
 ·exact stQB_8 mb gb x m pc n B pa R L _  w0 h16 hg hm hmn hn hmt hgb hP hB
 ·exact stQB_9 mb gb x m pc n B pa R L _ rfl w0 h16 hg hm hmn hn hmt hgb hP hB
 ·exact stQB_10 mb gb x m pc n B pa R L _  w0 h16 hg hm hmn hn hmt hgb hP hB
 ·exact stQB_11 mb gb x m pc n B pa R L _  w0 h16 hg hm hmn hn hmt hgb hP hB
 ·exact stQB_12 mb gb x m pc n B pa R L _  w0 h16 hg hm hmn hn hmt hgb hP hB
end
theorem blocks_none (n : Nat) (t : Int) (hg : geoB n t = true) (g o k cap : Nat) (L : List (List Nat)) (hL : L.length = k) (hk : k = sealedN n) (hcap : k <= cap) (h256 : ∀ l ∈ L, l.length = 256) (hm : metaN n (L.take (1 + mapsN n)) = none) (w : World) (hR : RowsAt w (some ⟨g, o, none⟩) L) :
  Calls Tryz.prog 8 #[.agg #[.int .i64 (n : Int), .int .i64 t], .slice (some ⟨g, o, none⟩) k cap] w fun e w' => ∃ fv, e = .returned (.tuple #[fv, .int .i64 0]) /\ w'.ownsRow w.heap.size 67 2 fv (faultsK n L).length (cellsF (faultsK n L)) /\ Below w.heap.size w w' := by
 have hp := (geoB_iff n t).1 hg
 have hfk : faultsK n L = [⟨4, -1⟩] := by unfold faultsK; rw [hm]
 have hn64 : n <= 64 := by omega
 have hmn := mapsN_le n hn64
 have hks : k = 1 + mapsN n + n := by rw [hk]; rfl
 have HG : Hid ((w.alloc (.cells #[.int .i64 (n : Int), .int .i64 t] 31)).heap[w.heap.size]? = some (.cells #[.int .i64 (n : Int), .int .i64 t] 31 (0, 0))) := heap_new' _ _
 have HE : Hid (Below w.heap.size w (w.alloc (.cells #[.int .i64 (n : Int), .int .i64 t] 31))) := below_box _ _
 have HC := Lib.hid (fun w => gcheck_c n t w)
 have HS := Lib.hid (fun w => gSealed_c n t w)
 have HA := Lib.hid (fun w => gPageAt_c n 0 t hg (by omega) w)
 have hany : L.any (fun l => !(l.length == 256)) = false := by
  rw [List.any_eq_false]; intro l hl; simp [h256 l hl]
 obtain ⟨fi, hfi⟩ : ∃ fi, fi = 1 + mapsN n := ⟨_, rfl⟩
 rw [show 1 + mapsN n + 0 = fi by omega] at HA
 rw [<- hfi] at hm
 have HFK := Lib.hid hfk
 have HX : Hid (∀ w', Below w.heap.size w w' -> Calls Tryz.prog 20 #[.slice (some ⟨g, o, none⟩) k cap, .func (.func 17) #[] #[]] w' fun e w'' => e = .returned (.bool false) /\ Below w'.heap.size w' w'') := fun w' h => by
  have := cf_long_c (some ⟨g, o, none⟩) k cap L hL (by omega) w' (hR.up h (Nat.le_refl _))
  rw [hany] at this; exact this
 have hsl : ifGeo n t (sealedN (n : Int).toNat) = k := by unfold ifGeo; rw [if_pos hg, Int.toNat_natCast, hk]
 have hge : geoE n t = 0 := by unfold geoE; rw [if_pos hg]
 rw [hsl] at HS
 rw [hge] at HC
 have HGB := Lib.hid hg
 have HL := Lib.hid hL
 have HKS := Lib.hid (show k = fi + n /\ n <= 64 /\ k <= cap /\ fi <= 5 from ⟨by omega, hn64, hcap, by omega⟩)
 have HFI := Lib.hid hfi
 have H256 := Lib.hid h256
 have HM := Lib.hid hm
 have HRW := Lib.hid hR
 have hd : ((k : Int) == (k : Int)) = true := beq_self_eq_true _
 clear hfi hp hn64 hmn hks hany hsl hge hg hL hk hcap h256 hm hR hfk
 go_enter Tryz.func8, Tryz.ntmps8
 go_wp2_with (first
  | (refine wpList_load_row rfl 31 (.tmp 2) rfl w.heap.size rfl _ _ _ _ HG.out Tryz.underlying31 rfl (by rw [geo2]; rfl) ?_)
  | fail)
 refine (HC.out _).mono ?_
 rintro e w1 ⟨rfl, hb1⟩
 have HE1 : Hid (Below w.heap.size w w1) := HE.out.trans (hb1.mono HE.out.size)
 have HG1 := Lib.hid ((hb1.block _ (lt_of_block HG.out)).trans HG.out)
 have g0 := (cells_at HG1.out 0).trans (show _ = some (Value.int .i64 (n : Int)) from rfl)
 have g1 := (cells_at HG1.out 1).trans (show _ = some (Value.int .i64 t) from rfl)
 clear hb1
 go_wp2_with fail
 refine (HS.out _).mono ?_
 rintro e w2 ⟨rfl, hb2⟩
 have HE2 : Hid (Below w.heap.size w w2) := HE1.out.trans (hb2.mono HE1.out.size)
 have HG2 := Lib.hid ((hb2.block _ (lt_of_block HG1.out)).trans HG1.out)
 clear hb2 g0 g1
 go_wp2_with fail
 refine (HX.out _ HE2.out).mono ?_
 rintro e w3 ⟨rfl, hb3⟩
 have HE3 : Hid (Below w.heap.size w w3) := HE2.out.trans (hb3.mono HE2.out.size)
 have HG3 := Lib.hid ((hb3.block _ (lt_of_block HG2.out)).trans HG2.out)
 clear hb3
 go_wp2_with (first
  | (refine wpList_load_row rfl 31 (.tmp 2) rfl w.heap.size rfl _ _ _ _ HG3.out Tryz.underlying31 rfl (by rw [geo2]; rfl) ?_)
  | fail)
 refine (HA.out _).mono ?_
 rintro e w4 ⟨rfl, hb4⟩
 have HE4 : Hid (Below w.heap.size w w4) := HE3.out.trans (hb4.mono HE3.out.size)
 have HG4 := Lib.hid ((hb4.block _ (lt_of_block HG3.out)).trans HG3.out)
 have HR4 := Lib.hid (HRW.out.up HE4.out (Nat.le_refl _))
 clear hb4
 go_wp2
 go_cut [8, 9] from 38 to 60 (fun s8 s9 wx => ∃ mb, s8 = .pointer (some ⟨mb, 0, none⟩) /\ s9 = .int .i64 4 /\ Hid (Below w.heap.size w wx))
 case first =>
  refine regionBQ w.heap.size g o k cap n fi t L w4.heap.size w4 HG4.out HGB.out HL.out HFI.out (by have := HKS.out; omega) HKS.out.2.2.1 H256.out HR4.out HM.out (Nat.le_refl _) ?_ ?_
  ·intro vs w5 hv hk
   have v6 := hv 6 (by omega)
   have v7 : vs 7 = .int .i64 4 := hv 7 (by omega)
   obtain ⟨b8, v8, hb8, f8⟩ := hv 8 (by omega)
   have v6' : vs 6 = .agg (mtA 0 zeroR (.slice none 0 0)) := v6
   rw [v6', v7, v8]
   clear hv v6 v6' v7 v8
   refine wpList_store_row rfl 63 (.tmp 8) (.tmp 36) rfl b8 (mtA 0 zeroR (.slice none 0 0)) rfl rfl 63 _ f8 (by rw [meta18]; rfl) rfl (mtA_one _ _ _ _ _) ?_
   have HE6 : Hid (Below w.heap.size w (w5.setRow b8 (mtA 0 zeroR (.slice none 0 0)))) := HE4.out.trans ((below_setRow hk hb8 _).mono HE4.out.size)
   clear f8 hb8 hk
   go_wp2
   go_meet
   case rel => exact ⟨b8, rfl, rfl, HE6.out⟩
  ·intro vs w5 hv hk
   obtain ⟨b8, v8, hb8, f8⟩ := hv 8 (by omega) (by omega)
   have v6' : vs 6 = .agg (mtA 0 zeroR (.slice none 0 0)) := hv 6 (by omega) (by omega)
   have v5' : vs 5 = .tuple #[.agg (mtA 0 zeroR (.slice none 0 0)), .int .i64 4] := hv 5 (by omega) (by omega)
   rw [v6', v5', v8]
   clear hv v6' v5' v8
   refine wpList_store_row rfl 63 (.tmp 8) (.tmp 36) rfl b8 (mtA 0 zeroR (.slice none 0 0)) rfl rfl 63 _ f8 (by rw [meta18]; rfl) rfl (mtA_one _ _ _ _ _) ?_
   have HE6 : Hid (Below w.heap.size w (w5.setRow b8 (mtA 0 zeroR (.slice none 0 0)))) := HE4.out.trans ((below_setRow hk hb8 _).mono HE4.out.size)
   clear f8 hb8 hk
   simp only [opsBQ, List.getElem_toArray, List.getElem_cons_succ, List.getElem_cons_zero, List.drop_succ_cons, List.drop_zero]
   go_wp2
   go_meet
   case rel => exact ⟨b8, rfl, rfl, HE6.out⟩
 case rest =>
  obtain ⟨mb, rfl, rfl, HEW⟩ := hcut
  have HBB : Hid ((wc.alloc (.cells (ftA ⟨4, -1⟩) 67)).heap[wc.heap.size]? = some (.cells (ftA ⟨4, -1⟩) 67 (0, 0))) := heap_new' _ _
  have HEB : Hid (Below w.heap.size w (wc.alloc (.cells (ftA ⟨4, -1⟩) 67))) := HEW.out.trans ((below_box wc _).mono HEW.out.size)
  go_wp2_with (first
   | (refine wpList_build_ft (p := ⟨4, -1⟩) rfl (.tmp 40) rfl rfl ?_)
   | fail)
  go_ret2
  refine ⟨_, rfl, ?_, HEB.out⟩
  rw [HFK.out]
  exact ⟨rfl, .inr ⟨wc.heap.size, 1, ftA ⟨4, -1⟩, rfl, HEW.out.size, HBB.out, Nat.le_refl _, by decide, rfl, rfl⟩⟩
theorem slAt_row {w : World} {b : Nat} {l : List Nat} (h : w.heap[b]? = some (.cells (bA l) 5 (0, 0))) (hl : l.length = 256) (hlt : ∀ x ∈ l, x < 256) : SlAt w (rowOf b) l := by
 obtain ⟨a, c, e, hb, _⟩ := own_bytes hlt (own_blk (base := 0) h hl (by omega) (Nat.zero_le _) |> fun k => by rw [<- hl] at k; exact k)
 rw [hl] at e
 cases e
 exact ⟨_, 256, by rw [hl]; rfl, hb, (fun h => by cases h), by omega, by unfold maxLen; omega⟩
/-- blocks in memory, each of its own bytes -/
theorem rows_of {w : World} {B n c : Nat} {a : Option Addr} {fs : List Nat} (f : Nat -> List Nat) (hown : w.ownsRow B 47 1 (.slice a n c) n (fs.map rowOf)) (hb : ∀ b ∈ fs, w.heap[b]? = some (.cells (bA (f b)) 5 (0, 0))) (hl : ∀ b ∈ fs, (f b).length = 256 /\ ∀ x ∈ f b, x < 256) : RowsAt w a (fs.map f) := by
 refine (rowsAt_of hown ⟨by simp, fun i l h => ?_⟩).2
 rw [List.getElem?_map] at h
 obtain ⟨b, hb1, rfl⟩ := Option.map_eq_some_iff.1 h
 have hm := List.mem_of_getElem? hb1
 exact ⟨rowOf b, by rw [List.getElem?_map, hb1]; rfl, slAt_row (hb b hm) (hl b hm).1 (hl b hm).2⟩
def z1B : List Nat := zB.set 9 1
def zP : List Pg := [⟨0, 0, 0, 0, 0⟩, ⟨0, 0, 0, 0, 0⟩, ⟨0, 0, 0, 0, 0⟩]
theorem zB_ok : zB.length = 256 /\ ∀ x ∈ zB, x < 256 := ⟨List.length_replicate, fun x h => by have := (List.mem_replicate.1 h).2; omega⟩
theorem z1B_ok : z1B.length = 256 /\ ∀ x ∈ z1B, x < 256 := ⟨by unfold z1B; rw [List.length_set]; exact zB_ok.1, fun x h => by
 rcases List.mem_or_eq_of_mem_set h with h1 | h1
 ·exact zB_ok.2 x h1
 ·omega⟩
theorem meta_z : metaN 3 [zB, zB] = some (1, zeroR, zP) := by kernel_rfl
theorem five {l : List Nat} (h : l.length = 5) : ∃ a b c d e, l = [a, b, c, d, e] := by
 match l, h with
 | [a, b, c, d, e], _ => exact ⟨a, b, c, d, e, rfl⟩
theorem own_cap {w : World} {B q o n c : Nat} {xs : List Value} {e : TypeId} {z : Nat} (h : w.ownsRow B e z (.slice (some ⟨q, o, none⟩) n c) n xs) : n <= c := by
 rcases h.2 with ⟨h9, _⟩ | ⟨g9, cap9, cur9, e1, e2, e3, e4, _⟩
 ·cases h9
 ·cases e1; exact e4
theorem awake25_c (w : World) :
  Calls Tryz.prog 11 #[] w fun e w' => e = .returned (.bool true) /\ Below w.heap.size w w' := by
 have HG : Hid ((w.alloc (.cells #[.int .i64 3, .int .i64 4] 31)).heap[w.heap.size]? = some (.cells #[.int .i64 3, .int .i64 4] 31 (0, 0))) := heap_new' _ _
 have HE : Hid (Below w.heap.size w (w.alloc (.cells #[.int .i64 3, .int .i64 4] 31))) := below_box _ _
 have HBL : Hid (∀ w, Calls Tryz.prog 4 #[.agg #[.int .i64 3, .int .i64 4]] w fun e w' => ∃ v fs, e = .returned v /\ Blk w' w.heap.size v 5 fs /\ Below w.heap.size w w') := fun w => blank_c 3 4 (by omega) w
 have HBK : Hid (∀ (q c : Nat) (L : List (List Nat)) (w : World), 5 <= c -> L.length = 5 -> (∀ l ∈ L, l.length = 256) -> metaN 3 (L.take 2) = some (1, zeroR, zP) -> RowsAt w (some ⟨q, 0, none⟩) L -> Calls Tryz.prog 8 #[.agg #[.int .i64 3, .int .i64 4], .slice (some ⟨q, 0, none⟩) 5 c] w fun e w' => ∃ fv, e = .returned (.tuple #[fv, .int .i64 0]) /\ w'.ownsRow w.heap.size 67 2 fv (trK (L.drop 2) 3).length (cellsF (trK (L.drop 2) 3)) /\ Below w.heap.size w w') := fun q c L w hc hL h256 hm hR =>
  blocks_free 3 4 (by decide) q 0 5 c L hL (by decide) hc h256 1 zP hm rfl (fun p hp => by simp [zP] at hp; rw [hp]) w hR
 go_enter Tryz.func11, Tryz.ntmps11
 go_wp2_with fail
 refine (HBL.out _).mono ?_
 rintro e w2 ⟨v2, fs, rfl, hblk, hb2⟩
 obtain ⟨q, c, rfl, hq0, hqs⟩ := own_some hblk.own (by omega)
 have HG2 := Lib.hid ((hb2.block _ (lt_of_block HG.out)).trans HG.out)
 have HE2 : Hid (Below w.heap.size w w2) := HE.out.trans (hb2.mono HE.out.size)
 obtain ⟨f0, f1, f2, f3, f4, rfl⟩ := five hblk.len
 have hcap := own_cap hblk.own
 have hR2 := rows_of (fun _ => zB) hblk.own (fun b hb => (hblk.blk b hb).2) (fun b _ => zB_ok)
 have hR2' : RowsAt w2 (some ⟨q, 0, none⟩) [zB, zB, zB, zB, zB] := hR2
 have HB1 := Lib.hid (HBK.out q c [zB, zB, zB, zB, zB] w2 hcap rfl (fun l hl => by simp at hl; rw [hl]; exact zB_ok.1) meta_z hR2')
 have HBLK := Lib.hid hblk
 have HCAP := Lib.hid hcap
 have HQS : Hid (w.heap.size <= q /\ q < w2.heap.size) := ⟨Nat.le_trans HE.out.size hq0, hqs⟩
 clear hb2 HG HE hblk hR2 hR2' hcap hq0 hqs HBL
 go_wp2_with (first
  | (refine wpList_load_row rfl 31 (.tmp 1) rfl w.heap.size rfl _ _ _ _ HG2.out Tryz.underlying31 rfl (by rw [geo2]; rfl) ?_)
  | fail)
 refine HB1.out.mono ?_
 rintro e w3 ⟨fv1, rfl, ho1, hb3⟩
 have ho1' : w3.ownsRow w2.heap.size 67 2 fv1 0 [] := ho1
 obtain ⟨a1, c1, rfl⟩ := own_sliceR ho1'
 have HG3 := Lib.hid ((hb3.block _ (lt_of_block HG2.out)).trans HG2.out)
 have HE3 : Hid (Below w.heap.size w w3) := HE2.out.trans (hb3.mono HE2.out.size)
 have hbl3 := HBLK.out.up hb3
 have c3 : w3.cell? ⟨q, 3, none⟩ = some (.slice (some ⟨f3, 0, none⟩) 256 256) := (hbl3.own.cellAt 3 (by simp)).trans rfl
 have hf3 := hbl3.blk f3 (by simp)
 have c9 : w3.cell? ⟨f3, 9, none⟩ = some (.int .u8 0) := (cells_at hf3.2 9).trans (by kernel_rfl)
 have fr9 := free_at hf3.2 9
 have hBs : (w.alloc (.cells #[.int .i64 3, .int .i64 4] 31)).heap.size = w.heap.size + 1 := World.size_alloc _ _
 have hge3 : w.heap.size + 1 <= f3 := by rw [<- hBs]; exact hf3.1
 have hqf : q ≠ f3 := by
  rintro rfl
  rcases hbl3.own.2 with ⟨h9, _⟩ | ⟨g9, cap9, cur9, e1, e2, e3, e4⟩
  ·cases h9
  ·cases e1
   have h9 := e3.symm.trans hf3.2
   cases h9
 have hnd := hbl3.nd
 simp only [List.nodup_cons, List.mem_cons, List.not_mem_nil, or_false, not_or] at hnd
 have hset : (w3.setCell ⟨f3, 9, none⟩ (.int .u8 1)).heap[f3]? = some (.cells (bA z1B) 5 (0, 0)) := by
  have h := block_at hf3.2 9 (.int .u8 ((1 : Nat) : Int))
  rw [bA_set] at h
  exact h
 have hoth : ∀ p : Nat, p ≠ f3 -> (w3.setCell ⟨f3, 9, none⟩ (.int .u8 1)).heap[p]? = w3.heap[p]? := fun p hp => setCell_other _ _ _ _ hp
 have hown4 : (w3.setCell ⟨f3, 9, none⟩ (.int .u8 1)).ownsRow (w.alloc (.cells #[.int .i64 3, .int .i64 4] 31)).heap.size 47 1 (.slice (some ⟨q, 0, none⟩) 5 c) 5 ([f0, f1, f2, f3, f4].map rowOf) := own_keep hbl3.own (fun p hp => hoth p (by cases hp; exact hqf))
 have hR4 := rows_of (fun b => if b = f3 then z1B else zB) hown4 (fun b hb => by
  by_cases h : b = f3
  ·subst h; rw [if_pos rfl]; exact hset
  ·rw [if_neg h, hoth b h]; exact (hbl3.blk b hb).2) (fun b _ => if h : b = f3 then by rw [if_pos h]; exact z1B_ok else by rw [if_neg h]; exact zB_ok)
 have hR4' : RowsAt (w3.setCell ⟨f3, 9, none⟩ (.int .u8 1)) (some ⟨q, 0, none⟩) [zB, zB, zB, z1B, zB] := by
  have e : [f0, f1, f2, f3, f4].map (fun b => if b = f3 then z1B else zB) = [zB, zB, zB, z1B, zB] := by
   simp only [List.map_cons, List.map_nil, if_true]
   rw [if_neg (fun h => hnd.1.2.2.1 h), if_neg (fun h => hnd.2.1.2.1 h), if_neg (fun h => hnd.2.2.1.1 h), if_neg (fun h => hnd.2.2.2.1 h.symm)]
  rw [e] at hR4; exact hR4
 have HG4 : Hid ((w3.setCell ⟨f3, 9, none⟩ (.int .u8 1)).heap[w.heap.size]? = some (.cells #[.int .i64 3, .int .i64 4] 31 (0, 0))) := (hoth _ (by omega)).trans HG3.out
 have HE4 : Hid (Below w.heap.size w (w3.setCell ⟨f3, 9, none⟩ (.int .u8 1))) := HE3.out.setCell (by show _ <= f3; omega) _
 have HB4 := Lib.hid (HBK.out q c [zB, zB, zB, z1B, zB] (w3.setCell ⟨f3, 9, none⟩ (.int .u8 1)) HCAP.out rfl (fun l hl => by
  simp only [List.mem_cons, List.not_mem_nil, or_false] at hl
  rcases hl with rfl | rfl | rfl | rfl | rfl
  ·exact zB_ok.1
  ·exact zB_ok.1
  ·exact zB_ok.1
  ·exact z1B_ok.1
  ·exact zB_ok.1) meta_z hR4')
 clear hR4 hR4' hown4 hoth hset hnd hqf hge3 hBs hf3 hbl3 hb3 ho1 ho1' HG3 HE3 HBLK HQS HBK HB1
 go_wp2_with (first
  | (refine wpList_load_row rfl 31 (.tmp 1) rfl w.heap.size rfl _ _ _ _ HG4.out Tryz.underlying31 rfl (by rw [geo2]; rfl) ?_)
  | fail)
 refine HB4.out.mono ?_
 rintro e w5 ⟨fv2, rfl, ho5, hb5⟩
 have ho5' : w5.ownsRow (w3.setCell ⟨f3, 9, none⟩ (.int .u8 1)).heap.size 67 2 fv2 1 [.int .i64 5, .int .i64 1] := ho5
 obtain ⟨g5, k5, rfl, _, _⟩ := own_some ho5' (by omega)
 have k0 : w5.cell? ⟨g5, 0, none⟩ = some (.int .i64 5) := (ho5'.cellAt 0 (by simp)).trans rfl
 have k1 : w5.cell? ⟨g5, 1, none⟩ = some (.int .i64 1) := (ho5'.cellAt 1 (by simp)).trans rfl
 have HE5 : Hid (Below w.heap.size w w5) := HE4.out.trans (hb5.mono HE4.out.size)
 clear ho5 ho5' hb5 c3 c9 fr9 HG4 HE4 HB4 HG2 HE2
 go_wp2
 go_ret
 exact ⟨rfl, HE5.out⟩
end Go.Proofs.YtpbmjfjnmcpieaaGreat
