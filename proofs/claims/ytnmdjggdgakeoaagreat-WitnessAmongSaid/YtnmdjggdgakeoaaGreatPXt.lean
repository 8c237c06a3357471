/- Lemmas for the proof. -/
import Derived.Test.YtnmdjggdgakeoaaGreatPXs
import Derived.Test.YtnmdjggdgakeoaaGreatPXi
import Derived.Test.YtnmdjggdgakeoaaGreatPXc
set_option maxRecDepth 100000
set_option maxHeartbeats 16000000
set_option linter.unusedVariables false
set_option linter.unusedSimpArgs false
set_option linter.unusedSectionVars false
namespace Go.Proofs.YtnmdjggdgakeoaaGreat
open Go Go.RowKit Sha Tryz
def FmtTo (w w' : World) (X : BaseR) : Prop := ∃ Y, BaseTo w w' X Y /\ FmtOf X Y
theorem worldA_6 (X : BaseR) (hp : Nat) : (worldA X hp)[6]? = some (.pointer (some ⟨hp, 0, none⟩)) := rfl
theorem plain0_c {X : BaseR} {wd hp : Nat} (a : Option Addr) (cap : Nat) (hc : X.c + 2 < 18446744073709551616) (hno : ∀ x ∈ X.M, ∀ j, x.k ≠ (X.c + 2, j)) (w : World) (h : BaseAt w X) (hw : w.heap[wd]? = some (.cells (worldA X hp) 123 (0, 0))) (hh : w.heap[hp]? = some (.cells (heapA X) 174 (0, 0))) :
  Calls prog 71 #[.pointer (some ⟨wd, 0, none⟩), .agg (fmtA a cap)] w fun r w' => r = .returned (.tuple #[.int .i64 0, .bool true]) /\ FmtTo w w' X := by
 obtain ⟨w2, hw2⟩ : ∃ w2, w2 = (w.alloc (.cells #[.pointer (some ⟨wd, 0, none⟩)] 79)).alloc (.cells (fmtA a cap) 93) := ⟨_, rfl⟩
 have hb2 : Below w.heap.size w w2 := by rw [hw2]; exact below_al (below_box _ _) _
 have h0 : w2.heap[w.heap.size]? = some (.cells #[.pointer (some ⟨wd, 0, none⟩)] 79 (0, 0)) := by rw [hw2]; exact ((below_box _ _).block _ (by rw [World.size_alloc]; omega)).trans (World.alloc_heap_new _ _)
 have h1 : w2.heap[w.heap.size + 1]? = some (.cells (fmtA a cap) 93 (0, 0)) := by rw [hw2, show w.heap.size + 1 = (w.alloc (.cells #[.pointer (some ⟨wd, 0, none⟩)] 79)).heap.size by rw [World.size_alloc]]; exact heap_new' _ _
 have hwd := (hb2.block _ (lt_blk hw)).trans hw
 have hhp := (hb2.block _ (lt_blk hh)).trans hh
 have c0 : w2.cell? ⟨w.heap.size, 0, none⟩ = some (.pointer (some ⟨wd, 0, none⟩)) := by rw [cells_at h0 0]; rfl
 have c1 : w2.cell? ⟨w.heap.size + 1, 0, none⟩ = some (.int .i64 0) := by rw [cells_at h1 0]; rfl
 have c6 : w2.cell? ⟨wd, 6, none⟩ = some (.pointer (some ⟨hp, 0, none⟩)) := by rw [cells_at hwd 6]; exact worldA_6 X hp
 have HTO := Lib.hid (BaseTo.below h hb2)
 have HF := Lib.hid (heapFormat_c hc hno w2 HTO.out.at' hhp)
 obtain ⟨A, hA⟩ : ∃ A, A = fmtA a cap := ⟨_, rfl⟩
 rw [<- hA] at hw2 ⊢
 clear h hw hh hb2 h0 h1 hwd hhp hA hc hno
 go_enter func71, ntmps71
 go_upto_region 1 with fail
 rw [<- hw2];clear hw2;go_wp2_with fail
 refine HF.out.mono ?_
 rintro r w3 ⟨rfl, Y, hto, hf⟩
 have HR : Hid (FmtTo w w3 X) := Lib.hid ⟨Y, HTO.out.trans hto, hf⟩
 clear hto hf HF HTO;go_wp2
 go_ret2
 exact ⟨rfl, HR.out⟩
def ansZ : Array Value := #[.int .i64 0, .int .u64 0, .slice none 0 0, .int .i64 0, .int .i64 0, .int .i64 0, .int .i64 0, .int .i64 0]
theorem ans8 : (prog.info? 127).map (·.size) = some 8 := by kernel_rfl
theorem ansZ_one : ansZ.all (·.oneCell') = true := by
 rw [<- Array.all_toList]; simp [ansZ, Value.oneCell']
theorem built_ans : prog.built 127 [(0, .int .i64 0)] = some ansZ := by kernel_rfl
theorem do0_c {X : BaseR} {wd hp : Nat} (a : Option Addr) (cap : Nat) (hc : X.c + 2 < 18446744073709551616) (hno : ∀ x ∈ X.M, ∀ j, x.k ≠ (X.c + 2, j)) (w : World) (h : BaseAt w X) (hw : w.heap[wd]? = some (.cells (worldA X hp) 123 (0, 0))) (hh : w.heap[hp]? = some (.cells (heapA X) 174 (0, 0))) :
  Calls prog 53 #[.pointer (some ⟨wd, 0, none⟩), .agg (fmtA a cap)] w fun r w' => r = .returned (.agg ansZ) /\ FmtTo w w' X := by
 obtain ⟨A, hA⟩ : ∃ A, A = fmtA a cap := ⟨_, rfl⟩
 obtain ⟨w1, hw1⟩ : ∃ w1, w1 = w.alloc (.cells A 93) := ⟨_, rfl⟩
 have hx1 := heap_new' w (.cells A 93)
 have hb1 : Below w.heap.size w w1 := by rw [hw1]; exact below_box _ _
 have hs1 : w1.heap.size = w.heap.size + 1 := by rw [hw1, World.size_alloc]
 rw [<- hw1] at hx1;obtain ⟨w2, hw2⟩ : ∃ w2, w2 = w1.alloc (.cells ansZ 127) := ⟨_, rfl⟩
 have hb2 : Below w.heap.size w w2 := by rw [hw2]; exact below_al hb1 _
 obtain ⟨q, hq⟩ : ∃ q, q = w1.heap.size := ⟨_, rfl⟩
 have h0 : w2.heap[w.heap.size]? = some (.cells A 93 (0, 0)) := by rw [hw2]; exact ((below_box _ _).block _ (lt_blk hx1)).trans hx1
 have h1 : w2.heap[q]? = some (.cells ansZ 127 (0, 0)) := by rw [hw2, hq]; exact heap_new' _ _
 have HMAY := Lib.hid (may0_c a cap w2)
 have HPL := Lib.hid (fun w h hw hh => plain0_c (X := X) (wd := wd) (hp := hp) a cap hc hno w h hw hh)
 have HA := Lib.hid hA;rw [<- hA] at HMAY HPL ⊢
 have H := Lib.hid h;have HW := Lib.hid hw;have HH := Lib.hid hh;have HX := Lib.hid h0;have HQ := Lib.hid h1;have HB2 := Lib.hid hb2;have HQE : Hid (w.heap.size + 1 = q /\ w.heap.size <= q) := Lib.hid ⟨by omega, by omega⟩
 have HW2 : Hid (w2 = w1.alloc (.cells #[.int .i64 0, .int .u64 0, .slice none 0 0, .int .i64 0, .int .i64 0, .int .i64 0, .int .i64 0, .int .i64 0] 127)) := Lib.hid hw2
 clear h hw hh hx1 hb1 hs1 hw2 hb2 hq h0 h1 hA hc hno
 go_enter func53, ntmps53
 go_upto_region 1 with fail
 rw [<- hw1, HQE.out.1, <- HW2.out]
 clear hw1 HW2;go_wp2_with (first
  | (refine wpList_load_row rfl 93 (.tmp 3) rfl w.heap.size rfl _ _ _ _ HX.out underlying93 rfl (by rw [HA.out]; exact act7) ?_)
  | fail)
 refine HMAY.out.mono ?_
 rintro r w3 ⟨rfl, hb3⟩
 have HX3 : Hid (w3.heap[w.heap.size]? = some (.cells A 93 (0, 0))) := (hb3.block _ (lt_blk HX.out)).trans HX.out
 have HQ3 : Hid (w3.heap[q]? = some (.cells ansZ 127 (0, 0))) := (hb3.block _ (lt_blk HQ.out)).trans HQ.out
 have HB3 : Hid (Below w.heap.size w w3) := HB2.out.trans (hb3.mono HB2.out.size)
 have HTO3 := Lib.hid (BaseTo.below H.out HB3.out)
 have HPL3 := Lib.hid (HPL.out w3 HTO3.out.at' ((HB3.out.block _ (lt_blk HW.out)).trans HW.out) ((HB3.out.block _ (lt_blk HH.out)).trans HH.out))
 clear hb3 HX HQ HB2 HMAY HPL;go_wp2_with (first
  | (refine wpList_load_row rfl 93 (.tmp 3) rfl w.heap.size rfl _ _ _ _ HX3.out underlying93 rfl (by rw [HA.out]; exact act7) ?_)
  | fail)
 refine HPL3.out.mono ?_
 rintro r w4 ⟨rfl, Y, hto, hf⟩
 have hqS : ∀ k, k = q -> ¬ X.S k := fun k e hk => by have := H.out.lt k hk; have := HQE.out.2; omega
 obtain ⟨hq4, hq5⟩ := hto.keep (On.block HQ3.out) hqS
 have HQ4 := Lib.hid hq4.holds;have HTO4 := Lib.hid (HTO3.out.trans hto)
 have HQ5 := Lib.hid (hq5 q rfl)
 have HFO := Lib.hid hf;have HBT := Lib.hid built_ans;obtain ⟨Z, hZ⟩ : ∃ Z, Z = ansZ := ⟨_, rfl⟩
 have HZ := Lib.hid hZ;rw [<- hZ] at HQ4 HBT;clear hto hf hqS hq4 hq5 hZ HPL3 HTO3 HX3 HQ3 HB3;go_wp2_with (first
  | (refine wpList_build_c rfl 127 [(0, .tmp 25)] rfl Z ?_ ?_; exact HBT.out)
  | (refine wpList_store_row rfl 127 (.tmp 4) (.tmp 26) rfl q Z rfl rfl 127 Z HQ4.out (by rw [HZ.out]; exact ans8) rfl (by rw [HZ.out]; exact ansZ_one) ?_)
  | fail)
 refine bodyPost_ret (results_cell_row rfl _ _ q 127 Z (0, 0) _ rfl (setRow_heap _ _ _ _ _ _ HQ4.out) underlying127 rfl (by rw [HZ.out]; exact ans8)) rfl ⟨by rw [HZ.out], Y, HTO4.out.own (S := fun k => k = q) (Chg.setRow _ _ _ rfl) (fun k e => by rw [e]; exact HQE.out.2) (fun k e => by rw [e]; exact HQ5.out), HFO.out⟩
def ansE (_ : Unit) : List Value := ansZ.toList
theorem ansRT : RowTy prog (fun _ : Unit => .agg ansZ) ansE 8 80 82 127 :=
 ⟨underlying82, ⟨.agg ansZ, by kernel_rfl, rfl⟩, fun x => rfl, fun _ => rfl, fun x v hv => by simp [ansE, ansZ] at hv; rcases hv with rfl | rfl | rfl | rfl | rfl | rfl | rfl | rfl <;> rfl, by decide⟩
theorem run0_c {X : BaseR} {wd hp : Nat} (a : Option Addr) (cap g c1 : Nat) (hc : X.c + 2 < 18446744073709551616) (hno : ∀ x ∈ X.M, ∀ j, x.k ≠ (X.c + 2, j)) (w : World) (h : BaseAt w X) (hw : w.heap[wd]? = some (.cells (worldA X hp) 123 (0, 0))) (hh : w.heap[hp]? = some (.cells (heapA X) 174 (0, 0))) (hg : g < w.heap.size) (hr : ∀ j v, (fmtA a cap)[j]? = some v -> w.cell? ⟨g, j, none⟩ = some v) :
  Calls prog 32 #[.pointer (some ⟨wd, 0, none⟩), .slice (some ⟨g, 0, none⟩) 1 c1] w fun r w' => (∃ v, r = .returned v) /\ FmtTo w w' X := by
 have HDO := Lib.hid (fun w h hw hh => do0_c (X := X) (wd := wd) (hp := hp) a cap hc hno w h hw hh)
 have hl0 := fun (w' : World) (hb : Below w.heap.size w w') => run_loadVar_mid (P := prog) w' g 0 93 (fmtA a cap).toList _ (fun j v hv => by
  rw [Array.getElem?_toList] at hv
  rw [Nat.zero_add];exact (hb.cell (p := ⟨g, j, none⟩) hg).trans (hr j v hv)) underlying93 rfl (by rw [act7]; rfl)
 have hld : ∀ w', Below w.heap.size w w' -> (loadVar 93 ⟨g, 0, none⟩).run prog w' = .ok (.agg (fmtA a cap)) w' := hl0
 clear hl0;obtain ⟨A, hA⟩ : ∃ A, A = fmtA a cap := ⟨_, rfl⟩
 rw [<- hA] at HDO hld;have HA := Lib.hid hA;have HLD := Lib.hid hld;have H := Lib.hid h;have HW := Lib.hid hw;have HH := Lib.hid hh;clear h hw hh hg hr hld hA hc hno
 go_enter func32, ntmps32
 go_wp2_with fail
 go_loopw [5, 10] (fun v5 v10 wr => ∃ i : Nat, i <= 1 /\ v10 = .int .i64 (i : Int) /\ Hid (i = 0 -> v5 = .slice none 0 0 /\ wr = w) /\ Hid (i = 1 -> FmtTo w wr X)) (fun _ v10 _ => 1 - (intOf v10).toNat)
 case atStart => exact ⟨0, Nat.zero_le _, rfl, Lib.hid fun _ => ⟨rfl, rfl⟩, Lib.hid fun e => by cases e⟩
 case round =>
  obtain ⟨i, hi, rfl, h0, h1⟩ := hrel
  by_cases hlt : i < 1
  ·have dl : (i : Int) < 1 := by omega
   have d0 : ¬ (i : Int) < 0 := by omega
   have hi0 : i = 0 := by omega
   have hz : (i : Int) = 0 := by omega
   obtain ⟨e5, ew⟩ := h0.out hi0
   subst wr;obtain ⟨v5, hv5⟩ : ∃ v5, v5 = u5 := ⟨_, rfl⟩
   rw [<- hv5] at e5 ⊢
   clear hv5;subst e5;have hrl := HLD.out w (Below.refl _ _)
   rw [show (⟨g, 0, none⟩ : Addr) = ⟨g, i * 7, none⟩ by rw [hi0]] at hrl
   have HRL := Lib.hid hrl;have hz0 := heap_new' w (.cells #[.int .i64 0, .bool false, .int .i64 0, .int .i64 0, .int .i64 0, .int .i64 0, .slice none 0 0] 93)
   obtain ⟨w1, hw1⟩ : ∃ w1, w1 = (w.alloc (.cells #[.int .i64 0, .bool false, .int .i64 0, .int .i64 0, .int .i64 0, .int .i64 0, .slice none 0 0] 93)).setRow w.heap.size A := ⟨_, rfl⟩
   have hx1 : w1.heap[w.heap.size]? = some (.cells A 93 (0, 0)) := by rw [hw1]; exact setRow_heap _ _ _ _ _ _ hz0
   have hb1 : Below w.heap.size w w1 := by rw [hw1]; exact below_setRow (below_box _ _) (Nat.le_refl _) A
   have HX1 := Lib.hid hx1;have HTO1 := Lib.hid (BaseTo.below H.out hb1)
   have HD1 := Lib.hid (HDO.out w1 HTO1.out.at' ((hb1.block _ (lt_blk HW.out)).trans HW.out) ((hb1.block _ (lt_blk HH.out)).trans HH.out))
   have HHI := Lib.hid (And.intro hi0 hz)
   have HZ0 := Lib.hid hz0;clear hrl hz0 hx1 hb1 hi0 hz h0 h1 hlt hi HLD HDO
   go_upto_region 5 with (first
    | (refine wpList_load_run rfl 93 (.tmp 12) rfl (p := ⟨g, i * 7, none⟩) rfl HRL.out ?_)
    | (refine wpList_store_row rfl 93 (.tmp 7) (.tmp 13) rfl w.heap.size A rfl rfl 93 _ HZ0.out (by rw [HA.out]; exact act7) (by rw [HA.out]; rfl) (by rw [HA.out]; exact fmtA_one _ _) ?_; rw [<- hw1]; clear hw1)
    | fail)
   go_wp2_with (first
    | (refine wpList_load_row rfl 93 (.tmp 7) rfl w.heap.size rfl _ _ _ _ HX1.out underlying93 rfl (by rw [HA.out]; exact act7) ?_)
    | fail)
   refine HD1.out.mono ?_
   rintro r w2 ⟨rfl, Y, hto, hf⟩
   have HTO2 := Lib.hid (HTO1.out.trans hto)
   have HF2 := Lib.hid hf;obtain ⟨w3, hw3⟩ : ∃ w3, w3 = w2.alloc (.cells (ansE ()).toArray 127) := ⟨_, rfl⟩
   have hb3 : Below w2.heap.size w2 w3 := by rw [hw3]; exact below_box _ _
   have HROW3 : Hid (RowK ansE 8 w3 (some ⟨w2.heap.size, 0, none⟩) [()]) := Lib.hid (by rw [hw3]; exact rowK_one (fun _ => rfl) (heap_new' _ _))
   have HTO3 := Lib.hid (HTO2.out.trans (BaseTo.below HTO2.out.at' hb3))
   have HOWN3 : Hid (w3.ownsRow w.heap.size 127 8 (.slice none 0 0) 0 (cellsK ansE ([] : List Unit))) := Lib.hid ⟨rfl, .inl ⟨rfl, rfl⟩⟩
   clear hto hf hb3 HD1 HTO1 HTO2 HX1 HRL HZ0;go_wp2_with (first
    | (refine ansRT.wpList_build (p := ()) (by decide) rfl (.tmp 17) rfl rfl ?_; rw [<- hw3]; clear hw3)
    | (refine ansRT.wpList_append_at rfl (.tmp 14) (.tmp 18) rfl (base := w.heap.size) (v := .slice none 0 0) (n := 0) (L := []) rfl HOWN3.out (a := some ⟨w2.heap.size, 0, none⟩) (m := 1) (cap := 1) (M := [()]) rfl rfl HROW3.out (fun h => by cases h) (by rintro _ ⟨⟩; rfl) (by decide) (by decide) HTO3.out.chg.size ?_; intro v4 w4 hown4 hgr4 hnil4 hat4; have HT4 : Hid (FmtTo w w4 X) := Lib.hid ⟨Y, HTO3.out.own (S := fun _ => False) (Chg.grown hgr4 (fun k e _ => by cases e)) (fun k e => e.elim) (fun k e => e.elim), HF2.out⟩; clear hown4 hgr4 hnil4 hat4)
    | fail)
   go_roundw
   case rel => exact ⟨1, by omega, by rw [HHI.out.2]; go_num, Lib.hid fun e => (by cases e), Lib.hid fun _ => HT4.out⟩
   case measure => simp [intOf]; have := HHI.out; omega
  ·have dl : ¬ (i : Int) < 1 := by omega
   have hi1 : i = 1 := by omega
   have HT := Lib.hid (h1.out hi1)
   clear h0 h1 hi1 hlt hi;go_wp2
   go_ret
   exact ⟨⟨_, rfl⟩, HT.out⟩
theorem clash0_c {b tb mb : Nat} {E : List BEnt} {TS : List (List Nat)} (w : World) (h : Bk w b tb mb none E TS) :
  Calls prog 34 #[.pointer (some ⟨b, 0, none⟩)] w fun r w' => r = .returned (.tuple #[.slice none 0 0, .slice none 0 0, .bool false]) /\ Below w.heap.size w w' := by
 have c2 : w.cell? ⟨b, 2, none⟩ = some (.pointer none) := by rw [cells_at h.blk 2]; rfl
 clear h
 go_enter func34, ntmps34
 go_wp2
 go_ret3
 exact ⟨rfl, by first | exact Below.refl _ _ | exact (Below.refl _ _).drew⟩
theorem load_wbase {w : World} {wd hp : Nat} {X : BaseR} (h : w.heap[wd]? = some (.cells (worldA X hp) 123 (0, 0))) : (loadVar 90 ⟨wd, 0, none⟩).run prog w = .ok (.agg (baseV X)) w := by
 have hr := run_loadVar_mid (P := prog) w wd 0 90 (baseV X).toList _ (fun j v hv => by
  have hj : j < 6 := (List.getElem?_eq_some_iff.1 hv).1
  rw [Nat.zero_add, cells_at h j]
  unfold worldA;rw [Array.getElem?_append_left hj, <- Array.getElem?_toList]; exact hv) underlying90 rfl (by rw [base6]; rfl)
 exact hr
theorem wBase_c {X : BaseR} {wd hp : Nat} (w : World) (hw : w.heap[wd]? = some (.cells (worldA X hp) 123 (0, 0))) :
  Calls prog 33 #[.pointer (some ⟨wd, 0, none⟩)] w fun r w' => r = .returned (.agg (baseV X)) /\ Below w.heap.size w w' := by
 obtain ⟨w1, hw1⟩ : ∃ w1, w1 = w.alloc (.cells baseZ 90) := ⟨_, rfl⟩
 have hx := heap_new' w (.cells baseZ 90)
 have hb := below_box w (.cells baseZ 90)
 rw [<- hw1] at hx hb;have hwd := (hb.block _ (lt_blk hw)).trans hw
 have HL := Lib.hid (load_wbase hwd)
 have HX := Lib.hid hx;have HB := Lib.hid hb;have HW1 : Hid (w1 = w.alloc (.cells #[.pointer none, .pointer none, .pointer none, .pointer none, .int .i64 0, .int .i64 0] 90)) := Lib.hid hw1
 obtain ⟨B, hB⟩ : ∃ B, B = baseV X := ⟨_, rfl⟩
 have HBE := Lib.hid hB;rw [<- hB] at HL ⊢
 clear hw1 hx hb hwd hw hB
 go_enter func33, ntmps33
 go_upto_region 1 with fail
 rw [<- HW1.out];go_wp2_with (first
  | (refine wpList_load_run rfl 90 (.tmp 8) rfl rfl HL.out ?_)
  | (refine wpList_store_row rfl 90 (.tmp 2) (.tmp 9) rfl w.heap.size B rfl rfl 90 baseZ HX.out (by rw [HBE.out]; exact base6) (by rw [HBE.out]; rfl) (by rw [HBE.out]; exact baseV_one X) ?_)
  | fail)
 exact bodyPost_ret (results_cell_row rfl _ _ w.heap.size 90 B (0, 0) _ rfl (setRow_heap _ _ _ _ _ _ HX.out) underlying90 rfl (by rw [HBE.out]; exact base6)) rfl ⟨rfl, below_setRow HB.out (Nat.le_refl _) _⟩
theorem results_row_tmp2 {P : Program} {fn : Func} {p u v : Tmp} {ty : TypeId} (h : fn.results = #[.cell p ty, .tmp u, .tmp v]) (tmps : Array Value) (w : World) (g : Nat) (t : TypeId) (cs : Array Value) (fr : Nat × Nat) (d : TypeDesc)
  (hp : tmps.getD p undef = .pointer (some ⟨g, 0, none⟩)) (hg : w.heap[g]? = some (.cells cs t fr))
  (hu : P.underlying ty = some d) (hd : (match d with | .struct _ | .array _ _ => true | _ => false) = true) (hi : (P.info? ty).map (·.size) = some cs.size) :
  (results fn tmps).run P w = .ok (.tuple #[.agg cs, tmps.getD u undef, tmps.getD v undef]) w := by
 have hp' : tmps[p]?.getD undef = .pointer (some ⟨g, 0, none⟩) := by simpa using hp
 simp [results, h, hp', asAddr, run_loadVar_row w g t ty cs fr d hg hu hd hi]
theorem field_base3 (X : BaseR) (w : World) : (Instr.field 90 (.agg (baseV X)) 3).run prog w = .ok (.pointer (some ⟨X.b, 0, none⟩)) w := by kernel_rfl
def pairZ : Array Value := #[.slice none 0 0, .slice none 0 0]
theorem pair2 : (prog.info? 26).map (·.size) = some 2 := by kernel_rfl
theorem set4 : (prog.info? 49).map (·.size) = some 4 := by kernel_rfl
theorem fmt_cl {w : World} {X Y : BaseR} {n x c : Nat} {key : List Nat} (hN : NewOf n x c key X) (hinj : ∀ (BL : List Bl) (nb : Nat), nb = leavesN n -> BL.map (·.2) = blankTs n x key (c + 2) -> ∀ u ∈ cntTs BL nb, ∀ v ∈ cntTs BL nb, sumN u = sumN v -> u = v) (hF : FmtOf X Y) (h : BaseAt w Y) : ∃ E TS, Bk w X.b X.tb X.mb none E TS := by
 obtain ⟨h1, h2, h3, h4, h5, h6, h7, h8⟩ := hN
 obtain ⟨av, N, M, R, cl, E, BL, nb, hnb, rfl, hT, _, _, _⟩ := hF
 have hb := h.bk
 have hcl : cl = none := hb.cls (by
  show ∀ u ∈ X.TS ++ cntTs BL nb, ∀ v ∈ X.TS ++ cntTs BL nb, sumN u = sumN v -> u = v
  rw [h6, List.nil_append]
  exact hinj BL nb (by rw [hnb, h1]) (by rw [hT, h1, h2, h3, h4]))
 have hb2 : Bk w X.b X.tb X.mb cl E (X.TS ++ cntTs BL nb) := hb
 rw [hcl] at hb2;exact ⟨_, _, hb2⟩
theorem find0_c {n x c : Nat} (key : List Nat) (gk o cap : Nat) (a : Option Addr) (ac g c1 : Nat) (hg : geoB n x = true) (hkl : key.length = 16) (hkb : ∀ x ∈ key, x < 256) (hcap : key.length <= cap) (hc : c + 2 < 18446744073709551616)
  (hinj : ∀ (BL : List Bl) (nb : Nat), nb = leavesN n -> BL.map (·.2) = blankTs n x key (c + 2) -> ∀ u ∈ cntTs BL nb, ∀ v ∈ cntTs BL nb, sumN u = sumN v -> u = v)
  (w : World) (hgk : gk < w.heap.size) (hk : ∀ j, j < key.length -> w.cell? ⟨gk, o + j, none⟩ = some (.int .u8 ((key.getD j 0 : Nat) : Int))) (hgl : g < w.heap.size) (hr : ∀ j v, (fmtA a ac)[j]? = some v -> w.cell? ⟨g, j, none⟩ = some v) :
  Calls prog 15 #[.agg (setA n x (.slice (some ⟨gk, o, none⟩) key.length cap) c), .slice (some ⟨g, 0, none⟩) 1 c1] w fun r w' => r = .returned (.tuple #[.agg pairZ, .bool false, .int .i64 0]) /\ Below w.heap.size w w' := by
 obtain ⟨SA, hSA⟩ : ∃ SA, SA = setA n x (.slice (some ⟨gk, o, none⟩) key.length cap) c := ⟨_, rfl⟩
 obtain ⟨w1, hw1⟩ : ∃ w1, w1 = w.alloc (.cells SA 49) := ⟨_, rfl⟩
 have hx1 := heap_new' w (.cells SA 49)
 have hb1 : Below w.heap.size w w1 := by rw [hw1]; exact below_box _ _
 have hs1 : w1.heap.size = w.heap.size + 1 := by rw [hw1, World.size_alloc]
 rw [<- hw1] at hx1;obtain ⟨w2, hw2⟩ : ∃ w2, w2 = w1.alloc (.cells pairZ 26) := ⟨_, rfl⟩
 have hb2 : Below w.heap.size w w2 := by rw [hw2]; exact below_al hb1 _
 obtain ⟨q, hq⟩ : ∃ q, q = w1.heap.size := ⟨_, rfl⟩
 have h0 : w2.heap[w.heap.size]? = some (.cells SA 49 (0, 0)) := by rw [hw2]; exact ((below_box _ _).block _ (lt_blk hx1)).trans hx1
 have h1 : w2.heap[q]? = some (.cells pairZ 26 (0, 0)) := by rw [hw2, hq]; exact heap_new' _ _
 have HPN := Lib.hid (playNew_c (c := c) key gk o cap hg hkl hkb hcap w2 (Nat.lt_of_lt_of_le hgk hb2.size) (fun j hj => (hb2.cell (p := ⟨gk, o + j, none⟩) hgk).trans (hk j hj)))
 have HR := Lib.hid (fun (w' : World) (hb : Below w.heap.size w w') (j : Nat) (v : Value) (hv : (fmtA a ac)[j]? = some v) => (hb.cell (p := ⟨g, j, none⟩) hgl).trans (hr j v hv))
 have HGL := Lib.hid hgl;have HSZ : Hid (SA.size = 4) := Lib.hid (by rw [hSA]; rfl)
 rw [<- hSA] at HPN ⊢
 have HINJ := Lib.hid hinj;have HC := Lib.hid hc;have HX := Lib.hid h0;have HQ := Lib.hid h1;have HB2 := Lib.hid hb2;have HQE : Hid (w.heap.size + 1 = q /\ w.heap.size <= q) := Lib.hid ⟨by omega, by omega⟩
 have HW2 : Hid (w2 = w1.alloc (.cells #[.slice none 0 0, .slice none 0 0] 26)) := Lib.hid hw2
 clear hx1 hb1 hs1 hw2 hb2 hq h0 h1 hSA hg hkl hkb hcap hc hinj hgk hk hgl hr
 go_enter func15, ntmps15
 go_upto_region 1 with fail
 rw [<- hw1, HQE.out.1, <- HW2.out]
 clear hw1 HW2;go_wp2_with (first
  | (refine wpList_load_row rfl 49 (.tmp 2) rfl w.heap.size rfl _ _ _ _ HX.out underlying49 rfl (by rw [HSZ.out]; exact set4) ?_)
  | fail)
 refine HPN.out.mono ?_
 rintro r w3 ⟨wd, rfl, X, hp, hwd, hhp, hbase, hnew, hS, _, _, hn1, hn2, _, hb3⟩
 have HQ3 : Hid (w3.heap[q]? = some (.cells pairZ 26 (0, 0))) := (hb3.block _ (lt_blk HQ.out)).trans HQ.out
 have HB3 : Hid (Below w.heap.size w w3) := HB2.out.trans (hb3.mono HB2.out.size)
 have HLT3 : Hid (q < w2.heap.size /\ w.heap.size <= w2.heap.size) := Lib.hid ⟨lt_blk HQ.out, HB2.out.size⟩
 have HRUN := Lib.hid (run0_c (X := X) (wd := wd) (hp := hp) a ac g c1 (by rw [hnew.2.2.1]; exact HC.out) (by rw [hnew.2.2.2.2.1]; exact fun y hy => (by cases hy)) w3 hbase hwd hhp (Nat.lt_of_lt_of_le HGL.out HB3.out.size) (fun j v hv => HR.out w3 HB3.out j v hv))
 have HWD := Lib.hid hwd;have HN := Lib.hid hnew;have HS := Lib.hid hS;have HNW := Lib.hid hn1;clear hwd hhp hbase hnew hS hn1 hn2 hb3 HPN HX HQ HB2 HR HGL;go_wp2_with fail
 refine HRUN.out.mono ?_
 rintro r w4 ⟨⟨v4, rfl⟩, Y, hto, hf⟩
 have hqS : ∀ k, k = q -> ¬ X.S k := fun k e hk => by have := HS.out k hk; have := HLT3.out; omega
 have hq4 := (hto.keep (On.block HQ3.out) hqS).1.holds
 have hw4 := (hto.keep (On.block HWD.out) (fun k e hk => HNW.out (e ▸ hk))).1.holds
 have HQ4 : Hid (w4.heap[q]? = some (.cells pairZ 26 (0, 0))) := Lib.hid hq4
 have HB4 : Hid (Below w.heap.size w w4) := HB3.out.trans (hto.chg.below HB3.out.size (fun k hk => Nat.le_trans HLT3.out.2 (HS.out k hk)))
 have HWB := Lib.hid (wBase_c w4 hw4)
 have hbk := fmt_cl HN.out HINJ.out hf hto.at'
 obtain ⟨E, TS, hbk⟩ := hbk
 have HBK := Lib.hid hbk;clear hto hf hqS hq4 hw4 hbk HRUN HQ3 HB3 HINJ;go_wp2_with fail
 refine HWB.out.mono ?_
 rintro r w5 ⟨rfl, hb5⟩
 have HB5 : Hid (Below w.heap.size w w5) := HB4.out.trans (hb5.mono HB4.out.size)
 have HQ5 : Hid (w5.heap[q]? = some (.cells pairZ 26 (0, 0))) := (hb5.block _ (lt_blk HQ4.out)).trans HQ4.out
 have HCL := Lib.hid (clash0_c w5 (HBK.out.on.below hb5).holds)
 have HFB := Lib.hid (field_base3 X w5)
 obtain ⟨B, hBB⟩ : ∃ B, B = baseV X := ⟨_, rfl⟩
 rw [<- hBB] at HFB ⊢
 clear hb5 HWB HB4 HQ4 HBK hBB;go_wp2_with (first
  | (refine wpList_field_run rfl 90 (.tmp 26) 3 rfl rfl HFB.out ?_)
  | fail)
 refine HCL.out.mono ?_
 rintro r w6 ⟨rfl, hb6⟩
 have HB6 : Hid (Below w.heap.size w w6) := HB5.out.trans (hb6.mono HB5.out.size)
 have HQ6 : Hid (w6.heap[q]? = some (.cells pairZ 26 (0, 0))) := (hb6.block _ (lt_blk HQ5.out)).trans HQ5.out
 clear hb6 HB5 HQ5 HCL HFB;go_wp2_with (first
  | (refine wpList_store_row rfl 26 (.tmp 4) (.tmp 34) rfl q pairZ rfl rfl 26 pairZ HQ6.out pair2 rfl (by rw [<- Array.all_toList]; simp [pairZ, Value.oneCell']) ?_)
  | fail)
 exact bodyPost_ret (results_row_tmp2 rfl _ _ q 26 pairZ (0, 0) _ rfl (setRow_heap _ _ _ _ _ _ HQ6.out) underlying26 rfl pair2) rfl ⟨rfl, below_setRow HB6.out HQE.out.2 _⟩
open GfM
def opsPnX : {o : Array Oper // some o = (Tryz.f31.body.bind (Fre.findR 1))} := ⟨_, rfl⟩
theorem fitPnX : Fre.fit .any opsPnX.1 55 = true := by kernel_rfl
theorem sizePnX : opsPnX.1.size = 9 := by kernel_rfl
def VPnX (gs n x cn kl kc : Nat) (ka : Option Addr) (i : Nat) (v : Value) (w : World) : Prop := match i with
 | 0 => ∃ b, v = .pointer (some ⟨b, 0, none⟩)
 | 1 => v = .pointer (some ⟨gs, 2, none⟩)
 | 2 => v = .slice ka kl kc
 | 3 => v = .tuple #[.pointer none, .int .i64 1]
 | 4 => v = .tuple #[.pointer none, .int .i64 1]
 | 5 => v = .pointer none
 | 6 => v = .int .i64 1
 | 7 => v = .pointer none
 | 8 => v = .int .i64 1
 | _ => True
section
variable {u0 u2 u3 u4 u5 u6 u7 u8 u9 u10 u11 u12 u13 u14 u15 u16 u17 u18 u19 u20 u21 u22 u23 u24 u25 u26 u27 u28 u29 u30 u31 u32 u33 u34 u35 u36 u37 u38 u39 u40 u41 u42 u43 u44 u45 u46 u47 u48 u49 u50 u51 u52 u53 u54 : Value}
theorem kpPnX (gs n x cn kl kc : Nat) (ka : Option Addr) : ∀ j v w w', j < opsPnX.1.size -> VPnX gs n x cn kl kc ka j v w -> Fre.Kept w w' -> VPnX gs n x cn kl kc ka j v w' := by
 intro j v w w' hj h hs
 rw [sizePnX] at hj;rcases cs9 hj with rfl | rfl | rfl | rfl | rfl | rfl | rfl | rfl | rfl <;> exact h
variable {gs n x cn kl kc : Nat} {ka : Option Addr} {a0 : Act} {w0 : World} (h0 : w0.heap[gs]? = some (.cells (setA n x (.slice ka kl kc) cn) 49 (0, 0))) (hk1 : kl ≠ 16) (hk2 : kl ≠ 32)
include h0 hk1 hk2
theorem stPnX_0 : Fre.StepB prog opsPnX.1 a0 w0 (VPnX gs n x cn kl kc ka) Fre.Kept 0 := by
 rintro E w hc hf hE hV hN hS _ ⟨⟩
 simp only [opsPnX, gA, gS, gZ]
 refine Fre.Does.enter (f := 44) (args := #[]) (w' := w) ?_ ((newbox_c w).mono ?_)
 ·go_simp
 ·rintro e w' ⟨rfl, h1, h2, hk'⟩
  exact ⟨_, rfl, ⟨_, rfl⟩, hk'⟩
theorem stPnX_1 (g91 : a0.tmps.getD 1 undef = .pointer (some ⟨gs, 0, none⟩)) : Fre.StepB prog opsPnX.1 a0 w0 (VPnX gs n x cn kl kc ka) Fre.Kept 1 := by
 rintro E w hc hf hE hV hN hS _ ⟨⟩
 simp only [opsPnX, gA, gS, gZ]
 have b1 : E (.tmp 1) = .pointer (some ⟨gs, 0, none⟩) := (hE 1 (by kernel_rfl)).trans g91
 clear g91;refine Fre.dv (v := .pointer (some ⟨gs, 2, none⟩)) ?_
 go_simp
theorem stPnX_2 : Fre.StepB prog opsPnX.1 a0 w0 (VPnX gs n x cn kl kc ka) Fre.Kept 2 := by
 rintro E w hc hf hE hV hN hS _ ⟨⟩
 simp only [opsPnX, gA, gS, gZ]
 have d1 : E (.tmp 11) = .pointer (some ⟨gs, 2, none⟩) := hV 1 11 (by kernel_rfl) (by kernel_rfl)
 have c0 : w.cell? ⟨gs, 2, none⟩ = some (.slice ka kl kc) := by rw [cells_at ((hS.block gs (lt_blk h0)).trans h0) 2]; rfl
 refine Fre.dv (v := .slice ka kl kc) ?_
 go_simp
theorem stPnX_3 : Fre.StepB prog opsPnX.1 a0 w0 (VPnX gs n x cn kl kc ka) Fre.Kept 3 := by
 rintro E w hc hf hE hV hN hS _ ⟨⟩
 simp only [opsPnX, gA, gS, gZ]
 have d0 := hV 0 10 (by kernel_rfl) (by kernel_rfl)
 replace d0 : (fun v : Value => ∃ b, v = .pointer (some ⟨b, 0, none⟩)) (E (.tmp 10)) := d0
 simp only at d0
 have d2 : E (.tmp 12) = .slice ka kl kc := hV 2 12 (by kernel_rfl) (by kernel_rfl)
 obtain ⟨b, d0⟩ := d0
 refine Fre.Does.enter (f := 43) (args := #[.pointer (some ⟨b, 0, none⟩), .slice ka kl kc]) (w' := w) ?_ ((new_bad ⟨b, 0, none⟩ ka kl kc hk1 hk2 w).mono ?_)
 ·go_simp
 ·rintro e w' ⟨rfl, rfl⟩
  exact ⟨_, rfl, rfl, Fre.Kept.refl _⟩
theorem stPnX_4 : Fre.StepB prog opsPnX.1 a0 w0 (VPnX gs n x cn kl kc ka) Fre.Kept 4 := by
 rintro E w hc hf hE hV hN hS _ ⟨⟩
 simp only [opsPnX, gA, gS, gZ]
 have d3 : E (.tmp 13) = .tuple #[.pointer none, .int .i64 1] := hV 3 13 (by kernel_rfl) (by kernel_rfl)
 refine Fre.dv (v := .tuple #[.pointer none, .int .i64 1]) ?_
 go_simp
theorem stPnX_5 : Fre.StepB prog opsPnX.1 a0 w0 (VPnX gs n x cn kl kc ka) Fre.Kept 5 := by
 rintro E w hc hf hE hV hN hS _ ⟨⟩
 simp only [opsPnX, gA, gS, gZ]
 have d4 : E (.tmp 9) = .tuple #[.pointer none, .int .i64 1] := hV 4 9 (by kernel_rfl) (by kernel_rfl)
 refine Fre.dv (v := .pointer none) ?_
 go_simp
theorem stPnX_6 : Fre.StepB prog opsPnX.1 a0 w0 (VPnX gs n x cn kl kc ka) Fre.Kept 6 := by
 rintro E w hc hf hE hV hN hS _ ⟨⟩
 simp only [opsPnX, gA, gS, gZ]
 have d4 : E (.tmp 9) = .tuple #[.pointer none, .int .i64 1] := hV 4 9 (by kernel_rfl) (by kernel_rfl)
 refine Fre.dv (v := .int .i64 1) ?_
 go_simp
theorem stPnX_7 : Fre.StepB prog opsPnX.1 a0 w0 (VPnX gs n x cn kl kc ka) Fre.Kept 7 := by
 rintro E w hc hf hE hV hN hS _ ⟨⟩
 simp only [opsPnX, gA, gS, gZ]
 have d5 : E (.tmp 14) = .pointer none := hV 5 14 (by kernel_rfl) (by kernel_rfl)
 refine Fre.dv (v := .pointer none) ?_
 go_simp
theorem stPnX_8 : Fre.StepB prog opsPnX.1 a0 w0 (VPnX gs n x cn kl kc ka) Fre.Kept 8 := by
 rintro E w hc hf hE hV hN hS _ ⟨⟩
 simp only [opsPnX, gA, gS, gZ]
 have d6 : E (.tmp 15) = .int .i64 1 := hV 6 15 (by kernel_rfl) (by kernel_rfl)
 refine Fre.dv (v := .int .i64 1) ?_
 go_simp
variable (gs n x cn kl kc ka w0)
theorem regionPnX {QQ : Exit -> Act -> World -> Prop} (hQ : ∀ (vs : Nat -> Value) w, (∀ j, j < 9 -> VPnX gs n x cn kl kc ka j (vs j) w) -> Fre.Kept w0 w -> QQ .normal ⟨#[u0, .pointer (some ⟨gs, 0, none⟩), u2, u3, vs 7, vs 8, u6, u7, u8, vs 4, vs 0, vs 1, vs 2, vs 3, vs 5, vs 6, u16, u17, u18, u19, u20, u21, u22, u23, u24, u25, u26, u27, u28, u29, u30, u31, u32, u33, u34, u35, u36, u37, u38, u39, u40, u41, u42, u43, u44, u45, u46, u47, u48, u49, u50, u51, u52, u53, u54], []⟩ w) : (Code.region 1 opsPnX.1 true).wp prog QQ ⟨#[u0, .pointer (some ⟨gs, 0, none⟩), u2, u3, u4, u5, u6, u7, u8, u9, u10, u11, u12, u13, u14, u15, u16, u17, u18, u19, u20, u21, u22, u23, u24, u25, u26, u27, u28, u29, u30, u31, u32, u33, u34, u35, u36, u37, u38, u39, u40, u41, u42, u43, u44, u45, u46, u47, u48, u49, u50, u51, u52, u53, u54], []⟩ w0 := by
 refine Fre.region_kept 55 (by kernel_rfl) fitPnX rfl (VPnX gs n x cn kl kc ka) (kpPnX gs n x cn kl kc ka) (fun i hi => ?_) (fun vs w h1 h2 => ?_)
 case refine_2 =>
  have h9 := hQ vs w (fun j hj => h1 j (by rw [sizePnX]; exact hj)) h2
  exact Fre.fe (p := fun t => QQ .normal ⟨t, []⟩ w) h9 (by kernel_rfl)
 rw [sizePnX] at hi;rcases cs9 hi with rfl | rfl | rfl | rfl | rfl | rfl | rfl | rfl | rfl
 ·exact stPnX_0 h0 hk1 hk2
 ·exact stPnX_1 h0 hk1 hk2 rfl
 ·exact stPnX_2 h0 hk1 hk2
 ·exact stPnX_3 h0 hk1 hk2
 ·exact stPnX_4 h0 hk1 hk2
 ·exact stPnX_5 h0 hk1 hk2
 ·exact stPnX_6 h0 hk1 hk2
 ·exact stPnX_7 h0 hk1 hk2
 ·exact stPnX_8 h0 hk1 hk2
end
theorem playNewX_c {n x c kl kc : Nat} (ka : Option Addr) (hk1 : kl ≠ 16) (hk2 : kl ≠ 32) (w : World) :
  Calls prog 31 #[.agg (setA n x (.slice ka kl kc) c)] w fun r w' => r = .returned (.tuple #[.pointer none, .int .i64 1]) /\ Below w.heap.size w w' := by
 obtain ⟨SA, hSA⟩ : ∃ SA, SA = setA n x (.slice ka kl kc) c := ⟨_, rfl⟩
 obtain ⟨w1, hw1⟩ : ∃ w1, w1 = w.alloc (.cells SA 49) := ⟨_, rfl⟩
 have hx1 := heap_new' w (.cells SA 49)
 have hb1 : Below w.heap.size w w1 := by rw [hw1]; exact below_box _ _
 rw [<- hw1] at hx1;have HX1 : Hid (w1.heap[w.heap.size]? = some (.cells (setA n x (.slice ka kl kc) c) 49 (0, 0))) := by rw [<- hSA]; exact hx1
 have HB1 := Lib.hid hb1;have HK := Lib.hid (And.intro hk1 hk2)
 rw [<- hSA];clear hSA hx1 hb1 hk1 hk2
 go_enter func31, ntmps31
 go_upto_region 1 with fail
 rw [<- hw1];clear hw1;refine regionPnX w.heap.size n x c kl kc ka w1 HX1.out HK.out.1 HK.out.2 ?_
 intro vs w2 hv hkp;have e7 : vs 7 = .pointer none := hv 7 (by omega)
 have e8 : vs 8 = .int .i64 1 := hv 8 (by omega)
 generalize vs 7 = x7 at e7
 generalize vs 8 = x8 at e8
 subst e7 e8
 have HB2 : Hid (Below w.heap.size w w2) := HB1.out.trans (hkp.mono HB1.out.size)
 clear hv hkp HX1 HB1;go_wp2
 go_ret2
 exact ⟨rfl, HB2.out⟩
theorem findX_c {n x c kl kc : Nat} (ka : Option Addr) (hk1 : kl ≠ 16) (hk2 : kl ≠ 32) (lv : Value) (w : World) :
  Calls prog 15 #[.agg (setA n x (.slice ka kl kc) c), lv] w fun r w' => r = .returned (.tuple #[.agg pairZ, .bool false, .int .i64 1]) /\ Below w.heap.size w w' := by
 have HP := Lib.hid (fun w => playNewX_c (n := n) (x := x) (c := c) (kc := kc) ka hk1 hk2 w)
 obtain ⟨SA, hSA⟩ : ∃ SA, SA = setA n x (.slice ka kl kc) c := ⟨_, rfl⟩
 rw [<- hSA] at HP ⊢
 have HSZ : Hid (SA.size = 4) := Lib.hid (by rw [hSA]; rfl)
 obtain ⟨w1, hw1⟩ : ∃ w1, w1 = w.alloc (.cells SA 49) := ⟨_, rfl⟩
 have hx1 := heap_new' w (.cells SA 49)
 have hb1 : Below w.heap.size w w1 := by rw [hw1]; exact below_box _ _
 have hs1 : w1.heap.size = w.heap.size + 1 := by rw [hw1, World.size_alloc]
 rw [<- hw1] at hx1;obtain ⟨w2, hw2⟩ : ∃ w2, w2 = w1.alloc (.cells pairZ 26) := ⟨_, rfl⟩
 have hb2 : Below w.heap.size w w2 := by rw [hw2]; exact below_al hb1 _
 obtain ⟨q, hq⟩ : ∃ q, q = w1.heap.size := ⟨_, rfl⟩
 have h0 : w2.heap[w.heap.size]? = some (.cells SA 49 (0, 0)) := by rw [hw2]; exact ((below_box _ _).block _ (lt_blk hx1)).trans hx1
 have h1 : w2.heap[q]? = some (.cells pairZ 26 (0, 0)) := by rw [hw2, hq]; exact heap_new' _ _
 have HW2 : Hid (w2 = w1.alloc (.cells #[.slice none 0 0, .slice none 0 0] 26)) := Lib.hid hw2
 have HQE : Hid (w.heap.size + 1 = q /\ w.heap.size <= q) := Lib.hid ⟨by omega, by omega⟩
 have HX := Lib.hid h0;have HQ := Lib.hid h1;have HB2 := Lib.hid hb2;clear hSA hx1 hb1 hs1 hw2 hb2 hq h0 h1
 go_enter func15, ntmps15
 go_upto_region 1 with fail
 rw [<- hw1, HQE.out.1, <- HW2.out]
 clear hw1 HW2;go_wp2_with (first
  | (refine wpList_load_row rfl 49 (.tmp 2) rfl w.heap.size rfl _ _ _ _ HX.out underlying49 rfl (by rw [HSZ.out]; exact set4) ?_)
  | fail)
 refine (HP.out _).mono ?_
 rintro r w3 ⟨rfl, hb3⟩
 have HQ3 : Hid (w3.heap[q]? = some (.cells pairZ 26 (0, 0))) := (hb3.block _ (lt_blk HQ.out)).trans HQ.out
 have HB3 : Hid (Below w.heap.size w w3) := HB2.out.trans (hb3.mono HB2.out.size)
 clear hb3 HP HX HQ HB2;go_wp2_with (first
  | (refine wpList_store_row rfl 26 (.tmp 4) (.tmp 19) rfl q pairZ rfl rfl 26 pairZ HQ3.out pair2 rfl (by rw [<- Array.all_toList]; simp [pairZ, Value.oneCell']) ?_)
  | fail)
 exact bodyPost_ret (results_row_tmp2 rfl _ _ q 26 pairZ (0, 0) _ rfl (setRow_heap _ _ _ _ _ _ HQ3.out) underlying26 rfl pair2) rfl ⟨rfl, below_setRow HB3.out HQE.out.2 _⟩
def sactE (p : Option Addr × Nat) : List Value := (fmtA p.1 p.2).toList
theorem sactRT : RowTy prog (fun p : Option Addr × Nat => .agg (fmtA p.1 p.2)) sactE 7 72 50 93 :=
 ⟨underlying50, ⟨.agg (fmtA none 0), by kernel_rfl, rfl⟩, fun x => rfl, fun x => rfl, fun x v hv => by simp [sactE, fmtA] at hv; rcases hv with rfl | rfl | rfl | rfl | rfl | rfl | rfl <;> rfl, by decide⟩
theorem built_fmt (a : Option Addr) (c : Nat) : prog.built 93 [(0, .int .i64 0), (1, .bool false), (2, .int .i64 0), (3, .int .i64 0), (4, .int .i64 0), (5, .int .i64 0), (6, .slice a 0 c)] = some (fmtA a c) := by kernel_rfl
theorem app00 (base : Option Addr) (sCap : Nat) (w : World) : (Builtin.append_ #[22, 22] 22 #[.slice base 0 sCap, .slice none 0 0]).run prog w = .ok (.slice base 0 sCap) w := by
 obtain ⟨i8, hi8⟩ := u8some
 cases base <;> simp [Builtin.append_, run_underlying underlying22, sizeOf, typeInfo, hi8, storeCells, Builtin.lenOf, Builtin.firstCells]
theorem ract7 : (prog.info? 53).map (·.size) = some 7 := by kernel_rfl
def opsWou : {o : Array Oper // some o = (Tryz.f17.body.bind (Fre.findR 5))} := ⟨_, rfl⟩
theorem fitWou : Fre.fit .any opsWou.1 34 = true := by kernel_rfl
theorem sizeWou : opsWou.1.size = 21 := by kernel_rfl
def VWou (p : Nat) (i : Nat) (v : Value) (w : World) : Prop := match i with
 | 0 => v = .slice none 0 0
 | 1 => v = .pointer (some ⟨p, 0, none⟩)
 | 2 => v = .int .i64 0
 | 3 => v = .pointer (some ⟨p, 1, none⟩)
 | 4 => v = .bool false
 | 5 => v = .pointer (some ⟨p, 2, none⟩)
 | 6 => v = .int .i64 0
 | 7 => v = .pointer (some ⟨p, 3, none⟩)
 | 8 => v = .int .i64 0
 | 9 => v = .pointer (some ⟨p, 4, none⟩)
 | 10 => v = .int .i64 0
 | 11 => v = .pointer (some ⟨p, 5, none⟩)
 | 12 => v = .int .i64 0
 | 13 => ∃ q, v = .slice (some ⟨q, 0, none⟩) 0 0 /\ w.heap[q]? = some (.cells #[] 5 (0, 0))
 | 14 => v = .pointer (some ⟨p, 6, none⟩)
 | 15 => v = .slice none 0 0
 | 16 => ∃ a c, v = .slice a 0 c
 | 17 => ∃ a c, v = .agg (fmtA a c)
 | 18 => ∃ q a c, v = .slice (some ⟨q, 0, none⟩) 1 1 /\ w.heap[q]? = some (.cells (fmtA a c) 93 (0, 0))
 | 19 => ∃ q c1 a c, v = .slice (some ⟨q, 0, none⟩) 1 c1 /\ q < w.heap.size /\ ∀ (j : Nat) (x : Value), (fmtA a c)[j]? = some x -> w.cell? ⟨q, j, none⟩ = some x
 | 20 => ∃ q c1 a c, v = .slice (some ⟨q, 0, none⟩) 1 c1 /\ q < w.heap.size /\ ∀ (j : Nat) (x : Value), (fmtA a c)[j]? = some x -> w.cell? ⟨q, j, none⟩ = some x
 | _ => True
section
variable {u0 u1 u2 u4 u6 u7 u8 u9 u10 u11 u12 u13 u14 u15 u16 u17 u18 u19 u20 u21 u22 u23 u24 u25 u26 u27 u28 u29 u30 u31 u32 u33 : Value}
theorem kpWou (p : Nat) : ∀ j v w w', j < opsWou.1.size -> VWou p j v w -> Fre.Kept w w' -> VWou p j v w' := by
 intro j v w w' hj h hs
 rw [sizeWou] at hj;rcases cs21 hj with rfl | rfl | rfl | rfl | rfl | rfl | rfl | rfl | rfl | rfl | rfl | rfl | rfl | rfl | rfl | rfl | rfl | rfl | rfl | rfl | rfl
 any_goals exact h
 ·change ∃ q, v = .slice (some ⟨q, 0, none⟩) 0 0 /\ w.heap[q]? = some (.cells #[] 5 (0, 0)) at h
  obtain ⟨q, h1, h2⟩ := h
  exact ⟨q, h1, (hs.block _ (lt_blk h2)).trans h2⟩
 ·change ∃ q a c, v = .slice (some ⟨q, 0, none⟩) 1 1 /\ w.heap[q]? = some (.cells (fmtA a c) 93 (0, 0)) at h
  obtain ⟨q, a, c, h1, h2⟩ := h
  exact ⟨q, a, c, h1, (hs.block _ (lt_blk h2)).trans h2⟩
 ·change ∃ q c1 a c, v = .slice (some ⟨q, 0, none⟩) 1 c1 /\ q < w.heap.size /\ ∀ (j : Nat) (x : Value), (fmtA a c)[j]? = some x -> w.cell? ⟨q, j, none⟩ = some x at h
  obtain ⟨q, c1, a, c, h1, h2, h3⟩ := h
  exact ⟨q, c1, a, c, h1, Nat.lt_of_lt_of_le h2 hs.size, fun j x hx => (hs.cell (p := ⟨q, j, none⟩) h2).trans (h3 j x hx)⟩
 ·change ∃ q c1 a c, v = .slice (some ⟨q, 0, none⟩) 1 c1 /\ q < w.heap.size /\ ∀ (j : Nat) (x : Value), (fmtA a c)[j]? = some x -> w.cell? ⟨q, j, none⟩ = some x at h
  obtain ⟨q, c1, a, c, h1, h2, h3⟩ := h
  exact ⟨q, c1, a, c, h1, Nat.lt_of_lt_of_le h2 hs.size, fun j x hx => (hs.cell (p := ⟨q, j, none⟩) h2).trans (h3 j x hx)⟩
variable {p : Nat} {a0 : Act} {w0 : World} (h0 : w0.heap[p]? = some (.cells (fmtA none 0) 53 (0, 0)))
include h0
theorem stWou_0 (g93 : a0.tmps.getD 3 undef = .slice none 0 0) : Fre.StepOB prog opsWou.1 a0 w0 (VWou p) Fre.Kept 0 := by
 rintro E w hc hf hE hV hN hS _ ⟨⟩
 simp only [opsWou, gA, gS, gZ]
 have b3 : E (.tmp 3) = .slice none 0 0 := (hE 3 (by kernel_rfl)).trans g93
 clear g93;refine Fre.dv (v := .slice none 0 0) ?_
 go_simp
theorem stWou_1 (g95 : a0.tmps.getD 5 undef = .pointer (some ⟨p, 0, none⟩)) : Fre.StepOB prog opsWou.1 a0 w0 (VWou p) Fre.Kept 1 := by
 rintro E w hc hf hE hV hN hS _ ⟨⟩
 simp only [opsWou, gA, gS, gZ]
 have b5 : E (.tmp 5) = .pointer (some ⟨p, 0, none⟩) := (hE 5 (by kernel_rfl)).trans g95
 clear g95;refine Fre.dv (v := .pointer (some ⟨p, 0, none⟩)) ?_
 go_simp
theorem stWou_2 : Fre.StepOB prog opsWou.1 a0 w0 (VWou p) Fre.Kept 2 := by
 rintro E w hc hf hE hV hN hS _ ⟨⟩
 simp only [opsWou, gA, gS, gZ]
 have d1 : E (.tmp 13) = .pointer (some ⟨p, 0, none⟩) := hV 1 13 (by kernel_rfl) (by kernel_rfl)
 have c0 : w.cell? ⟨p, 0, none⟩ = some (.int .i64 0) := by rw [cells_at ((hS.block p (lt_blk h0)).trans h0) 0]; rfl
 refine Fre.dv (v := .int .i64 0) ?_
 go_simp
theorem stWou_3 (g95 : a0.tmps.getD 5 undef = .pointer (some ⟨p, 0, none⟩)) : Fre.StepOB prog opsWou.1 a0 w0 (VWou p) Fre.Kept 3 := by
 rintro E w hc hf hE hV hN hS _ ⟨⟩
 simp only [opsWou, gA, gS, gZ]
 have b5 : E (.tmp 5) = .pointer (some ⟨p, 0, none⟩) := (hE 5 (by kernel_rfl)).trans g95
 clear g95;refine Fre.dv (v := .pointer (some ⟨p, 1, none⟩)) ?_
 go_simp
theorem stWou_4 : Fre.StepOB prog opsWou.1 a0 w0 (VWou p) Fre.Kept 4 := by
 rintro E w hc hf hE hV hN hS _ ⟨⟩
 simp only [opsWou, gA, gS, gZ]
 have d3 : E (.tmp 15) = .pointer (some ⟨p, 1, none⟩) := hV 3 15 (by kernel_rfl) (by kernel_rfl)
 have c0 : w.cell? ⟨p, 1, none⟩ = some (.bool false) := by rw [cells_at ((hS.block p (lt_blk h0)).trans h0) 1]; rfl
 refine Fre.dv (v := .bool false) ?_
 go_simp
theorem stWou_5 (g95 : a0.tmps.getD 5 undef = .pointer (some ⟨p, 0, none⟩)) : Fre.StepOB prog opsWou.1 a0 w0 (VWou p) Fre.Kept 5 := by
 rintro E w hc hf hE hV hN hS _ ⟨⟩
 simp only [opsWou, gA, gS, gZ]
 have b5 : E (.tmp 5) = .pointer (some ⟨p, 0, none⟩) := (hE 5 (by kernel_rfl)).trans g95
 clear g95;refine Fre.dv (v := .pointer (some ⟨p, 2, none⟩)) ?_
 go_simp
theorem stWou_6 : Fre.StepOB prog opsWou.1 a0 w0 (VWou p) Fre.Kept 6 := by
 rintro E w hc hf hE hV hN hS _ ⟨⟩
 simp only [opsWou, gA, gS, gZ]
 have d5 : E (.tmp 17) = .pointer (some ⟨p, 2, none⟩) := hV 5 17 (by kernel_rfl) (by kernel_rfl)
 have c0 : w.cell? ⟨p, 2, none⟩ = some (.int .i64 0) := by rw [cells_at ((hS.block p (lt_blk h0)).trans h0) 2]; rfl
 refine Fre.dv (v := .int .i64 0) ?_
 go_simp
theorem stWou_7 (g95 : a0.tmps.getD 5 undef = .pointer (some ⟨p, 0, none⟩)) : Fre.StepOB prog opsWou.1 a0 w0 (VWou p) Fre.Kept 7 := by
 rintro E w hc hf hE hV hN hS _ ⟨⟩
 simp only [opsWou, gA, gS, gZ]
 have b5 : E (.tmp 5) = .pointer (some ⟨p, 0, none⟩) := (hE 5 (by kernel_rfl)).trans g95
 clear g95;refine Fre.dv (v := .pointer (some ⟨p, 3, none⟩)) ?_
 go_simp
theorem stWou_8 : Fre.StepOB prog opsWou.1 a0 w0 (VWou p) Fre.Kept 8 := by
 rintro E w hc hf hE hV hN hS _ ⟨⟩
 simp only [opsWou, gA, gS, gZ]
 have d7 : E (.tmp 19) = .pointer (some ⟨p, 3, none⟩) := hV 7 19 (by kernel_rfl) (by kernel_rfl)
 have c0 : w.cell? ⟨p, 3, none⟩ = some (.int .i64 0) := by rw [cells_at ((hS.block p (lt_blk h0)).trans h0) 3]; rfl
 refine Fre.dv (v := .int .i64 0) ?_
 go_simp
theorem stWou_9 (g95 : a0.tmps.getD 5 undef = .pointer (some ⟨p, 0, none⟩)) : Fre.StepOB prog opsWou.1 a0 w0 (VWou p) Fre.Kept 9 := by
 rintro E w hc hf hE hV hN hS _ ⟨⟩
 simp only [opsWou, gA, gS, gZ]
 have b5 : E (.tmp 5) = .pointer (some ⟨p, 0, none⟩) := (hE 5 (by kernel_rfl)).trans g95
 clear g95;refine Fre.dv (v := .pointer (some ⟨p, 4, none⟩)) ?_
 go_simp
theorem stWou_10 : Fre.StepOB prog opsWou.1 a0 w0 (VWou p) Fre.Kept 10 := by
 rintro E w hc hf hE hV hN hS _ ⟨⟩
 simp only [opsWou, gA, gS, gZ]
 have d9 : E (.tmp 21) = .pointer (some ⟨p, 4, none⟩) := hV 9 21 (by kernel_rfl) (by kernel_rfl)
 have c0 : w.cell? ⟨p, 4, none⟩ = some (.int .i64 0) := by rw [cells_at ((hS.block p (lt_blk h0)).trans h0) 4]; rfl
 refine Fre.dv (v := .int .i64 0) ?_
 go_simp
theorem stWou_11 (g95 : a0.tmps.getD 5 undef = .pointer (some ⟨p, 0, none⟩)) : Fre.StepOB prog opsWou.1 a0 w0 (VWou p) Fre.Kept 11 := by
 rintro E w hc hf hE hV hN hS _ ⟨⟩
 simp only [opsWou, gA, gS, gZ]
 have b5 : E (.tmp 5) = .pointer (some ⟨p, 0, none⟩) := (hE 5 (by kernel_rfl)).trans g95
 clear g95;refine Fre.dv (v := .pointer (some ⟨p, 5, none⟩)) ?_
 go_simp
theorem stWou_12 : Fre.StepOB prog opsWou.1 a0 w0 (VWou p) Fre.Kept 12 := by
 rintro E w hc hf hE hV hN hS _ ⟨⟩
 simp only [opsWou, gA, gS, gZ]
 have d11 : E (.tmp 23) = .pointer (some ⟨p, 5, none⟩) := hV 11 23 (by kernel_rfl) (by kernel_rfl)
 have c0 : w.cell? ⟨p, 5, none⟩ = some (.int .i64 0) := by rw [cells_at ((hS.block p (lt_blk h0)).trans h0) 5]; rfl
 refine Fre.dv (v := .int .i64 0) ?_
 go_simp
theorem stWou_13 : Fre.StepOB prog opsWou.1 a0 w0 (VWou p) Fre.Kept 13 := by
 rintro E w hc hf hE hV hN hS _ ⟨⟩
 simp only [opsWou, gA, gS, gZ]
 refine Fre.Does.value (v := .slice (some ⟨w.heap.size, 0, none⟩) 0 0) (w' := w.alloc (.cells #[] 5)) ?_ ⟨⟨_, rfl, heap_new' _ _⟩, below_box _ _⟩
 go_simp
theorem stWou_14 (g95 : a0.tmps.getD 5 undef = .pointer (some ⟨p, 0, none⟩)) : Fre.StepOB prog opsWou.1 a0 w0 (VWou p) Fre.Kept 14 := by
 rintro E w hc hf hE hV hN hS _ ⟨⟩
 simp only [opsWou, gA, gS, gZ]
 have b5 : E (.tmp 5) = .pointer (some ⟨p, 0, none⟩) := (hE 5 (by kernel_rfl)).trans g95
 clear g95;refine Fre.dv (v := .pointer (some ⟨p, 6, none⟩)) ?_
 go_simp
theorem stWou_15 : Fre.StepOB prog opsWou.1 a0 w0 (VWou p) Fre.Kept 15 := by
 rintro E w hc hf hE hV hN hS _ ⟨⟩
 simp only [opsWou, gA, gS, gZ]
 have d14 : E (.tmp 26) = .pointer (some ⟨p, 6, none⟩) := hV 14 26 (by kernel_rfl) (by kernel_rfl)
 have c0 : w.cell? ⟨p, 6, none⟩ = some (.slice none 0 0) := by rw [cells_at ((hS.block p (lt_blk h0)).trans h0) 6]; rfl
 refine Fre.dv (v := .slice none 0 0) ?_
 go_simp
theorem stWou_16 : Fre.StepOB prog opsWou.1 a0 w0 (VWou p) Fre.Kept 16 := by
 rintro E w hc hf hE hV hN hS _ ⟨⟩
 simp only [opsWou, gA, gS, gZ]
 have d13 := hV 13 25 (by kernel_rfl) (by kernel_rfl)
 replace d13 : (fun v : Value => ∃ q, v = .slice (some ⟨q, 0, none⟩) 0 0 /\ w.heap[q]? = some (.cells #[] 5 (0, 0))) (E (.tmp 25)) := d13
 simp only at d13
 have d15 : E (.tmp 27) = .slice none 0 0 := hV 15 27 (by kernel_rfl) (by kernel_rfl)
 obtain ⟨q, d13, hq⟩ := d13
 have hr := app00 (some ⟨q, 0, none⟩) 0 w
 refine Fre.Does.value (v := .slice (some ⟨q, 0, none⟩) 0 0) (w' := w) ?_ ⟨⟨_, _, rfl⟩, Fre.Kept.refl _⟩
 go_simp
theorem stWou_17 : Fre.StepOB prog opsWou.1 a0 w0 (VWou p) Fre.Kept 17 := by
 rintro E w hc hf hE hV hN hS _ ⟨⟩
 simp only [opsWou, gA, gS, gZ]
 have d2 : E (.tmp 14) = .int .i64 0 := hV 2 14 (by kernel_rfl) (by kernel_rfl)
 have d4 : E (.tmp 16) = .bool false := hV 4 16 (by kernel_rfl) (by kernel_rfl)
 have d6 : E (.tmp 18) = .int .i64 0 := hV 6 18 (by kernel_rfl) (by kernel_rfl)
 have d8 : E (.tmp 20) = .int .i64 0 := hV 8 20 (by kernel_rfl) (by kernel_rfl)
 have d10 : E (.tmp 22) = .int .i64 0 := hV 10 22 (by kernel_rfl) (by kernel_rfl)
 have d12 : E (.tmp 24) = .int .i64 0 := hV 12 24 (by kernel_rfl) (by kernel_rfl)
 have d16 := hV 16 28 (by kernel_rfl) (by kernel_rfl)
 replace d16 : (fun v : Value => ∃ a c, v = .slice a 0 c) (E (.tmp 28)) := d16
 simp only at d16
 obtain ⟨a, c, d16⟩ := d16
 have hb2 := run_build (P := prog) w 93 #[(0, .int .i64 0), (1, .bool false), (2, .int .i64 0), (3, .int .i64 0), (4, .int .i64 0), (5, .int .i64 0), (6, .slice a 0 c)] _ (built_fmt a c)
 refine Fre.Does.value (v := .agg (fmtA a c)) (w' := w) ?_ ⟨⟨_, _, rfl⟩, Fre.Kept.refl _⟩
 unfold execOp;simp only [d2, d4, d6, d8, d10, d12, d16, List.map_toArray, List.map_cons, List.map_nil, Sem.run_bind, hb2, Result.andThen_ok]
 rfl
theorem stWou_18 : Fre.StepOB prog opsWou.1 a0 w0 (VWou p) Fre.Kept 18 := by
 rintro E w hc hf hE hV hN hS _ ⟨⟩
 simp only [opsWou, gA, gS, gZ]
 have d17 := hV 17 29 (by kernel_rfl) (by kernel_rfl)
 replace d17 : (fun v : Value => ∃ a c, v = .agg (fmtA a c)) (E (.tmp 29)) := d17
 simp only at d17
 obtain ⟨a, c, d17⟩ := d17
 refine Fre.Does.value (v := .slice (some ⟨w.heap.size, 0, none⟩) 1 1) (w' := w.alloc (.cells (fmtA a c) 93)) ?_ ⟨⟨_, _, _, rfl, heap_new' _ _⟩, below_box _ _⟩
 exact sactRT.run_build (w := w) E _ (by decide) (.tmp 29) rfl (p := (a, c)) d17
theorem stWou_19 : Fre.StepOB prog opsWou.1 a0 w0 (VWou p) Fre.Kept 19 := by
 rintro E w hc hf hE hV hN hS _ ⟨⟩
 simp only [opsWou, gA, gS, gZ]
 have d0 : E (.tmp 12) = .slice none 0 0 := hV 0 12 (by kernel_rfl) (by kernel_rfl)
 have d18 := hV 18 30 (by kernel_rfl) (by kernel_rfl)
 replace d18 : (fun v : Value => ∃ q a c, v = .slice (some ⟨q, 0, none⟩) 1 1 /\ w.heap[q]? = some (.cells (fmtA a c) 93 (0, 0))) (E (.tmp 30)) := d18
 simp only at d18
 obtain ⟨q, a, c, d18, hq⟩ := d18
 have hrow : RowK sactE 7 w (some ⟨q, 0, none⟩) [(a, c)] := rowK_one (fun _ => rfl) hq
 obtain ⟨v', w', hr, ho, hg, _⟩ := sactRT.run_append (w := w) 50 (base := w.heap.size) (n := 0) (v := .slice none 0 0) (L := []) ⟨rfl, .inl ⟨rfl, rfl⟩⟩ (a := some ⟨q, 0, none⟩) (m := 1) (cap := 1) (M := [(a, c)]) rfl hrow (fun h => by cases h) (by rintro _ ⟨⟩; rfl) (by decide) (by decide) (Nat.le_refl _)
 obtain ⟨g', c', rfl, _, hgl⟩ := own_pos ho (by decide)
 have hk' : Below w.heap.size w w' := Chg.below_none (Chg.grown hg (fun k e _ => by cases e))
 have hro := rowK_own (enc := sactE) (k := 7) (fun _ => rfl) (by decide) ho
 have hcell := (hro.at (i := 0) (x := (a, c)) rfl).2
 refine Fre.Does.value (v := .slice (some ⟨g', 0, none⟩) (0 + 1) c') (w' := w') ?_ ⟨⟨g', c', a, c, rfl, hgl, fun j x hx => ?_⟩, hk'⟩
 ·unfold execOp
  simp only [resolve, invoke, builtin, Sem.run_bind, Sem.run_pure, Result.andThen_ok, List.map_toArray, List.map_cons, List.map_nil, d0, d18, hr]
 ·have h9 := hcell j x (by show (fmtA a c).toList[j]? = some x; rw [Array.getElem?_toList]; exact hx)
  rw [show 0 + (0 * 7 + j) = j by omega] at h9
  exact h9
theorem stWou_20 : Fre.StepOB prog opsWou.1 a0 w0 (VWou p) Fre.Kept 20 := by
 rintro E w hc hf hE hV hN hS _ ⟨⟩
 simp only [opsWou, gA, gS, gZ]
 have d19 := hV 19 31 (by kernel_rfl) (by kernel_rfl)
 replace d19 : (fun v : Value => ∃ q c1 a c, v = .slice (some ⟨q, 0, none⟩) 1 c1 /\ q < w.heap.size /\ ∀ (j : Nat) (x : Value), (fmtA a c)[j]? = some x -> w.cell? ⟨q, j, none⟩ = some x) (E (.tmp 31)) := d19
 simp only at d19
 obtain ⟨q, c1, a, c, d19, h2, h3⟩ := d19
 refine Fre.Does.value (v := .slice (some ⟨q, 0, none⟩) 1 c1) (w' := w) ?_ ⟨⟨q, c1, a, c, rfl, h2, h3⟩, Fre.Kept.refl _⟩
 go_simp
variable (p w0)
theorem regionWou {QQ : Exit -> Act -> World -> Prop} (hQ : ∀ (vs : Nat -> Value) w, (∀ j, j < 21 -> VWou p j (vs j) w) -> Fre.Kept w0 w -> QQ .normal ⟨#[u0, u1, u2, vs 20, u4, .pointer (some ⟨p, 0, none⟩), u6, u7, u8, u9, u10, u11, vs 0, vs 1, vs 2, vs 3, vs 4, vs 5, vs 6, vs 7, vs 8, vs 9, vs 10, vs 11, vs 12, vs 13, vs 14, vs 15, vs 16, vs 17, vs 18, vs 19, u32, u33], []⟩ w) : (Code.region 5 opsWou.1 true).wp prog QQ ⟨#[u0, u1, u2, .slice none 0 0, u4, .pointer (some ⟨p, 0, none⟩), u6, u7, u8, u9, u10, u11, u12, u13, u14, u15, u16, u17, u18, u19, u20, u21, u22, u23, u24, u25, u26, u27, u28, u29, u30, u31, u32, u33], []⟩ w0 := by
 refine Fre.region_keptO 34 (by kernel_rfl) fitWou rfl (VWou p) (kpWou p) (fun i hi => ?_) (fun vs w h1 h2 => ?_)
 case refine_2 =>
  have h9 := hQ vs w (fun j hj => h1 j (by rw [sizeWou]; exact hj)) h2
  exact Fre.fe (p := fun t => QQ .normal ⟨t, []⟩ w) h9 (by kernel_rfl)
 rw [sizeWou] at hi;rcases cs21 hi with rfl | rfl | rfl | rfl | rfl | rfl | rfl | rfl | rfl | rfl | rfl | rfl | rfl | rfl | rfl | rfl | rfl | rfl | rfl | rfl | rfl
 ·exact stWou_0 h0 rfl
 ·exact stWou_1 h0 rfl
 ·exact stWou_2 h0
 ·exact stWou_3 h0 rfl
 ·exact stWou_4 h0
 ·exact stWou_5 h0 rfl
 ·exact stWou_6 h0
 ·exact stWou_7 h0 rfl
 ·exact stWou_8 h0
 ·exact stWou_9 h0 rfl
 ·exact stWou_10 h0
 ·exact stWou_11 h0 rfl
 ·exact stWou_12 h0
 ·exact stWou_13 h0
 ·exact stWou_14 h0 rfl
 ·exact stWou_15 h0
 ·exact stWou_16 h0
 ·exact stWou_17 h0
 ·exact stWou_18 h0
 ·exact stWou_19 h0
 ·exact stWou_20 h0
end
theorem lsmall1_c (w : World) : Calls prog 16 #[.int .u8 1] w fun r w' => r = .returned (.agg #[.int .i64 (3 : Nat), .int .i64 (12 : Nat)]) /\ Below w.heap.size w w' := by
 obtain ⟨w1, hw1⟩ : ∃ w1, w1 = w.alloc (.cells #[.int .i64 0, .int .i64 0] 44) := ⟨_, rfl⟩
 have hx := heap_new' w (.cells #[.int .i64 0, .int .i64 0] 44)
 have hb := below_box w (.cells #[.int .i64 0, .int .i64 0] 44)
 rw [<- hw1] at hx hb;have HX := Lib.hid hx;have HB := Lib.hid hb;have HW := Lib.hid hw1;clear hx hb hw1
 go_enter func16, ntmps16
 go_upto_region 1 with fail
 rw [<- HW.out];go_wp2_with (first
  | (refine wpList_store_row rfl 44 (.tmp 2) (.tmp 7) rfl w.heap.size #[.int .i64 3, .int .i64 12] rfl rfl 44 _ HX.out geo2 rfl (by rw [<- Array.all_toList]; simp [Value.oneCell']) ?_)
  | fail)
 exact bodyPost_ret (results_cell_row rfl _ _ w.heap.size 44 #[.int .i64 3, .int .i64 12] (0, 0) _ rfl (setRow_heap _ _ _ _ _ _ HX.out) underlying44 rfl geo2) rfl ⟨rfl, below_setRow HB.out (Nat.le_refl _) _⟩
def OneAct (w : World) (v : Value) : Prop := ∃ q c1 a c, v = .slice (some ⟨q, 0, none⟩) 1 c1 /\ q < w.heap.size /\ ∀ (j : Nat) (x : Value), (fmtA a c)[j]? = some x -> w.cell? ⟨q, j, none⟩ = some x
theorem OneAct.up {w w' : World} {v : Value} (h : OneAct w v) (hs : Below w.heap.size w w') : OneAct w' v := by
 obtain ⟨q, c1, a, c, h1, h2, h3⟩ := h
 exact ⟨q, c1, a, c, h1, Nat.lt_of_lt_of_le h2 hs.size, fun j x hx => (hs.cell (p := ⟨q, j, none⟩) h2).trans (h3 j x hx)⟩
theorem ours0_c (g c0 : Nat) (w : World) (hg : w.heap[g]? = some (.cells (fmtA none 0) 53 (0, 0))) :
  Calls prog 17 #[.slice (some ⟨g, 0, none⟩) 1 c0] w fun r w' => ∃ v, r = .returned v /\ OneAct w' v /\ Below w.heap.size w w' := by
 have hl0 := run_loadVar_row (P := prog) w g 53 53 (fmtA none 0) (0, 0) _ hg underlying53 rfl ract7
 obtain ⟨A, hA⟩ : ∃ A, A = fmtA none 0 := ⟨_, rfl⟩
 rw [<- hA] at hl0;have HA := Lib.hid hA;have HL := Lib.hid hl0;clear hg hl0 hA
 go_enter func17, ntmps17
 go_wp2_with fail
 go_loopw [3, 8] (fun v3 v8 wr => ∃ i : Nat, i <= 1 /\ v8 = .int .i64 (i : Int) /\ Hid (i = 0 -> v3 = .slice none 0 0 /\ wr = w) /\ Hid (i = 1 -> OneAct wr v3 /\ Below w.heap.size w wr)) (fun _ v8 _ => 1 - (intOf v8).toNat)
 case atStart => exact ⟨0, Nat.zero_le _, rfl, Lib.hid fun _ => ⟨rfl, rfl⟩, Lib.hid fun e => (by cases e)⟩
 case round =>
  obtain ⟨i, hi, rfl, h0, h1⟩ := hrel
  by_cases hlt : i < 1
  ·have dl : (i : Int) < 1 := by omega
   have d0 : ¬ (i : Int) < 0 := by omega
   have hi0 : i = 0 := by omega
   have hz : (i : Int) = 0 := by omega
   obtain ⟨e3, ew⟩ := h0.out hi0
   subst wr;obtain ⟨v3, hv3⟩ : ∃ v3, v3 = u3 := ⟨_, rfl⟩
   rw [<- hv3] at e3 ⊢
   clear hv3;subst e3;have hrl := HL.out
   rw [show (⟨g, 0, none⟩ : Addr) = ⟨g, i * 7, none⟩ by rw [hi0, Nat.zero_mul]] at hrl
   have HRL := Lib.hid hrl;have hz0 := heap_new' w (.cells #[.int .i64 0, .bool false, .int .i64 0, .int .i64 0, .int .i64 0, .int .i64 0, .slice none 0 0] 53)
   obtain ⟨w1, hw1⟩ : ∃ w1, w1 = (w.alloc (.cells #[.int .i64 0, .bool false, .int .i64 0, .int .i64 0, .int .i64 0, .int .i64 0, .slice none 0 0] 53)).setRow w.heap.size A := ⟨_, rfl⟩
   have hx1 : w1.heap[w.heap.size]? = some (.cells (fmtA none 0) 53 (0, 0)) := by rw [hw1, HA.out]; exact setRow_heap _ _ _ _ _ _ hz0
   have hb1 : Below w.heap.size w w1 := by rw [hw1]; exact below_setRow (below_box _ _) (Nat.le_refl _) A
   have HX1 := Lib.hid hx1;have HB1 := Lib.hid hb1;have HZ0 := Lib.hid hz0;have HHI := Lib.hid (And.intro hi0 hz)
   clear hrl hz0 hx1 hb1 hi0 hz h0 h1 hlt hi HL
   go_upto_region 5 with (first
    | (refine wpList_load_run rfl 53 (.tmp 10) rfl (p := ⟨g, i * 7, none⟩) rfl HRL.out ?_)
    | (refine wpList_store_row rfl 53 (.tmp 5) (.tmp 11) rfl w.heap.size A rfl rfl 53 _ HZ0.out (by rw [HA.out]; exact ract7) (by rw [HA.out]; rfl) (by rw [HA.out]; exact fmtA_one _ _) ?_; rw [<- hw1]; clear hw1)
    | fail)
   refine regionWou w.heap.size w1 HX1.out ?_
   intro vs w2 hv hk2;have e20 : OneAct w2 (vs 20) := hv 20 (by omega)
   obtain ⟨v, hvv⟩ : ∃ v, v = vs 20 := ⟨_, rfl⟩
   rw [<- hvv] at e20;rw [<- hvv];have HONE := Lib.hid e20;have HB2 : Hid (Below w.heap.size w w2) := HB1.out.trans (hk2.mono HB1.out.size)
   clear hv hk2 e20 hvv HX1 HB1 HZ0 HRL;go_wp2
   go_roundw
   case rel => exact ⟨1, by omega, by rw [HHI.out.2]; go_num, Lib.hid fun e => (by cases e), Lib.hid fun _ => ⟨HONE.out, HB2.out⟩⟩
   case measure => simp [intOf]; have := HHI.out; omega
  ·have dl : ¬ (i : Int) < 1 := by omega
   have hi1 : i = 1 := by omega
   obtain ⟨v3, hv3⟩ : ∃ v3, v3 = u3 := ⟨_, rfl⟩
   rw [<- hv3] at h1;rw [<- hv3];have HT := Lib.hid (h1.out hi1)
   clear h0 h1 hi1 hlt hi hv3;go_wp2
   go_ret
   exact ⟨v3, rfl, HT.out.1, HT.out.2⟩
end Go.Proofs.YtnmdjggdgakeoaaGreat
