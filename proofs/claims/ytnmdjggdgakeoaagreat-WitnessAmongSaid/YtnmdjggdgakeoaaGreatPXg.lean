/- Lemmas for the proof. -/
import Derived.Test.YtnmdjggdgakeoaaGreatPXf
import Derived.Deep.RegionHeld
import Derived.Deep.MidRow
import Derived.Deep.CutRange
import Derived.RangeFuncNested
import Derived.RangeFuncBound
import Derived.RangeFuncCalls
import Derived.RangeFuncLeaves
import Derived.Shelf.Abstract
import Derived.Shelf.RegionOpen
import Derived.WalkKit
import Derived.OwnWalkIn
import Derived.TacticsInMore
import Derived.LoopNIn
import Derived.LoopIn
import Derived.OrdersIn
import Derived.Deep.AppendLies
import Derived.OrdersHeld
set_option maxRecDepth 100000
set_option maxHeartbeats 16000000
set_option linter.unusedVariables false
set_option linter.unusedSimpArgs false
set_option linter.unusedSectionVars false
namespace Go.Proofs.YtnmdjggdgakeoaaGreat
open Go Go.RowKit GfM
def colOf (l : List Nat) (q : Nat) : Nat -> Nat := fun t => l.getD (4 * q + t) 0
def colsF (G : (Nat -> Nat) -> Nat -> Nat) (l : List Nat) : Nat -> Nat := fun i => G (colOf l (i / 4)) (i % 4)
def colsL (G : (Nat -> Nat) -> Nat -> Nat) (l : List Nat) : List Nat := (List.range 16).map (colsF G l)
theorem getD_upd (g : Nat -> Nat) (l : List Nat) (k i : Nat) (hk : k <= i) : (upd g l k).getD i 0 = l.getD i 0 := by
 unfold upd;rw [List.getD_eq_getElem?_getD, List.getD_eq_getElem?_getD, List.getElem?_append_right (by simp; omega)]; simp; congr 2; omega
theorem range_col (l : List Nat) (b q : Nat) (hl : l.length = 16) (hq : q < 4) {w : World} {g : Nat} (h : w.heap[g]? = some (.cells (stA l b) 497 (0, 0))) : w.rangeAt g (4 * q) (v4 (colOf l q)).toList := by
 intro j v hv;have hj : j < 4 := by
  have := (List.getElem?_eq_some_iff.1 hv).1; simpa [v4] using this
 rw [cells_at h, stA_get l b _ (by omega)]
 rw [Array.getElem?_toList, v4_get _ j hj] at hv
 exact hv
theorem splice_col (G : (Nat -> Nat) -> Nat -> Nat) (l : List Nat) (b q : Nat) (hl : l.length = 16) (hq : q < 4) :
  (splice (stA (upd (colsF G l) l (4 * q)) b).toList (4 * q) (v4 (G (colOf l q))).toList).toArray = stA (upd (colsF G l) l (4 * (q + 1))) b := by
 match l, hl with
 | [a0, a1, a2, a3, a4, a5, a6, a7, a8, a9, a10, a11, a12, a13, a14, a15], _ =>
  match q, hq with
  | 0, _ => rfl
  | 1, _ => rfl
  | 2, _ => rfl
  | 3, _ => rfl
theorem u8size (w : World) : (sizeOf 5).run Tryz.prog w = .ok 1 w := by go_simp
theorem slice_kh (w : World) (g k : Nat) (hk : k + 4 <= 16) :
  (Instr.sliceAt 478 (.pointer (some ⟨g, 0, none⟩)) (some (.int .i64 (k : Int))) (some (.int .i64 ((k : Int) + 4))) none).run Tryz.prog w = .ok (.slice (some ⟨g, k, none⟩) 4 (16 - k)) w := by
 have h16 : Tryz.prog.arrayLen 478 = 16 := by kernel_rfl
 have h8 : Tryz.prog.elem 478 = 5 := by kernel_rfl
 rw [run_sliceAt_array_lh w 478 ⟨g, 0, none⟩ (by rw [h16, h8]; exact Tryz.underlying478) .i64 .i64 (k : Int) ((k : Int) + 4) (by omega) (by omega) (by rw [h16]; omega), h8, h16, u8size]
 simp only [Result.andThen, slicedAt]
 rw [if_neg (by omega), Addr.add_mid, show ((k : Int) + 4).toNat - (k : Int).toNat = 4 by omega, show 0 + (k : Int).toNat * 1 = k by omega, show 16 - (k : Int).toNat = 16 - k by omega]
theorem slice_kl (w : World) (g k : Nat) (hk : k < 16) :
  (Instr.sliceAt 478 (.pointer (some ⟨g, 0, none⟩)) (some (.int .i64 (k : Int))) none none).run Tryz.prog w = .ok (.slice (some ⟨g, k, none⟩) (16 - k) (16 - k)) w := by
 have h16 : Tryz.prog.arrayLen 478 = 16 := by kernel_rfl
 have h8 : Tryz.prog.elem 478 = 5 := by kernel_rfl
 rw [run_sliceAt_array_l w 478 ⟨g, 0, none⟩ (by rw [h16, h8]; exact Tryz.underlying478) .i64 (k : Int) (by omega) (by rw [h16]; omega), h8, h16, u8size]
 simp only [Result.andThen, slicedAt]
 rw [if_neg (by omega), Addr.add_mid, show 0 + (k : Int).toNat * 1 = k by omega, show 16 - (k : Int).toNat = 16 - k by omega]
theorem columns_c (F : FuncId) (G : (Nat -> Nat) -> Nat -> Nat)
  (hF : ∀ c : Nat -> Nat, (∀ j, j < 4 -> c j < 256) -> ∀ w : World, Calls Tryz.prog F #[.agg (v4 c)] w fun e w' => e = .returned (.agg (v4 (G c))) /\ Below w.heap.size w w')
  (hcall : ∀ (x : Value) (w : World), Sem.run Tryz.prog (callFunc F #[x]) w = .ok (.enter F #[x]) w)
  (l : List Nat) (hl : l.length = 16) (hb : ∀ j, j < 16 -> l.getD j 0 < 256) (b : Nat) (w : World) :
  Calls Tryz.prog 400 #[.agg (stA l b), .func (.func F) #[] #[]] w fun e w' => e = .returned (.agg (stA (colsL G l) b)) /\ Below w.heap.size w w' := by
 have b0 : ∀ (o1 : Obj), ((w.alloc (Obj.cells (stA l b) 497)).alloc o1).heap[w.heap.size]? = some (.cells (stA (upd (colsF G l) l (4 * 0)) b) 497 (0, 0)) := fun o1 => by
  rw [heap_old' _ _ _ (by simp), heap_new', upd_zero]
 have b2 : ∀ (o0 : Obj) (Z : Array Value), ((w.alloc o0).alloc (Obj.cells Z 497)).heap[w.heap.size + 1]? = some (.cells Z 497 (0, 0)) := fun o0 Z => by
  rw [show w.heap.size + 1 = (w.alloc o0).heap.size by simp, heap_new']
 have B0 := Lib.hid b0
 have B2 := Lib.hid b2
 have HL := Lib.hid hl;have HV := Lib.hid hb;have HF := Lib.hid hF;clear b0 b2 hl hb hF
 go_enter Tryz.func400, Tryz.ntmps400
 go_wp2
 go_loopw [5] (fun vi wr => ∃ q : Nat, q <= 4 /\ vi = .int .i64 ((4 * q : Nat) : Int) /\ Hid (wr.heap[w.heap.size]? = some (.cells (stA (upd (colsF G l) l (4 * q)) b) 497 (0, 0))) /\ Hid (∃ Z, Z.size = 17 /\ wr.heap[w.heap.size + 1]? = some (.cells Z 497 (0, 0))) /\ Hid (Below w.heap.size w wr)) (fun vi _ => 16 - (intOf vi).toNat)
 case atStart => exact ⟨0, by omega, rfl, B0.out _, ⟨_, rfl, B2.out _ _⟩, (((Below.refl _ _).alloc (Nat.le_refl _) _).alloc (by simp) _)⟩
 case round =>
  clear B0 B2;obtain ⟨q, hq, rfl, h0, h2, hbel⟩ := hrel
  have hlen : (upd (colsF G l) l (4 * q)).length = 16 := by rw [upd_len _ _ _ (by rw [HL.out]; omega), HL.out]
  by_cases hlt : q < 4
  ·have hr := range_col _ b q hlen hlt h0.out
   obtain ⟨k, hk⟩ : ∃ k, k = 4 * q := ⟨_, rfl⟩
   rw [<- hk] at hr;rw [<- hk];have hk16 : k + 4 <= 16 := by omega
   have hcc : colOf (upd (colsF G l) l k) q = colOf l q := by
    funext t; unfold colOf; rw [getD_upd _ _ _ _ (by omega)]
   rw [hcc] at hr;have HR := Lib.hid hr;have HK := Lib.hid hk;have HLEN := Lib.hid hlen;clear hr hcc hlen;have hcl : Hid (∀ w : World, Calls Tryz.prog F #[.agg (v4 (colOf l q))] w fun e w' => e = .returned (.agg (v4 (G (colOf l q)))) /\ Below w.heap.size w w') := fun w => HF.out _ (fun j hj => HV.out _ (by omega)) w
   have ha : ∀ w' cap, (Instr.arrayAt 149 (.slice (some ⟨w.heap.size, k, none⟩) 4 cap)).run Tryz.prog w' = .ok (.pointer (some ⟨w.heap.size, k, none⟩)) w' := fun w' cap => run_arrayAt w' 149 5 4 _ 4 cap Tryz.underlying149 (by omega)
   have hs1 := fun w' => slice_kh w' w.heap.size k (by omega)
   have hs2 := fun w' => slice_kl w' w.heap.size k (by omega)
   clear hk;go_wp2_with (first
    | (refine wpList_load_mid rfl 149 (.tmp 17) rfl w.heap.size k rfl _ _ HR.out Tryz.underlying149 rfl (by rw [four4]; simp [v4]) ?_)
    | fail)
   refine (hcl.out _).mono ?_
   rintro e w1 ⟨rfl, hb1⟩
   have hwl := lt_of_block h0.out
   have g0 := (hb1.block _ hwl).trans h0.out
   obtain ⟨Z, hZ, hZ2⟩ := h2.out
   have g2 := (hb1.block _ (lt_of_block hZ2)).trans hZ2
   have hbel1 := hbel.out.trans (hb1.mono (by omega))
   have G0 := Lib.hid g0
   have G2 := Lib.hid g2
   have HZ := Lib.hid hZ;have HBL := Lib.hid hbel1;have HWL : Hid (w.heap.size < wr.heap.size /\ w.heap.size + 1 < w1.heap.size) := ⟨hwl, lt_of_block g2⟩
   clear hwl g0 g2 hZ hZ2 hbel1 h0 h2 hb1 hbel hs1 ha;go_wp2_with (first
    | (refine wpList_store_row rfl 149 (.tmp 6) (.tmp 19) rfl w1.heap.size _ rfl rfl 149 _ (heap_new' _ _) (by rw [four4]; rfl) rfl (v4_one _) ?_)
    | fail)
   have n0 : ((w1.alloc (Obj.cells #[.int .u8 0, .int .u8 0, .int .u8 0, .int .u8 0] 149)).setRow w1.heap.size (v4 (G (colOf l q)))).heap[w.heap.size]? = some (.cells (stA (upd (colsF G l) l (4 * q)) b) 497 (0, 0)) := by
    rw [setRow_other _ _ _ _ (by have := HWL.out; omega), heap_old' _ _ _ (by have := HWL.out; omega)]; exact G0.out
   have n2 : ((w1.alloc (Obj.cells #[.int .u8 0, .int .u8 0, .int .u8 0, .int .u8 0] 149)).setRow w1.heap.size (v4 (G (colOf l q)))).heap[w.heap.size + 1]? = some (.cells Z 497 (0, 0)) := by
    rw [setRow_other _ _ _ _ (by have := HWL.out; omega), heap_old' _ _ _ (by have := HWL.out; omega)]; exact G2.out
   have n6 := setRow_heap _ _ _ (v4 (G (colOf l q))) _ _ (heap_new' w1 (Obj.cells #[.int .u8 0, .int .u8 0, .int .u8 0, .int .u8 0] 149))
   have nb := below_setRow (HBL.out.alloc (by have := HWL.out; omega) (Obj.cells #[.int .u8 0, .int .u8 0, .int .u8 0, .int .u8 0] 149)) (by have := HWL.out; omega : w.heap.size <= w1.heap.size) (v4 (G (colOf l q)))
   generalize ((w1.alloc (Obj.cells #[.int .u8 0, .int .u8 0, .int .u8 0, .int .u8 0] 149)).setRow w1.heap.size (v4 (G (colOf l q)))) = W2 at *
   have N0 := Lib.hid n0
   have N2 := Lib.hid n2
   have N6 := Lib.hid n6
   have NB := Lib.hid nb
   have HQ := Lib.hid hlt;clear n0 n2 n6 nb G0 G2 HBL hcl HR;refine wp_region_still_tail 4 (by kernel_rfl) (by kernel_rfl) ?_
   simp only [List.take_succ_cons, List.take_zero, List.drop_succ_cons, List.drop_zero]
   change wpStill _ _ W2.drew _ _ _
   repeat still_step
   refine wpStill_nil ?_
   change wpList _ _ _ _ _ W2.drew
   refine wpList_copy_own rfl (.tmp 22) (.tmp 23) 22 22 rfl 5 Tryz.underlying22 (by kernel_rfl) w.heap.size k (16 - k) (16 - k) ⟨w1.heap.size, 0, none⟩ 4 4 rfl rfl (stA (upd (colsF G l) l (4 * q)) b) 497 N0.out (v4 (G (colOf l q))).toList ?_ ?_ ?_ ?_ ?_
   ·exact (Nat.min_eq_left (by omega : 4 <= 16 - k)).symm
   ·intro j v hv
    rw [Addr.add_mid, Nat.zero_add]
    rw [Array.getElem?_toList] at hv
    exact (cells_at N6.out j).trans hv
   ·simp [stA_size, HLEN.out, v4]; omega
   ·exact fun v hv => by simp [v4] at hv; rcases hv with rfl | rfl | rfl | rfl <;> rfl
   have m0 : (W2.drew.setRow w.heap.size ((stA (upd (colsF G l) l (4 * q)) b).toList.take k ++ ((v4 (G (colOf l q))).toList ++ (stA (upd (colsF G l) l (4 * q)) b).toList.drop (k + (v4 (G (colOf l q))).toList.length))).toArray).heap[w.heap.size]? = some (.cells (stA (upd (colsF G l) l (4 * (q + 1))) b) 497 (0, 0)) := by
    refine (setRow_heap W2.drew _ _ _ _ _ N0.out).trans ?_
    rw [<- splice_col G l b q HL.out HQ.out, <- HK.out]; rfl
   have m2 : (W2.drew.setRow w.heap.size ((stA (upd (colsF G l) l (4 * q)) b).toList.take k ++ ((v4 (G (colOf l q))).toList ++ (stA (upd (colsF G l) l (4 * q)) b).toList.drop (k + (v4 (G (colOf l q))).toList.length))).toArray).heap[w.heap.size + 1]? = some (.cells Z 497 (0, 0)) :=
    (setRow_other _ _ _ _ (by omega)).trans N2.out
   have mb := below_setRow NB.out.drew (Nat.le_refl _) ((stA (upd (colsF G l) l (4 * q)) b).toList.take k ++ ((v4 (G (colOf l q))).toList ++ (stA (upd (colsF G l) l (4 * q)) b).toList.drop (k + (v4 (G (colOf l q))).toList.length))).toArray
   generalize (W2.drew.setRow w.heap.size ((stA (upd (colsF G l) l (4 * q)) b).toList.take k ++ ((v4 (G (colOf l q))).toList ++ (stA (upd (colsF G l) l (4 * q)) b).toList.drop (k + (v4 (G (colOf l q))).toList.length))).toArray) = W3 at *
   have M0 := Lib.hid m0
   have M2 := Lib.hid m2
   have MB := Lib.hid mb
   clear m0 m2 mb N0 N2 N6 NB;go_wp2
   go_roundw
   case rel => exact ⟨q + 1, by have := HQ.out; omega, by have := HK.out; go_num, M0.out, ⟨Z, HZ.out, M2.out⟩, MB.out⟩
   case measure => simp [intOf]; omega
  ·obtain rfl : q = 4 := by omega
   have h3 := h0
   rw [upd_full _ _ 16 HL.out] at h3
   obtain ⟨Z, hZ, hZ2⟩ := h2.out
   have HZ := Lib.hid hZ;have HZ2 := Lib.hid hZ2;clear hZ hZ2 h2 hlen;go_wp2_with (first
    | (refine wpList_load_row rfl 497 (.tmp 2) rfl w.heap.size rfl _ _ _ _ h3.out Tryz.underlying497 rfl (by rw [st17, stA_size]; simp) ?_)
    | (refine wpList_store_row rfl 497 (.tmp 4) (.tmp 25) rfl (w.heap.size + 1) _ rfl rfl 497 _ HZ2.out (by rw [st17, stA_size]; simp) (by rw [HZ.out, stA_size]; simp) (stA_one _ _) ?_))
   exact bodyPost_ret (results_cell_row rfl _ _ (w.heap.size + 1) 497 (stA (colsL G l) b) (0, 0) _ rfl (setRow_heap _ _ _ _ _ _ HZ2.out) Tryz.underlying497 rfl (by rw [st17, stA_size]; simp [colsL])) rfl ⟨rfl, below_setRow hbel.out (by omega) _⟩
theorem call_Mix (x : Value) (w : World) : Sem.run Tryz.prog (callFunc 401 #[x]) w = .ok (.enter 401 #[x]) w := by
 go_simp
def smixL (l : List Nat) : List Nat := colsL mixN l
theorem smix_c (l : List Nat) (hl : l.length = 16) (hb : ∀ j, j < 16 -> l.getD j 0 < 256) (b : Nat) (w : World) :
  Calls Tryz.prog 397 #[.agg (stA l b)] w fun e w' => e = .returned (.agg (stA (smixL l) b)) /\ Below w.heap.size w w' := by
 have HM := Lib.hid (fun w => columns_c 401 mixN mix_c call_Mix l hl hb b w)
 have HL := Lib.hid hl;have B0 : Hid (∀ (o1 : Obj), ((w.alloc (Obj.cells (stA l b) 497)).alloc o1).heap[w.heap.size]? = some (.cells (stA l b) 497 (0, 0))) := fun o1 => by
  rw [heap_old' _ _ _ (by simp), heap_new']
 have B2 : Hid (∀ (o0 : Obj) (Z : Array Value), ((w.alloc o0).alloc (Obj.cells Z 497)).heap[w.heap.size + 1]? = some (.cells Z 497 (0, 0))) := fun o0 Z => by
  rw [show w.heap.size + 1 = (w.alloc o0).heap.size by simp, heap_new']
 clear hl hb
 go_enter Tryz.func397, Tryz.ntmps397
 go_wp2_with (first
    | (refine wpList_load_row rfl 497 (.tmp 1) rfl w.heap.size rfl _ _ _ _ (B0.out _) Tryz.underlying497 rfl (by rw [st17, stA_size, HL.out]) ?_)
    | fail)
 refine (HM.out _).mono ?_
 rintro e w1 ⟨rfl, hb1⟩
 have h2 := (hb1.block (w.heap.size + 1) (by simp)).trans (B2.out _ _)
 have HB : Hid (Below w.heap.size w w1) := (((Below.refl _ _).alloc (Nat.le_refl _) _).alloc (by simp) _).trans (hb1.mono (by simp; omega))
 have H2 := Lib.hid h2;clear h2 hb1 B0 B2 HM;go_wp2_with (first
    | (refine wpList_store_row rfl 497 (.tmp 2) (.tmp 4) rfl (w.heap.size + 1) _ rfl rfl 497 _ H2.out (by rw [st17, stA_size]; simp [colsL]) (by simp [stA_size, colsL]) (stA_one _ _) ?_)
    | fail)
 exact bodyPost_ret (results_cell_row rfl _ _ (w.heap.size + 1) 497 (stA (smixL l) b) (0, 0) _ rfl (setRow_heap _ _ _ _ _ _ H2.out) Tryz.underlying497 rfl (by rw [st17, stA_size]; simp [smixL, colsL])) rfl ⟨rfl, below_setRow HB.out (by omega) _⟩
def By (l : List Nat) : Prop := l.length = 16 /\ ∀ j, j < 16 -> l.getD j 0 < 256
theorem by_map (g : Nat -> Nat) (h : ∀ k, k < 16 -> g k < 256) : By ((List.range 16).map g) :=
 ⟨by simp, fun j hj => by simp [hj]; exact h j hj⟩
structure Stp (F : FuncId) (G : List Nat -> List Nat) : Prop where
 walk : ∀ (l : List Nat), By l -> ∀ (b : Nat) (w : World), IsBox w b -> Calls Tryz.prog F #[.agg (stA l b)] w fun e w' => e = .returned (.agg (stA (G l) b)) /\ Below w.heap.size w w'
 okay : ∀ l, By l -> By (G l)
 call : ∀ (x : Value) (w : World), Sem.run Tryz.prog (callFunc F #[x]) w = .ok (.enter F #[x]) w
def stps (Fs : List (FuncId × (List Nat -> List Nat))) (k : Nat) (l : List Nat) : List Nat := (Fs.take k).foldl (fun l p => p.2 l) l
theorem stps_by (Fs : List (FuncId × (List Nat -> List Nat))) (hF : ∀ p ∈ Fs, Stp p.1 p.2) (l : List Nat) (hl : By l) : ∀ k, By (stps Fs k l) := by
 intro k;unfold stps;have : ∀ p ∈ Fs.take k, Stp p.1 p.2 := fun p hp => hF p (List.mem_of_mem_take hp)
 generalize Fs.take k = Gs at this
 induction Gs generalizing l with
 | nil => exact hl
 | cons p Gs ih =>
  rw [List.foldl_cons];exact ih (p.2 l) ((this p (by simp)).okay l hl) fun q hq => this q (by simp [hq])
theorem stps_next (Fs : List (FuncId × (List Nat -> List Nat))) (k : Nat) (hk : k < Fs.length) (l : List Nat) : stps Fs (k + 1) l = Fs[k].2 (stps Fs k l) := by
 unfold stps; rw [List.take_succ_eq_append_getElem hk, List.foldl_append]; rfl
def fnV (Fs : List (FuncId × (List Nat -> List Nat))) : Array Value := (Fs.map fun p => Value.func (.func p.1) #[] #[]).toArray
theorem all_c (Fs : List (FuncId × (List Nat -> List Nat))) (hF : ∀ p ∈ Fs, Stp p.1 p.2) (hn : Fs.length < 100) (l : List Nat) (hl : By l) (b : Nat) (w : World) (hB : IsBox w b) (p : Nat) (t : TypeId) (hp : w.heap[p]? = some (.cells (fnV Fs) t (0, 0))) :
  Calls Tryz.prog 394 #[.agg (stA l b), .slice (some ⟨p, 0, none⟩) Fs.length Fs.length] w fun e w' => e = .returned (.agg (stA (stps Fs Fs.length l) b)) /\ Below w.heap.size w w' := by
 have HF := Lib.hid hF;have HL := Lib.hid hl;have HB := Lib.hid hB;have HP := Lib.hid hp;have B0 : Hid (∀ (o1 : Obj), ((w.alloc (Obj.cells (stA l b) 497)).alloc o1).heap[w.heap.size]? = some (.cells (stA (stps Fs 0 l) b) 497 (0, 0))) := fun o1 => by
  rw [heap_old' _ _ _ (by simp), heap_new']; rfl
 have B2 : Hid (∀ (o0 : Obj) (Z : Array Value), ((w.alloc o0).alloc (Obj.cells Z 497)).heap[w.heap.size + 1]? = some (.cells Z 497 (0, 0))) := fun o0 Z => by
  rw [show w.heap.size + 1 = (w.alloc o0).heap.size by simp, heap_new']
 clear hF hl hB hp;obtain ⟨n, hnn⟩ : ∃ n, n = Fs.length := ⟨_, rfl⟩
 have HN := Lib.hid hnn;rw [<- hnn];rw [<- hnn] at hn;clear hnn
 go_enter Tryz.func394, Tryz.ntmps394
 go_wp2
 go_loopw [9] (fun vi wr => ∃ k : Nat, k <= n /\ vi = .int .i64 (k : Int) /\ Hid (wr.heap[w.heap.size]? = some (.cells (stA (stps Fs k l) b) 497 (0, 0))) /\ Hid (∃ Z, Z.size = 17 /\ wr.heap[w.heap.size + 1]? = some (.cells Z 497 (0, 0))) /\ Hid (Below w.heap.size w wr)) (fun vi _ => n - (intOf vi).toNat)
 case atStart => exact ⟨0, by omega, rfl, B0.out _, ⟨_, rfl, B2.out _ _⟩, (((Below.refl _ _).alloc (Nat.le_refl _) _).alloc (by simp) _)⟩
 case round =>
  clear B0 B2;obtain ⟨k, hk, rfl, h0, h2, hbel⟩ := hrel
  have hby := stps_by Fs HF.out l HL.out k
  have HBY := Lib.hid hby;clear hby
  by_cases hlt : k < n
  ·have hk2 : k < Fs.length := by rw [<- HN.out]; exact hlt
   obtain ⟨q, hq⟩ : ∃ q, q = Fs[k] := ⟨_, rfl⟩
   obtain ⟨F, G⟩ := q
   have hS : Stp F G := by have := HF.out Fs[k] (List.getElem_mem _); rw [<- hq] at this; exact this
   have hcall := hS.call
   have HW : Hid (∀ w, IsBox w b -> Calls Tryz.prog F #[.agg (stA (stps Fs k l) b)] w fun e w' => e = .returned (.agg (stA (G (stps Fs k l)) b)) /\ Below w.heap.size w w') := fun w h => hS.walk _ HBY.out b w h
   have hnx := stps_next Fs k hk2 l
   rw [<- hq] at hnx;have c0 : wr.cell? ⟨p, k, none⟩ = some (.func (.func F) #[] #[]) := by
    rw [cells_at ((hbel.out.block p (lt_of_block HP.out)).trans HP.out) k]
    unfold fnV;rw [List.getElem?_toArray, List.getElem?_map, List.getElem?_eq_getElem hk2, <- hq]; rfl
   have HNX := Lib.hid hnx;have HBX : Hid (IsBox wr b) := HB.out.later hbel.out HB.out.lt
   have hd : decide ((k : Int) < (n : Int)) = true := by simp; omega
   clear hS hnx hq;go_wp2_with (first
    | (refine wpList_load_row rfl 497 (.tmp 2) rfl w.heap.size rfl _ _ _ _ h0.out Tryz.underlying497 rfl (by rw [st17, stA_size, HBY.out.1]) ?_)
    | fail)
   refine (HW.out _ HBX.out).mono ?_
   rintro e w1 ⟨rfl, hb1⟩
   have g0 := (hb1.block _ (lt_of_block h0.out)).trans h0.out
   obtain ⟨Z, hZ, hZ2⟩ := h2.out
   have g2 := (hb1.block _ (lt_of_block hZ2)).trans hZ2
   have HB1 : Hid (Below w.heap.size w w1) := hbel.out.trans (hb1.mono (by have := lt_of_block h0.out; omega))
   have G0 := Lib.hid g0
   have G2 := Lib.hid g2
   have HZ := Lib.hid hZ;have HG : Hid (By (G (stps Fs k l))) := by rw [<- HNX.out]; exact stps_by Fs HF.out l HL.out (k + 1)
   clear h0 h2 g0 g2 hbel hb1 hZ hZ2;go_wp2_with (first
    | (refine wpList_store_row rfl 497 (.tmp 2) (.tmp 15) rfl w.heap.size _ rfl rfl 497 _ G0.out (by rw [st17, stA_size, HG.out.1]) (by rw [stA_size, stA_size, HG.out.1, HBY.out.1]) (stA_one _ _) ?_)
    | fail)
   go_roundw
   case rel => exact ⟨k + 1, by omega, by go_num, by rw [HNX.out]; exact setRow_heap _ _ _ _ _ _ G0.out, ⟨Z, HZ.out, (setRow_other _ _ _ _ (by omega)).trans G2.out⟩, below_setRow HB1.out (Nat.le_refl _) _⟩
   case measure => simp [intOf]; omega
  ·obtain rfl : k = n := by omega
   obtain ⟨Z, hZ, hZ2⟩ := h2.out
   have HZ := Lib.hid hZ;have HZ2 := Lib.hid hZ2;clear hZ hZ2 h2;go_wp2_with (first
    | (refine wpList_load_row rfl 497 (.tmp 2) rfl w.heap.size rfl _ _ _ _ h0.out Tryz.underlying497 rfl (by rw [st17, stA_size, HBY.out.1]) ?_)
    | (refine wpList_store_row rfl 497 (.tmp 4) (.tmp 17) rfl (w.heap.size + 1) _ rfl rfl 497 _ HZ2.out (by rw [st17, stA_size, HBY.out.1]) (by rw [HZ.out, stA_size, HBY.out.1]) (stA_one _ _) ?_))
   exact bodyPost_ret (results_cell_row rfl _ _ (w.heap.size + 1) 497 (stA (stps Fs k l) b) (0, 0) _ rfl (setRow_heap _ _ _ _ _ _ HZ2.out) Tryz.underlying497 rfl (by rw [st17, stA_size, HBY.out.1])) rfl ⟨by rw [HN.out], below_setRow hbel.out (by omega) _⟩
theorem stp_sub : Stp 395 ssubL := ⟨fun l h b w hB => ssub_c l h.1 h.2 b w hB, fun l h => by_map _ fun k hk => sbx_lt _ (h.2 k hk), fun x w => by go_simp⟩
theorem stp_shift : Stp 396 shiftL := ⟨fun l h b w hB => shift_c l h.1 b w, fun l h => by_map _ fun k hk => h.2 _ (by unfold sig; omega), fun x w => by go_simp⟩
theorem stp_mix : Stp 397 smixL := ⟨fun l h b w hB => smix_c l h.1 h.2 b w, fun l h => by_map _ fun k hk => mixN_lt _ (fun j hj => h.2 _ (by omega)) _ (by omega), fun x w => by go_simp⟩
theorem zero16' : (Tryz.prog.info? 478).map (·.size) = some 16 := by kernel_rfl
def encS (W l : List Nat) : Nat -> List Nat
 | 0 => keyL l W 0
 | i + 1 => keyL (smixL (shiftL (ssubL (encS W l i)))) W (i + 1)
def encL (W : List Nat) (r : Nat) (l : List Nat) : List Nat := keyL (shiftL (ssubL (encS W l (r - 1)))) W r
theorem key_by (l W : List Nat) (r : Nat) (hl : By l) (hW : ∀ x ∈ W, x < 256) (hr : 16 * r + 16 <= W.length) : By (keyL l W r) := by
 refine by_map _ fun k hk => xor_lt _ _ (hl.2 k hk) ?_
 rw [List.getD_eq_getElem?_getD, List.getElem?_eq_getElem (by omega)]
 exact hW _ (List.getElem_mem _)
theorem encS_by (W l : List Nat) (hl : By l) (hW : ∀ x ∈ W, x < 256) : ∀ i, 16 * i + 16 <= W.length -> By (encS W l i)
 | 0, h => key_by l W 0 hl hW h
 | i + 1, h => key_by _ W (i + 1) (stp_mix.okay _ (stp_shift.okay _ (stp_sub.okay _ (encS_by W l hl hW i (by omega))))) hW h
theorem range_bA (l : List Nat) {w : World} {g : Nat} {t : TypeId} (h : w.heap[g]? = some (.cells (bA l) t (0, 0))) : w.rangeAt g 0 (bA l).toList := by
 intro j v hv;rw [Nat.zero_add, cells_at h j]
 simpa using hv
theorem bA_one (l : List Nat) : (bA l).all (·.oneCell') = true := by
 rw [<- Array.all_toList]; simp [bA, Value.oneCell']
theorem encS_succ (W l : List Nat) (i : Nat) : encS W l (i + 1) = keyL (smixL (shiftL (ssubL (encS W l i)))) W (i + 1) := rfl
theorem all3_c (b : Nat) (s : List Nat) (hs : By s) (p : Nat) (t : TypeId) (w : World) (hB : IsBox w b) (hp : w.heap[p]? = some (.cells #[.func (.func 395) #[] #[], .func (.func 396) #[] #[], .func (.func 397) #[] #[]] t (0, 0))) :
  Calls Tryz.prog 394 #[.agg (stA s b), .slice (some ⟨p, 0, none⟩) 3 3] w fun e w' => e = .returned (.agg (stA (smixL (shiftL (ssubL s))) b)) /\ Below w.heap.size w w' :=
 all_c [(395, ssubL), (396, shiftL), (397, smixL)] (by
  intro p hp; simp only [List.mem_cons, List.not_mem_nil, or_false] at hp
  rcases hp with rfl | rfl | rfl
  ·exact stp_sub
  ·exact stp_shift
  ·exact stp_mix) (by simp) s hs b w hB p t hp
theorem all2_c (b : Nat) (s : List Nat) (hs : By s) (p : Nat) (t : TypeId) (w : World) (hB : IsBox w b) (hp : w.heap[p]? = some (.cells #[.func (.func 395) #[] #[], .func (.func 396) #[] #[]] t (0, 0))) :
  Calls Tryz.prog 394 #[.agg (stA s b), .slice (some ⟨p, 0, none⟩) 2 2] w fun e w' => e = .returned (.agg (stA (shiftL (ssubL s)) b)) /\ Below w.heap.size w w' :=
 all_c [(395, ssubL), (396, shiftL)] (by
  intro p hp; simp only [List.mem_cons, List.not_mem_nil, or_false] at hp
  rcases hp with rfl | rfl
  ·exact stp_sub
  ·exact stp_shift) (by simp) s hs b w hB p t hp
theorem run_field_state (l : List Nat) (b : Nat) (hl : l.length = 16) (E : Operand -> Value) (x : Operand) (o : Oper) (ho : o.op = .field 497 x 0) (hx : E x = .agg (stA l b)) (w : World) :
  (execOp E o).run Tryz.prog w = .ok (.value (.agg (bA l))) w := by
 match l, hl with
 | [a0, a1, a2, a3, a4, a5, a6, a7, a8, a9, a10, a11, a12, a13, a14, a15], _ =>
  unfold execOp;simp only [ho]
  simp [hx, bA, stA, go_sem, Instr.field]
  rfl
theorem run_build_state (l : List Nat) (b : Nat) (hl : l.length = 16) (E : Operand -> Value) (x y : Operand) (o : Oper) (ho : o.op = .build 497 #[(0, x), (1, y)]) (hx : E x = .agg (bA l)) (hy : E y = .pointer (some ⟨b, 0, none⟩)) (w : World) :
  (execOp E o).run Tryz.prog w = .ok (.value (.agg (stA l b))) w := by
 match l, hl with
 | [a0, a1, a2, a3, a4, a5, a6, a7, a8, a9, a10, a11, a12, a13, a14, a15], _ =>
  unfold execOp;simp only [ho]
  simp [hx, hy, bA, stA, go_sem]
  done
theorem encrypt_c (c b g n cap r : Nat) (W l : List Nat) (hl : By l) (hr1 : 1 <= r) (hr : 16 * r + 16 <= W.length) (hr2 : r < 100) (w : World) (hC : Cip w c b g n cap r W) :
  Calls Tryz.prog 377 #[.pointer (some ⟨c, 0, none⟩), .agg (bA l)] w fun e w' => e = .returned (.agg (bA (encL W r l))) /\ Below w.heap.size w w' := by
 have HC := Lib.hid hC;have HL := Lib.hid hl;have hb0 : ∀ (o1 : Obj), ((w.alloc (Obj.cells (bA l) 478)).alloc o1).heap[w.heap.size]? = some (.cells (bA l) 478 (0, 0)) := fun o1 => by
  rw [heap_old' _ _ _ (by simp), heap_new']
 have hb1 : ∀ (o0 : Obj) (Z : Array Value), ((w.alloc o0).alloc (Obj.cells Z 478)).heap[w.heap.size + 1]? = some (.cells Z 478 (0, 0)) := fun o0 Z => by
  rw [show w.heap.size + 1 = (w.alloc o0).heap.size by simp, heap_new']
 have B0 := Lib.hid hb0
 have B1 := Lib.hid hb1
 clear hC hl hb0 hb1
 go_enter Tryz.func377, Tryz.ntmps377
 go_wp2
 obtain ⟨W0, hW0⟩ : ∃ W0, W0 = ((w.alloc (Obj.cells (bA l) 478)).alloc (Obj.cells #[.int .u8 0, .int .u8 0, .int .u8 0, .int .u8 0, .int .u8 0, .int .u8 0, .int .u8 0, .int .u8 0, .int .u8 0, .int .u8 0, .int .u8 0, .int .u8 0, .int .u8 0, .int .u8 0, .int .u8 0, .int .u8 0] 478)) := ⟨_, rfl⟩
 have hbel : Below w.heap.size w W0 := by rw [hW0]; exact (((Below.refl _ _).alloc (Nat.le_refl _) _).alloc (by simp) _)
 have g0 : W0.heap[w.heap.size]? = some (.cells (bA l) 478 (0, 0)) := by rw [hW0]; exact B0.out _
 have g1 : ∃ Z, Z.size = 16 /\ W0.heap[w.heap.size + 1]? = some (.cells Z 478 (0, 0)) := ⟨_, rfl, by rw [hW0]; exact B1.out _ _⟩
 rw [<- hW0];clear hW0 B0 B1;have HBL := Lib.hid hbel;have HG0 := Lib.hid g0;have HG1 := Lib.hid g1;have HC0 : Hid (Cip W0 c b g n cap r W) := HC.out.up hbel (Nat.le_refl _)
 have hS0 : ∀ w', Below W0.heap.size W0 w' -> w'.rangeAt w.heap.size 0 (bA l).toList /\ w'.cell? ⟨c, 0, none⟩ = some (.pointer (some ⟨b, 0, none⟩)) := fun w' h =>
  ⟨range_bA l ((h.block _ (lt_of_block g0)).trans g0), (HC0.out.up h (Nat.le_refl _)).c0⟩
 clear hbel g0 g1;have HKEY : Hid (∀ (i : Nat) (s : List Nat), By s -> i <= r -> ∀ (I : Int), I = (i : Int) -> ∀ w', Cip w' c b g n cap r W -> Calls Tryz.prog 393 #[.pointer (some ⟨c, 0, none⟩), .agg (stA s b), .int .i64 I] w' fun e w'' => e = .returned (.agg (stA (keyL s W i) b)) /\ Below w'.heap.size w' w'') := fun i s hs hi I hI w' hC => hI ▸ key_c c b g n cap r W s hs.1 hs.2 i (by omega) (by omega) w' hC
 have HKB : Hid (By (keyL l W 0)) := key_by l W 0 HL.out HC0.out.fbyte (by omega)
 have HOK : Hid (∀ w', Below W0.heap.size W0 w' -> Below W0.heap.size W0 w' /\ w'.rangeAt w.heap.size 0 (bA l).toList /\ w'.cell? ⟨c, 0, none⟩ = some (.pointer (some ⟨b, 0, none⟩))) := fun w' h => ⟨h, hS0 w' h⟩
 go_cut [5] from 10 to 17 (fun s5 wx => ∃ q, s5 = .pointer (some ⟨q, 0, none⟩) /\ W0.heap.size <= q /\ Hid (wx.heap[q]? = some (.cells (stA (encS W l 0) b) 497 (0, 0))) /\ Hid (Below W0.heap.size W0 wx))
 case first =>
  refine wp_region_held_drew (S := (fun w' => Below W0.heap.size W0 w' /\ w'.rangeAt w.heap.size 0 (bA l).toList /\ w'.cell? ⟨c, 0, none⟩ = some (.pointer (some ⟨b, 0, none⟩)))) (by kernel_rfl) (HOK.out _ (Below.refl _ _).drew) ?_
  clear hS0;intro hS
  change wpAnyH _ _ _ _ _ 10 #[false, false, false, false, false, false, false, false, false, false] _ _
  refine wpAnyH_take (i := 0) (v := ?_) rfl (by kernel_rfl) (by kernel_rfl) (by kernel_rfl) (fun _ _ _ h => h) (Or.inl ⟨by rfl, ?hy⟩) hS ?_
  case hy => intro w' hSw; obtain ⟨hw1, hw2, hw3⟩ := hSw; go_simp; try with_reducible rfl
  simp only [gA, gS, gZ, Act.put, sA, sZ, sS]
  refine wpAnyH_take (i := 2) (v := ?_) rfl (by kernel_rfl) (by kernel_rfl) (by kernel_rfl) (fun _ _ _ h => h) (Or.inl ⟨by rfl, ?hy⟩) hS ?_
  case hy => intro w' hSw; obtain ⟨hw1, hw2, hw3⟩ := hSw; go_simp; try with_reducible rfl
  simp only [gA, gS, gZ, Act.put, sA, sZ, sS]
  refine wpAnyH_take (i := 3) (v := ?_) rfl (by kernel_rfl) (by kernel_rfl) (by kernel_rfl) (fun _ _ _ h => h) (Or.inl ⟨by rfl, ?hy⟩) hS ?_
  case hy => intro w' hSw; obtain ⟨hw1, hw2, hw3⟩ := hSw; go_simp; try with_reducible rfl
  simp only [gA, gS, gZ, Act.put, sA, sZ, sS]
  refine wpAnyH_take (i := 4) (v := ?_) rfl (by kernel_rfl) (by kernel_rfl) (by kernel_rfl) (fun _ _ _ h => h) (Or.inl ⟨by rfl, ?hy⟩) hS ?_
  case hy => intro w' hSw; obtain ⟨hw1, hw2, hw3⟩ := hSw; go_simp; try with_reducible rfl
  simp only [gA, gS, gZ, Act.put, sA, sZ, sS]
  refine wpAnyH_take (i := 5) (v := ?_) rfl (by kernel_rfl) (by kernel_rfl) (by kernel_rfl) (fun _ _ _ h => h) (Or.inl ⟨by rfl, ?hy⟩) hS ?_
  case hy => intro w' hSw; obtain ⟨hw1, hw2, hw3⟩ := hSw; go_simp; try with_reducible rfl
  simp only [gA, gS, gZ, Act.put, sA, sZ, sS]
  refine wpAnyH_take (i := 1) rfl (by kernel_rfl) (by kernel_rfl) (by kernel_rfl) (fun _ _ _ h => h) (yieldsIf_load_mid (by rfl) _ _ rfl w.heap.size 0 rfl (bA l).toList _ (fun _ h => h.2.1) Tryz.underlying478 rfl (by rw [zero16']; simp [bA_size, HL.out.1])) hS ?_
  simp only [gA, gS, gZ, Act.put, sA, sZ, sS]
  refine wpAnyH_take (i := 6) rfl (by kernel_rfl) (by kernel_rfl) (by kernel_rfl) (fun _ _ _ h => h) (Or.inl ⟨by rfl, fun w' _ => run_build_state l b HL.out.1 _ (.tmp 11) (.tmp 15) _ rfl rfl rfl w'⟩) hS ?_
  simp only [gA, gS, gZ, Act.put, sA, sZ, sS]
  refine wpAnyH_ready (rs := [7, 8]) (by kernel_rfl) (by simp) ?_
  refine AllReadyH.cons rfl (fun K hK => ?_) ?_
  ·skip
   rw [if_pos (by rfl)]
   go_simp
   refine (HKEY.out 0 l HL.out (by omega) _ rfl _ (HC0.out.up hS.1 (Nat.le_refl _))).mono ?_
   rintro e w1 ⟨rfl, hb1⟩
   refine hK.out _ _ (HOK.out _ (hS.1.trans (hb1.mono hS.1.size))) (fun hS2 => ?_)
   clear hK K;simp only [gA, gS, gZ, Act.put, sA, sZ, sS]
   refine wpAnyH_ready (rs := [8]) (by kernel_rfl) (by simp) ?_
   refine AllReadyH.cons rfl (fun K hK => ?_) AllReadyH.nil
   rw [if_pos (by rfl)]
   go_simp
   refine hK.out _ _ (HOK.out _ (hS2.1.alloc hS2.1.size _)) (fun hS3 => ?_)
   clear hK K;simp only [gA, gS, gZ, Act.put, sA, sZ, sS]
   refine wpAnyH_ready (rs := [9]) (by kernel_rfl) (by simp) ?_
   refine AllReadyH.cons rfl (fun K hK => ?_) AllReadyH.nil
   rw [if_pos (by rfl)]
   refine wp_store_row 497 (.tmp 5) (.tmp 17) rfl w1.heap.size (stA (keyL l W 0) b) rfl rfl 497 _ (heap_new' _ _) (by rw [st17, stA_size, HKB.out.1]) (by rw [stA_size, HKB.out.1]; rfl) (stA_one _ _) ?_
   refine hK.out _ _ (HOK.out _ (below_setRow hS3.1 hS2.1.size _)) (fun hS4 => ?_)
   clear hK K;simp only [gA, gS, gZ, Act.put, sA, sZ, sS]
   change wpAnyH _ _ _ _ _ 0 _ _ _
   refine wpAnyH_done (by kernel_rfl) ?_ _
   go_wp2_with fail
   go_meet
   exact ⟨_, rfl, hS2.1.size, setRow_heap _ _ _ _ _ _ (heap_new' _ _), hS4.1⟩
  ·refine AllReadyH.cons rfl (fun K hK => ?_) AllReadyH.nil
   rw [if_pos (by rfl)]
   go_simp
   refine hK.out _ _ (HOK.out _ (hS.1.alloc (Nat.le_refl _) _)) (fun hS2 => ?_)
   clear hK K;simp only [gA, gS, gZ, Act.put, sA, sZ, sS]
   refine wpAnyH_ready (rs := [7]) (by kernel_rfl) (by simp) ?_
   refine AllReadyH.cons rfl (fun K hK => ?_) AllReadyH.nil
   rw [if_pos (by rfl)]
   go_simp
   refine (HKEY.out 0 l HL.out (by omega) _ rfl _ (HC0.out.up hS2.1 (Nat.le_refl _))).mono ?_
   rintro e w1 ⟨rfl, hb1⟩
   refine hK.out _ _ (HOK.out _ (hS2.1.trans (hb1.mono hS2.1.size))) (fun hS3 => ?_)
   clear hK K;simp only [gA, gS, gZ, Act.put, sA, sZ, sS]
   refine wpAnyH_ready (rs := [9]) (by kernel_rfl) (by simp) ?_
   refine AllReadyH.cons rfl (fun K hK => ?_) AllReadyH.nil
   rw [if_pos (by rfl)]
   have hq := (hb1.block W0.heap.size (by simp)).trans (heap_new' W0.drew _)
   refine wp_store_row 497 (.tmp 5) (.tmp 17) rfl W0.heap.size (stA (keyL l W 0) b) rfl rfl 497 _ hq (by rw [st17, stA_size, HKB.out.1]) (by rw [stA_size, HKB.out.1]; rfl) (stA_one _ _) ?_
   refine hK.out _ _ (HOK.out _ (below_setRow hS3.1 (Nat.le_refl _) _)) (fun hS4 => ?_)
   clear hK K;simp only [gA, gS, gZ, Act.put, sA, sZ, sS]
   change wpAnyH _ _ _ _ _ 0 _ _ _
   refine wpAnyH_done (by kernel_rfl) ?_ _
   go_wp2_with fail
   go_meet
   exact ⟨_, rfl, Nat.le_refl _, setRow_heap _ _ _ _ _ _ hq, hS4.1⟩
 case rest =>
  obtain ⟨q, rfl, hq0, hq, hqb⟩ := hcut
  clear hS0 HKB HOK;have HQ : Hid (W0.heap.size <= q) := hq0
  have HZ : Hid (w.heap.size + 1 < W0.heap.size) := by obtain ⟨Z, _, hz⟩ := HG1.out; exact lt_of_block hz
  have HB0 : Hid (IsBox W0 b) := HC0.out.fbox
  have HBY : Hid (∀ i, i <= r -> By (encS W l i)) := fun i hi => encS_by W l HL.out HC0.out.fbyte i (by omega)
  clear hq0;go_wp2
  go_loopw [6] (fun vi wr => ∃ i : Nat, i + 1 <= r /\ vi = .int .i64 ((i + 1 : Nat) : Int) /\ Hid (wr.heap[q]? = some (.cells (stA (encS W l i) b) 497 (0, 0))) /\ Hid (Below W0.heap.size W0 wr)) (fun vi _ => r - (intOf vi).toNat)
  case atStart => exact ⟨0, by omega, rfl, hq, hqb⟩
  case round =>
   clear hq hqb;obtain ⟨i, hi, rfl, hq, hqb⟩ := hrel
   have hCr := HC0.out.up hqb.out (Nat.le_refl _)
   have c2 := hCr.c2
   have HCr := Lib.hid hCr;clear hCr
   by_cases hlt : i + 1 < r
   ·have hd : decide (((i + 1 : Nat) : Int) < (r : Int)) = true := by simp; omega
    go_wp2_with (first
     | (refine wpList_load_row rfl 497 (.tmp 5) rfl q rfl _ _ _ _ hq.out Tryz.underlying497 rfl (by rw [st17, stA_size, (HBY.out i (by omega)).1]) ?_)
     | fail)
    refine (all3_c b _ (HBY.out i (by omega)) wr.heap.size _ _ (HB0.out.later (hqb.out.alloc (hqb.out.size) _) HB0.out.lt) (heap_new' _ _)).mono ?_
    rintro e w1 ⟨rfl, hb1⟩
    have hz1 := hb1.size
    rw [World.size_alloc] at hz1;have HB1 : Hid (Below wr.heap.size wr w1) := ((Below.refl _ _).alloc (Nat.le_refl _) _).trans (hb1.mono (by simp))
    have hs3 : By (smixL (shiftL (ssubL (encS W l i)))) := stp_mix.okay _ (stp_shift.okay _ (stp_sub.okay _ (HBY.out i (by omega))))
    have HS3 := Lib.hid hs3;clear hb1 hs3;go_wp2_with fail
    refine (HKEY.out (i + 1) _ HS3.out (by omega) _ (by omega) _ (HCr.out.up HB1.out (Nat.le_refl _))).mono ?_
    rintro e w2 ⟨rfl, hb2⟩
    have HB2 : Hid (Below wr.heap.size wr w2) := HB1.out.trans (hb2.mono HB1.out.size)
    have HQ2 := Lib.hid ((HB2.out.block q (lt_of_block hq.out)).trans hq.out)
    clear hb2;go_wp2_with (first
     | (refine wpList_store_row rfl 497 (.tmp 5) (.tmp 31) rfl q _ rfl rfl 497 _ HQ2.out (by rw [st17, stA_size, <- encS_succ, (HBY.out (i + 1) (by omega)).1]) (by rw [stA_size, stA_size, <- encS_succ, (HBY.out (i + 1) (by omega)).1, (HBY.out i (by omega)).1]) (stA_one _ _) ?_)
     | fail)
    go_roundw
    case rel => exact ⟨i + 1, by omega, by go_num, setRow_heap _ _ _ _ _ _ HQ2.out, below_setRow (hqb.out.trans (HB2.out.mono hqb.out.size)) HQ.out _⟩
    case measure => simp [intOf]; omega
   ·obtain rfl : r = i + 1 := by omega
    have hd : decide (((i + 1 : Nat) : Int) < ((i + 1 : Nat) : Int)) = false := by simp
    go_wp2
    have HI := Lib.hid (HBY.out i (by omega))
    have HI2 := Lib.hid (stp_shift.okay _ (stp_sub.okay _ (HBY.out i (by omega))))
    have HI3 : Hid (By (encL W (i + 1) l)) := by unfold encL; exact key_by _ W (i + 1) HI2.out HC0.out.fbyte hr
    have HBW : Hid (Below w.heap.size w wr) := HBL.out.trans (hqb.out.mono HBL.out.size)
    obtain ⟨Z, hZ, hZ2⟩ := HG1.out
    have HZ3 := Lib.hid hZ;have HG3 := Lib.hid ((hqb.out.block _ HZ.out).trans hZ2)
    clear hZ hZ2 c2;have HOK : Hid (∀ w', Below wr.heap.size wr w' -> Below wr.heap.size wr w' /\ w'.rangeAt q 0 (stA (encS W l i) b).toList /\ w'.cell? ⟨c, 2, none⟩ = some (.int .i64 ((i + 1 : Nat) : Int))) := fun w' h =>
     ⟨h, fun j v hv => by rw [Nat.zero_add, cells_at ((h.block _ (lt_of_block hq.out)).trans hq.out) j]; simpa using hv, (HCr.out.up h (Nat.le_refl _)).c2⟩
    refine wp_region_held_drew (S := fun w' => w'.rangeAt q 0 (stA (encS W l i) b).toList /\ w'.cell? ⟨c, 2, none⟩ = some (.int .i64 ((i + 1 : Nat) : Int))) (by kernel_rfl) (HOK.out _ (Below.refl _ _).drew).2 ?_
    intro hS
    change wpAnyH _ _ _ _ _ 11 #[false, false, false, false, false, false, false, false, false, false, false] _ _
    refine wpAnyH_take (i := 0) (v := ?_) rfl (by kernel_rfl) (by kernel_rfl) (by kernel_rfl) (fun _ _ _ h => h) (Or.inl ⟨by rfl, ?hy⟩) hS ?_
    case hy => intro w' hSw; obtain ⟨hw2, hw3⟩ := hSw; go_simp; try with_reducible rfl
    simp only [gA, gS, gZ, Act.put, sA, sZ, sS]
    refine wpAnyH_take (i := 4) (v := ?_) rfl (by kernel_rfl) (by kernel_rfl) (by kernel_rfl) (fun _ _ _ h => h) (Or.inl ⟨by rfl, ?hy⟩) hS ?_
    case hy => intro w' hSw; obtain ⟨hw2, hw3⟩ := hSw; go_simp; try with_reducible rfl
    simp only [gA, gS, gZ, Act.put, sA, sZ, sS]
    refine wpAnyH_take (i := 5) (v := ?_) rfl (by kernel_rfl) (by kernel_rfl) (by kernel_rfl) (fun _ _ _ h => h) (Or.inl ⟨by rfl, ?hy⟩) hS ?_
    case hy => intro w' hSw; obtain ⟨hw2, hw3⟩ := hSw; go_simp; try with_reducible rfl
    simp only [gA, gS, gZ, Act.put, sA, sZ, sS]
    refine wpAnyH_take (i := 6) (v := ?_) rfl (by kernel_rfl) (by kernel_rfl) (by kernel_rfl) (fun _ _ _ h => h) (Or.inl ⟨by rfl, ?hy⟩) hS ?_
    case hy => intro w' hSw; obtain ⟨hw2, hw3⟩ := hSw; go_simp; try with_reducible rfl
    simp only [gA, gS, gZ, Act.put, sA, sZ, sS]
    refine wpAnyH_take (i := 7) (v := ?_) rfl (by kernel_rfl) (by kernel_rfl) (by kernel_rfl) (fun _ _ _ h => h) (Or.inl ⟨by rfl, ?hy⟩) hS ?_
    case hy => intro w' hSw; obtain ⟨hw2, hw3⟩ := hSw; go_simp; try with_reducible rfl
    simp only [gA, gS, gZ, Act.put, sA, sZ, sS]
    refine wpAnyH_take (i := 1) rfl (by kernel_rfl) (by kernel_rfl) (by kernel_rfl) (fun _ _ _ h => h) (yieldsIf_load_mid (by rfl) _ _ rfl q 0 rfl (stA (encS W l i) b).toList _ (fun _ h => h.1) Tryz.underlying497 rfl (by rw [st17]; simp [stA_size, HI.out.1])) hS ?_
    simp only [gA, gS, gZ, Act.put, sA, sZ, sS]
    have hb0 : Below wr.heap.size wr wr.drew := (Below.refl _ _).drew
    refine wpAnyH_ready (rs := [2]) (by kernel_rfl) (by simp) ?_
    refine AllReadyH.cons rfl (fun K hK => ?_) AllReadyH.nil
    rw [if_pos (by rfl)]
    go_simp
    have hb1 : ∀ o, Below wr.heap.size wr (wr.drew.alloc o) := fun o => hb0.alloc (Nat.le_refl _) o
    refine hK.out _ _ ((HOK.out _ (hb1 _)).2) (fun hS1 => ?_)
    clear hK K;simp only [gA, gS, gZ, Act.put, sA, sZ, sS]
    refine wpAnyH_ready (rs := [3]) (by kernel_rfl) (by simp) ?_
    refine AllReadyH.cons rfl (fun K hK => ?_) AllReadyH.nil
    rw [if_pos (by rfl)]
    go_simp
    refine (all2_c b _ HI.out wr.heap.size _ _ (HB0.out.later (hqb.out.trans ((hb1 _).mono hqb.out.size)) HB0.out.lt) (heap_new' wr.drew _)).mono ?_
    rintro e w1 ⟨rfl, hc1⟩
    have hb2 := (hb1 _).trans (hc1.mono (hb1 _).size)
    refine hK.out _ _ ((HOK.out _ hb2).2) (fun hS2 => ?_)
    clear hK K;simp only [gA, gS, gZ, Act.put, sA, sZ, sS]
    refine wpAnyH_ready (rs := [8]) (by kernel_rfl) (by simp) ?_
    refine AllReadyH.cons rfl (fun K hK => ?_) AllReadyH.nil
    rw [if_pos (by rfl)]
    go_simp
    refine (HKEY.out (i + 1) _ HI2.out (Nat.le_refl _) _ (by omega) _ (HCr.out.up hb2 (Nat.le_refl _))).mono ?_
    rintro e w2 ⟨rfl, hc2⟩
    have hb3 := hb2.trans (hc2.mono hb2.size)
    refine hK.out _ _ ((HOK.out _ hb3).2) (fun hS3 => ?_)
    clear hK K;simp only [gA, gS, gZ, Act.put, sA, sZ, sS]
    refine wpAnyH_take (i := 9) rfl (by kernel_rfl) (by kernel_rfl) (by kernel_rfl) (fun _ _ _ h => h) (Or.inl ⟨by rfl, fun w' _ => run_field_state (encL W (i + 1) l) b HI3.out.1 _ (.tmp 40) _ rfl rfl w'⟩) hS3 ?_
    simp only [gA, gS, gZ, Act.put, sA, sZ, sS]
    refine wpAnyH_ready (rs := [10]) (by kernel_rfl) (by simp) ?_
    refine AllReadyH.cons rfl (fun K hK => ?_) AllReadyH.nil
    rw [if_pos (by rfl)]
    have hq3 := (hb3.block (w.heap.size + 1) (lt_of_block HG3.out)).trans HG3.out
    refine wp_store_row 478 (.tmp 4) (.tmp 41) rfl (w.heap.size + 1) (bA (encL W (i + 1) l)) rfl rfl 478 _ hq3 (by rw [zero16', bA_size, HI3.out.1]) (by rw [HZ3.out, bA_size, HI3.out.1]) (bA_one _) ?_
    have hqn : w.heap.size + 1 ≠ q := by have := HQ.out; have := HZ.out; omega
    have hcn := HC.out.lt.1
    refine hK.out _ _ (⟨fun j v hv => by rw [Nat.zero_add, cells_at ((setRow_other _ _ _ _ hqn.symm).trans ((hb3.block _ (lt_of_block hq.out)).trans hq.out))]; simpa using hv, ((below_setRow (hb3.mono (Nat.le_of_lt (lt_of_block HG3.out))) (Nat.le_refl _) _).cell (p := ⟨c, 2, none⟩) (by show c < _; omega)).trans HCr.out.c2⟩) (fun hS4 => ?_)
    clear hK K;simp only [gA, gS, gZ, Act.put, sA, sZ, sS]
    change wpAnyH _ _ _ _ _ 0 _ _ _
    refine wpAnyH_done (by kernel_rfl) ?_ _
    go_wp2_with fail
    exact bodyPost_ret (results_cell_row rfl _ _ (w.heap.size + 1) 478 (bA (encL W (i + 1) l)) (0, 0) _ rfl (setRow_heap _ _ _ _ _ _ hq3) Tryz.underlying478 rfl (by rw [zero16', bA_size, HI3.out.1])) rfl ⟨rfl, below_setRow (HBW.out.trans (hb3.mono HBW.out.size)) (by omega) _⟩
def nextN (n i : Nat) (t : Nat -> Nat) : Nat -> Nat :=
 if i % n = 0 then fun j => if j = 0 then sbx (t 1) ^^^ powN 2 (i / n - 1) else sbx (t ((j + 1) % 4))
 else if n > 6 /\ i % n = 4 then subN4 t else t
def rotf (t : Nat -> Nat) (j : Nat) : Nat := t ((j + 1) % 4)
theorem range_word {w : World} {c b g n cap r : Nat} {W : List Nat} (h : Cip w c b g n cap r W) (q : Nat) (hq : q < n) : w.rangeAt g (4 * q) (v4 (colOf W q)).toList := by
 intro j v hv;have hj : j < 4 := by
  have := (List.getElem?_eq_some_iff.1 hv).1; simpa [v4] using this
 have hl := h.flen
 rw [h.wd (4 * q + j) (by omega)]
 rw [Array.getElem?_toList, v4_get _ j hj] at hv
 exact hv
theorem next4_c (c b g i cap r : Nat) (W : List Nat) (hi1 : 4 <= i) (hi2 : i < 1000) (w : World) (hC : Cip w c b g i cap r W) :
  Calls Tryz.prog 61 #[.pointer (some ⟨c, 0, none⟩), .int .i64 (i : Int), .int .i64 4] w fun e w' => e = .returned (.agg (v4 (nextN 4 i (colOf W (i - 1))))) /\ Below w.heap.size w w' := by
 have hlen := hC.flen
 have hcap := hC.fcap
 have hcm := hC.fcapm
 unfold maxLen at hcm
 have hby : ∀ j, j < 4 -> colOf W (i - 1) j < 256 := fun j hj => by
  unfold colOf;rw [List.getD_eq_getElem?_getD, List.getElem?_eq_getElem (by omega)]
  exact hC.fbyte _ (List.getElem_mem _)
 have HR : Hid (∀ w', Below w.heap.size w w' -> w'.rangeAt g ((i - 1) * 4) (v4 (colOf W (i - 1))).toList) := fun w' h => by rw [Nat.mul_comm]; exact range_word (hC.up h (Nat.le_refl _)) (i - 1) (by omega)
 have HSUB : Hid (∀ a : Nat -> Nat, (∀ j, j < 4 -> a j < 256) -> ∀ w', Below w.heap.size w w' -> Calls Tryz.prog 80 #[.pointer (some ⟨c, 0, none⟩), .agg (v4 a)] w' fun e w'' => e = .returned (.agg (v4 (subN4 a))) /\ Below w'.heap.size w' w'') := fun a ha w' h => csub_c c b g i cap r W a ha w' (hC.up h (Nat.le_refl _))
 have HBY := Lib.hid hby;have hc1 : ∀ o, (w.alloc o).cell? ⟨c, 1, none⟩ = some (.slice (some ⟨g, 0, none⟩) i cap) := fun o => (hC.up ((Below.refl _ _).alloc (Nat.le_refl _) o) (Nat.le_refl _)).c1
 have HB1 : Hid (∀ o, Below w.heap.size w (w.alloc o)) := fun o => (Below.refl _ _).alloc (Nat.le_refl _) o
 have HB2 : Hid (∀ o p, Below w.heap.size w ((w.alloc o).alloc p)) := fun o p => ((Below.refl _ _).alloc (Nat.le_refl _) o).alloc (by simp) p
 have A7 : Hid (∀ o (Z : Array Value), ((w.alloc o).alloc (Obj.cells Z 149)).heap[w.heap.size + 1]? = some (.cells Z 149 (0, 0))) := fun o Z => by
  rw [show w.heap.size + 1 = (w.alloc o).heap.size by simp, heap_new']
 have A6 : Hid (∀ p (Z : Array Value), ((w.alloc (Obj.cells Z 149)).alloc p).heap[w.heap.size]? = some (.cells Z 149 (0, 0))) := fun o Z => by
  rw [heap_old' _ _ _ (by simp), heap_new']
 generalize ht : colOf W (i - 1) = t at *
 clear ht;clear hC hby hlen;have e1 : IntKind.i64.wrap ((i : Int) - 1) = (i : Int) - 1 := IntWalk.i64_in _ (by omega)
 have e2 : (0 : Int) <= (i : Int) - 1 := by omega
 have e3 : ((i : Int) - 1).toNat = i - 1 := by omega
 have e4 : (i : Int) - 1 < (i : Int) := by omega
 obtain ⟨m, hm⟩ : ∃ m, m = i % 4 := ⟨_, rfl⟩
 have e5 : (i : Int) % 4 = (m : Int) := by omega
 have e6 : (i : Int).tmod 4 = (m : Int) := by rw [Int.tmod_eq_emod_of_nonneg (by omega)]; exact e5
 have HM := Lib.hid hm;clear hm
 go_enter Tryz.func61, Tryz.ntmps61
 go_upto_region 2 with (first
    | (refine wpList_load_mid rfl 149 (.tmp 14) rfl g ((i - 1) * 4) rfl _ _ (HR.out _ (HB1.out _)) Tryz.underlying149 rfl (by rw [four4]; simp [v4]) ?_)
    | (refine wpList_store_row rfl 149 (.tmp 7) (.tmp 15) rfl (w.heap.size + 1) _ rfl rfl 149 _ (A7.out _ _) (by rw [four4]; rfl) rfl (v4_one _) ?_)
    | fail)
 have n7 := setRow_heap _ _ _ (v4 t) _ _ (A7.out (Obj.cells #[.int .u8 0, .int .u8 0, .int .u8 0, .int .u8 0] 149) #[.int .u8 0, .int .u8 0, .int .u8 0, .int .u8 0])
 have n6 := (setRow_other _ (w.heap.size + 1) w.heap.size (v4 t) (by omega)).trans (A6.out (Obj.cells #[.int .u8 0, .int .u8 0, .int .u8 0, .int .u8 0] 149) #[.int .u8 0, .int .u8 0, .int .u8 0, .int .u8 0])
 have nb := below_setRow (HB2.out (Obj.cells #[.int .u8 0, .int .u8 0, .int .u8 0, .int .u8 0] 149) (Obj.cells #[.int .u8 0, .int .u8 0, .int .u8 0, .int .u8 0] 149)) (by omega : w.heap.size <= w.heap.size + 1) (v4 t)
 obtain ⟨W2, hW2⟩ : ∃ W2, W2 = (((w.alloc (Obj.cells #[.int .u8 0, .int .u8 0, .int .u8 0, .int .u8 0] 149)).alloc (Obj.cells #[.int .u8 0, .int .u8 0, .int .u8 0, .int .u8 0] 149)).setRow (w.heap.size + 1) (v4 t)) := ⟨_, rfl⟩
 rw [<- hW2] at n7 n6 nb
 try rw [<- hW2]
 have N7 := Lib.hid n7
 have N6 := Lib.hid n6
 have NB := Lib.hid nb
 have HZ : Hid (w.heap.size + 1 < W2.heap.size) := lt_of_block n7
 have c0 := (cells_at n7 0).trans (v4_get t 0 (by omega))
 have c1 := (cells_at n7 1).trans (v4_get t 1 (by omega))
 have c2 := (cells_at n7 2).trans (v4_get t 2 (by omega))
 have c3 := (cells_at n7 3).trans (v4_get t 3 (by omega))
 clear hW2 n7 n6 nb A7 A6 HB1 HB2 HR hc1 e1 e2 e3 e4
 by_cases h0 : m = 0
 ·subst h0
  go_wp2_with fail
  refine (HSUB.out (rotf t) (fun j hj => HBY.out _ (by omega)) _ NB.out).mono ?_
  rintro e w3 ⟨rfl, hb3⟩
  have g7 := (hb3.block _ HZ.out).trans N7.out
  have G6 := Lib.hid ((hb3.block _ (by have := HZ.out; omega)).trans N6.out)
  have GB := Lib.hid (NB.out.trans (hb3.mono (by have := HZ.out; omega)))
  have G7 := Lib.hid g7
  clear g7 hb3 N6 N7 NB HZ c0 c1 c2 c3
  go_upto_region 4 with (first
    | (refine wpList_store_row rfl 149 (.tmp 7) (.tmp 31) rfl (w.heap.size + 1) _ rfl rfl 149 _ G7.out (by rw [four4]; rfl) rfl (v4_one _) ?_)
    | fail)
  have n7 := setRow_heap _ _ _ (v4 (subN4 (rotf t))) _ _ G7.out
  have n6 := (setRow_other _ (w.heap.size + 1) w.heap.size (v4 (subN4 (rotf t))) (by omega)).trans G6.out
  have nb := below_setRow GB.out (by omega : w.heap.size <= w.heap.size + 1) (v4 (subN4 (rotf t)))
  obtain ⟨W4, hW4⟩ : ∃ W4, W4 = (w3.setRow (w.heap.size + 1) (v4 (subN4 (rotf t)))) := ⟨_, rfl⟩
  rw [<- hW4] at n7 n6 nb;rw [<- hW4];clear hW4 G7 G6 GB;obtain ⟨q, hq⟩ : ∃ q, q = i / 4 := ⟨_, rfl⟩
  obtain ⟨p, hp⟩ : ∃ p, p = i / 4 - 1 := ⟨_, rfl⟩
  have e7 : IntKind.i64.wrap ((i : Int) / 4) = (q : Int) := by rw [IntWalk.i64_in _ (by omega)]; omega
  have e8 : IntKind.i64.wrap ((q : Int) - 1) = (p : Int) := by rw [IntWalk.i64_in _ (by omega)]; omega
  have HPOW : Hid (∀ w, Calls Tryz.prog 81 #[.int .u8 2, .int .i64 (p : Int)] w fun e w' => e = .returned (.int .u8 ((powN 2 p : Nat) : Int)) /\ w' = w) := fun w => (power_c 2 p (by omega) (by omega) w).mono fun _ _ h => ⟨h.1, h.2.symm⟩
  have HP := Lib.hid hp;clear hq hp;have c0 := (cells_at n7 0).trans (v4_get (subN4 (rotf t)) 0 (by omega))
  have f0 := free_at n7 0
  have hu : subN4 (rotf t) 0 < 256 := sbx_lt _ (HBY.out _ (by omega))
  have hx : bits BinOp.xor IntKind.u8 (subN4 (rotf t) 0 : Int) (powN 2 p : Int) = ((subN4 (rotf t) 0 ^^^ powN 2 p : Nat) : Int) := u8x rfl rfl hu (powN_lt _ _)
  have m7 := block_at n7 0 (.int .u8 ((subN4 (rotf t) 0 ^^^ powN 2 p : Nat) : Int))
  rw [show (v4 (subN4 (rotf t))).setIfInBounds 0 (.int .u8 ((subN4 (rotf t) 0 ^^^ powN 2 p : Nat) : Int)) = v4 (fun j => if j = 0 then sbx (t 1) ^^^ powN 2 p else sbx (t ((j + 1) % 4))) from rfl, <- hx] at m7
  have m6 := (Below.heap_setCell W4 ⟨w.heap.size + 1, 0, none⟩ (.int .u8 (bits BinOp.xor IntKind.u8 (subN4 (rotf t) 0 : Int) (powN 2 p : Int))) w.heap.size (by simp)).trans n6
  have mb := (nb.setCell (p := ⟨w.heap.size + 1, 0, none⟩) (by simp) (.int .u8 (bits BinOp.xor IntKind.u8 (subN4 (rotf t) 0 : Int) (powN 2 p : Int)))).drew
  have hfin : v4 (fun j => if j = 0 then sbx (t 1) ^^^ powN 2 p else sbx (t ((j + 1) % 4))) = v4 (nextN 4 i t) := by unfold nextN; rw [if_pos HM.out.symm, HP.out]
  rw [hfin] at m7;have M7 := Lib.hid m7
  have M6 := Lib.hid m6
  have MB := Lib.hid mb
  clear n7 n6 nb hx m7 m6 mb hu hfin;refine wp_region_still_tail 9 (by kernel_rfl) (by kernel_rfl) ?_
  simp only [List.take_succ_cons, List.take_zero, List.drop_succ_cons, List.drop_zero]
  change wpStill _ _ W4.drew _ _ _
  repeat still_step
  still_call (HPOW.out _)
  repeat still_step
  refine wpStill_nil ?_
  change wpList _ _ _ _ _ W4.drew
  clear e5 e6 e7 e8;go_wp2_with (first
    | (refine wpList_load_row rfl 149 (.tmp 7) rfl (w.heap.size + 1) rfl _ _ _ _ M7.out Tryz.underlying149 rfl (by rw [four4]; rfl) ?_)
    | (refine wpList_store_row rfl 149 (.tmp 6) (.tmp 53) rfl w.heap.size _ rfl rfl 149 _ M6.out (by rw [four4]; rfl) rfl (v4_one _) ?_))
  exact bodyPost_ret (results_cell_row rfl _ _ w.heap.size 149 (v4 (nextN 4 i t)) (0, 0) _ rfl (setRow_heap _ _ _ _ _ _ M6.out) Tryz.underlying149 rfl (by rw [four4]; rfl)) rfl ⟨rfl, below_setRow MB.out (Nat.le_refl _) _⟩
 ·have hmI : ¬ (m : Int) = 0 := by omega
  clear c0 c1 c2 c3;have hfin : v4 (nextN 4 i t) = v4 t := by unfold nextN; rw [if_neg (by rw [<- HM.out]; exact h0), if_neg (by omega)]
  go_wp2_with (first
    | (refine wpList_load_row rfl 149 (.tmp 7) rfl (w.heap.size + 1) rfl _ _ _ _ N7.out Tryz.underlying149 rfl (by rw [four4]; rfl) ?_)
    | (refine wpList_store_row rfl 149 (.tmp 6) (.tmp 53) rfl w.heap.size _ rfl rfl 149 _ N6.out (by rw [four4]; rfl) rfl (v4_one _) ?_))
  exact bodyPost_ret (results_cell_row rfl _ _ w.heap.size 149 (v4 t) (0, 0) _ rfl (setRow_heap _ _ _ _ _ _ N6.out) Tryz.underlying149 rfl (by rw [four4]; rfl)) rfl ⟨by rw [hfin], below_setRow NB.out (Nat.le_refl _) _⟩
def OnlyN (Q : Act -> World -> Prop) : Exit -> Act -> World -> Prop
 | .normal, a, w => Q a w
 | _, _, _ => False
theorem onlyN_out (Q : Act -> World -> Prop) : ¬ LetsOut (OnlyN Q) := fun ⟨_, _, h⟩ => h
theorem upon_round {l n : Nat} {P : Program} {o : Oper} {a : Act} {K : Act -> World -> Prop} {Q : Act -> World -> Prop} {Q' : Exit -> Act -> World -> Prop} {r : Result Next}
  (h : o.upon P a K (OnlyN Q) r) : o.uponIn (Fence.wide.inRound l) n P a K Q' r := by
 cases r with
 | ok x w' =>
  cases x with
  | value v => exact h
  | skip => exact h
  | defer d => exact h
  | enter f args =>
   refine ⟨fun h => (by cases h), ?_⟩
   refine CallsIn.inRound l (callsIn_wide.2 (Calls.mono h ?_))
   intro e w'' he
   cases e with
   | returned v => exact he
   | panicked c => exact (he : False).elim
   | outgrown => exact (onlyN_out Q he).elim
  | row row args =>
   refine ⟨fun h => (by cases h), ?_⟩
   exact fun c cs _ => let ⟨v, w', r, s⟩ := h c cs; ⟨v, w', r, stepsIn_wide.2 s⟩
  | _ => exact (h : False).elim
 | halt x w' =>
  cases x with
  | panic v => exact (h : False).elim
  | _ => exact (h : False).elim
theorem wpOp_round {l n : Nat} {P : Program} {ops : Array Oper} {K : Act -> World -> Prop} {Q : Act -> World -> Prop} {Q' : Exit -> Act -> World -> Prop} {i : Nat} {a : Act} {w : World}
  (hd : ∀ (j : Nat) (o : Oper) c, ops[j]? = some o -> o.op ≠ Op.defer c) (h : wpOp P ops (OnlyN Q) i K a w) : wpOpIn (Fence.wide.inRound l) n P ops Q' i K a w := by
 unfold wpOp at h
 unfold wpOpIn
 cases ho : ops[i]? with
 | none => simp only [ho] at h; exact h
 | some o =>
  simp only [ho] at h
  show if _ then _ else _
  split
  ·rename_i hw
   rw [if_pos hw] at h
   rcases h with h | ⟨_, h⟩
   ·refine ⟨fun _ _ => trivial, ?_⟩
    show o.uponIn _ _ _ _ _ _ ((Oper.semAt (some l) a.eval o).run P w)
    rw [Oper.semAt_some l a.eval o (fun c => hd i o c ho)]
    exact upon_round h
   ·exact (onlyN_out Q h).elim
  ·rename_i hw
   rw [if_neg hw] at h
   exact ⟨fun _ _ => trivial, h⟩
theorem wpAny_round {l n : Nat} {P : Program} {md : Region.Mode} {ops : Array Oper} {Q : Act -> World -> Prop} {Q' : Exit -> Act -> World -> Prop} (hQ : ∀ a w, Q a w -> Q' .normal a w)
  (hd : ∀ (j : Nat) (o : Oper) c, ops[j]? = some o -> o.op ≠ Op.defer c) : ∀ (fuel : Nat) (listed : Array Bool) (a : Act) (w : World), wpAny P md ops (OnlyN Q) fuel listed a w -> wpAnyIn (Fence.wide.inRound l) n P md ops Q' fuel listed a w
 | 0, _, _, _, h => ⟨h.1, hQ _ _ h.2⟩
 | fuel + 1, _, _, _, h => ⟨fun h0 => hQ _ _ (h.1 h0), fun i hi => wpOpIn_mono (fun a' w' h' => wpAny_round hQ hd fuel _ a' w' h') (wpOp_round hd (h.2 i hi))⟩
theorem round_region {l n : Nat} {P : Program} {ops : Array Oper} {Q : Act -> World -> Prop} {Q' : Exit -> Act -> World -> Prop} {S : World -> Prop} {id : Nat} {a : Act} {w : World} (hm : P.follows .mixedOrders = true)
  (hd : ops.all (fun o => match o.op with | .defer _ => false | _ => true) = true) (hQ : ∀ a w, Q a w -> Q' .normal a w) (hS : S w.drew)
  (h : S w.drew -> wpAnyH P .any ops (OnlyN Q) S ops.size (Array.replicate ops.size false) a w.drew) : (Code.region id ops true).wpIn (Fence.wide.inRound l) n P Q' a w := by
 refine wpIn_region_any hm (wpAny_round hQ ?_ _ _ _ _ (wpAny_of_held _ _ _ _ (h hS)))
 intro j o c ho hc;rw [Array.all_eq_true] at hd;obtain ⟨hj, rfl⟩ := Array.getElem?_eq_some_iff.1 ho
 have := hd j hj
 rw [hc] at this
 cases this
attribute [local go_sem] Oper.semAt_some
def upF (n k : Nat) : List (Fin n) := (List.finRange n).take k
theorem upF_succ (n k : Nat) (h : k < n) : upF n (k + 1) = upF n k ++ [⟨k, h⟩] := by
 unfold upF;rw [List.take_succ_eq_append_getElem (by simp [h])]; simp
theorem upF_len (n k : Nat) (h : k <= n) : (upF n k).length = k := by simp [upF, h]
def pcV (g o : Nat) (j : Nat) : Value := .slice (some ⟨g, o + 4 * j, none⟩) 4 4
theorem key_elem : Tryz.prog.elem 46 = 5 := by kernel_rfl
theorem add_at (g o j : Nat) : (⟨g, o, none⟩ : Addr).add j = ⟨g, o + j, none⟩ := Addr.add_mid g o j
theorem key_from (g o len cap i : Nat) (h : i < len) (hc : len <= cap) (w : World) :
  (Instr.sliceAt 46 (.slice (some ⟨g, o, none⟩) len cap) (some (.int .i64 (i : Int))) none none).run Tryz.prog w = .ok (.slice (some ⟨g, o + i, none⟩) (len - i) (cap - i)) w := by
 have hu : Tryz.prog.underlying 46 = some (.slice (Tryz.prog.elem 46)) := by rw [key_elem]; exact Tryz.underlying46
 rw [run_sliceAt_slice (P := Tryz.prog) w 46 _ _ _ _ hu, run_slice_l w 46 _ len cap hu .i64 (i : Int) (by omega) (by omega), key_elem, u8size]
 simp only [Result.andThen, sliced, Int.toNat_natCast]
 rw [if_neg (by omega), Option.map_some, add_at, Nat.mul_one]
theorem key_piece (g o len cap i : Nat) (h : i + 4 <= cap) (w : World) :
  (Instr.sliceAt 46 (.slice (some ⟨g, o, none⟩) len cap) (some (.int .i64 (i : Int))) (some (.int .i64 ((i : Int) + 4))) (some (.int .i64 ((i : Int) + 4)))).run Tryz.prog w = .ok (.slice (some ⟨g, o + i, none⟩) 4 4) w := by
 have hu : Tryz.prog.underlying 46 = some (.slice (Tryz.prog.elem 46)) := by rw [key_elem]; exact Tryz.underlying46
 have e : ((i : Int) + 4).toNat = i + 4 := by omega
 rw [run_sliceAt_slice (P := Tryz.prog) w 46 _ _ _ _ hu, run_slice_lhm w 46 _ len cap hu .i64 .i64 .i64 (i : Int) ((i : Int) + 4) ((i : Int) + 4) (by omega) (by omega) (by omega) (by omega), key_elem, u8size]
 simp only [Result.andThen, sliced, Int.toNat_natCast, e]
 rw [if_neg (by omega), Option.map_some, add_at, Nat.mul_one, Nat.add_sub_cancel_left]
theorem chunk1_in (m l B1 B2 gk o cap n : Nat) (hn : 4 * n <= cap) (hcap : n < 250000) (J Jx : List (Fin n) -> World -> Prop) (Kp : World -> World -> Prop)
  (hK1 : ∀ A B, Kp A B -> B.cell? ⟨B1, 0, none⟩ = A.cell? ⟨B1, 0, none⟩ /\ B.cell? ⟨B2, 0, none⟩ = A.cell? ⟨B2, 0, none⟩ /\ A.heap.size <= B.heap.size) (W : World) (hJ : AbidesFrom W.heap.size J)
  (hY : ∀ pre x W1, J pre W1 -> pre.length < n -> YieldAt Fence.wide (m - 1) Tryz.prog l #[pcV gk o x.1] W1 fun e W' =>
   (e = .returned (.bool true) /\ J (pre ++ [x]) W' /\ Kp W1 W') \/ (e = .returned (.bool false) /\ Jx (pre ++ [x]) W'))
  (h1 : W.cell? ⟨B1, 0, none⟩ = some (.slice (some ⟨gk, o, none⟩) (4 * n) cap)) (h2 : W.cell? ⟨B2, 0, none⟩ = some (.int .i64 4)) (h0 : J [] W) :
  CallsIn Fence.wide m Tryz.prog 79 #[.func (.yield l) #[] #[], .pointer (some ⟨B1, 0, none⟩), .pointer (some ⟨B2, 0, none⟩)] W fun e W' => (∃ v, e = .returned v) /\
   ((∃ xs, xs = upF n n /\ J xs W') \/ (∃ pre, True /\ Jx pre W')) := by
 refine callsIn_of_wp Tryz.func79 rfl trivial ?_ rfl
 simp only [Tryz.ntmps79, List.size_toArray, List.length_cons, List.length_nil, Nat.reduceAdd, Nat.reduceSub, Array.replicate_succ, Array.replicate_zero, List.push_toArray, List.append_toArray, List.nil_append, List.cons_append]
 gi_wp2
 gi_loopw [4] (fun i wr => ∃ k : Nat, k <= n /\ i = .int .i64 ((4 * k : Nat) : Int) /\ J (upF n k) wr /\ wr.cell? ⟨B1, 0, none⟩ = some (.slice (some ⟨gk, o, none⟩) (4 * n) cap) /\ wr.cell? ⟨B2, 0, none⟩ = some (.int .i64 4) /\ W.heap.size <= wr.heap.size)
  (fun i _ => 4 * n - (intOf i).toNat)
 case atStart => exact ⟨0, Nat.zero_le _, rfl, h0, h1, h2, Nat.le_refl _⟩
 case round =>
  obtain ⟨k, hk, rfl, hJs, c1, c2, hsz⟩ := hrel
  obtain ⟨i, hi⟩ : ∃ i, i = 4 * k := ⟨_, rfl⟩
  rw [<- hi]
  by_cases hlt : k < n
  ·have hd : decide ((i : Int) < 4 * (n : Int)) = true := by simp; omega
   have hd2 : (i : Int) < 4 * (n : Int) := by omega
   have hs1 := fun w' => key_from gk o (4 * n) cap i (by omega) hn w'
   have hs2 := fun w' => key_piece gk o (4 * n) cap i (by omega) w'
   obtain ⟨d, hdd⟩ : ∃ d, d = 4 * n - i := ⟨_, rfl⟩
   rw [<- hdd] at hs1;have hmin : min (4 : Int) (d : Int) = 4 := by omega
   have HI := Lib.hid hi;clear hi hdd
   gi_wp2
   gi_quiet (fail)
   have hJd : J (upF n k) (wr.drewN nq) := hJ _ wr _ none hJs ⟨rfl, rfl, rfl, Nat.le_refl _, fun _ _ _ => rfl⟩ (fun r e => by cases e)
   have d1 : (wr.drewN nq).cell? ⟨B1, 0, none⟩ = some (.slice (some ⟨gk, o, none⟩) (4 * n) cap) := c1
   have d2 : (wr.drewN nq).cell? ⟨B2, 0, none⟩ = some (.int .i64 4) := c2
   have dsz : W.heap.size <= (wr.drewN nq).heap.size := hsz
   obtain ⟨W3, hW3⟩ : ∃ W3, W3 = wr.drewN nq := ⟨_, rfl⟩
   rw [<- hW3] at hJd d1 d2 dsz ⊢
   clear hW3 hJs c1 c2 hsz;obtain ⟨fn, tmps, assign, body, hy, hR⟩ := hY _ ⟨k, hlt⟩ W3 hJd (by rw [upF_len _ _ hk]; exact hlt)
   unfold pcV at hy
   rw [<- HI.out] at hy
   gi_wp2
   refine ⟨fun h => (by cases h), hR.mono ?_⟩
   rintro e W4 (⟨rfl, hJ4, hk4⟩ | ⟨rfl, hJx4⟩)
   ·obtain ⟨k1, k2, hsz4⟩ := hK1 _ _ hk4
    replace hsz4 := Nat.le_trans dsz hsz4
    rw [d1] at k1;rw [d2] at k2
    gi_wp2
    go_roundw
    case rel => exact ⟨k + 1, by omega, by have := HI.out; go_num, by rw [upF_succ n k hlt]; exact hJ4, k1, k2, hsz4⟩
    case measure => simp [intOf]; omega
   ·gi_wp2
    refine bodyPost_ret (results_none rfl _ _ _) rfl ?_
    exact ⟨⟨_, rfl⟩, .inr ⟨_, trivial, hJx4⟩⟩
  ·obtain rfl : k = n := by omega
   subst hi
   gi_wp2
   go_end0
   exact ⟨⟨_, rfl⟩, .inl ⟨_, rfl, hJs⟩⟩
end Go.Proofs.YtnmdjggdgakeoaaGreat
namespace Go.Proofs.YtnmdjggdgakeoaaGreat
open Go
section
variable {P : Program} {ops : Array Oper} {Q : Exit -> Act -> World -> Prop} {md : Region.Mode} {S : World -> Prop} {z : Nat}
def wpAnyT (P : Program) (md : Region.Mode) (ops : Array Oper) (Q : Exit -> Act -> World -> Prop) (S : World -> Prop) (z : Nat) : Nat -> Array Bool -> Act -> World -> Prop
 | 0, listed, a, w => Region.ready md ops listed = [] /\ Q .normal a w
 | fuel + 1, listed, a, w =>
  (Region.ready md ops listed = [] -> Q .normal a w) /\
  ∀ i ∈ Region.ready md ops listed, wpOp P ops Q i (fun a' w' => (i < z -> S w') /\ wpAnyT P md ops Q S z fuel (listed.setIfInBounds i true) a' w') a w
theorem wpAny_of_T : ∀ (fuel : Nat) (listed : Array Bool) (a : Act) (w : World), wpAnyT P md ops Q S z fuel listed a w -> wpAny P md ops Q fuel listed a w
 | 0, _, _, _, h => h
 | fuel + 1, _, _, _, h => ⟨h.1, fun i hi => wpOp_mono (fun a' w' h' => wpAny_of_T fuel _ a' w' h'.2) (h.2 i hi)⟩
def waitsB (md : Region.Mode) (ops : Array Oper) (z i : Nat) : Bool := (ops.toList.drop z).all fun o => o.after.any fun e => Region.binds md e && e.on == i
theorem waits_spec {i : Nat} (h : waitsB md ops z i = true) (j : Nat) (oj : Oper) (hz : z <= j) (hj : ops[j]? = some oj) : ∃ e ∈ oj.after, Region.binds md e = true /\ e.on = i := by
 unfold waitsB at h
 rw [List.all_eq_true] at h;have hm : oj ∈ ops.toList.drop z := by
  rw [List.mem_iff_getElem?]
  exact ⟨j - z, by rw [List.getElem?_drop, show z + (j - z) = j by omega, Array.getElem?_toList]; exact hj⟩
 have := h oj hm
 rw [Array.any_eq_true] at this;obtain ⟨k, hk, he⟩ := this
 rw [Bool.and_eq_true] at he;exact ⟨oj.after[k], Array.getElem_mem _, he.1, by simpa using he.2⟩
theorem wpAnyT_first {i : Nat} {oi : Oper} {v : Value} (hi : ops[i]? = some oi) (hsel : ∀ (j : Nat) (o : Oper) cs b, ops[j]? = some o -> o.op ≠ .select cs b)
  (hQ : ∀ c a w, Q (.panic c) (a.put oi.dst v) w -> Q (.panic c) a w) (hw : waitsB md ops z i = true) :
  ∀ (fuel : Nat) (listed : Array Bool) (a : Act) (w : World),
   (∀ j oj, ops[j]? = some oj -> j ≠ i -> listed.getD j true = false -> (∀ e ∈ oj.after, Region.binds md e = true -> e.on ≠ i) -> oi.apart ops oj = true) ->
   i ∈ Region.ready md ops listed -> YieldsIf P ops S oi v a -> S w ->
   wpAnyT P md ops Q S z fuel (listed.setIfInBounds i true) (a.put oi.dst v) w -> wpAnyT P md ops Q S z (fuel + 1) listed a w := by
 intro fuel
 induction fuel with
 | zero =>
  intro listed a w _ hr hy hS H;refine ⟨fun h => (by rw [h] at hr; cases hr), fun j hj => ?_⟩
  by_cases hji : j = i
  ·subst hji; exact hy.wpOp hi hS ⟨fun _ => hS, H⟩
  ·have := ready_mono hj hji
   rw [H.1] at this
   cases this
 | succ fuel ih =>
  intro listed a w hfree hr hy hS H;refine ⟨fun h => (by rw [h] at hr; cases hr), fun j hj => ?_⟩
  by_cases hji : j = i
  ·subst hji; exact hy.wpOp hi hS ⟨fun _ => hS, H⟩
  ·have h1 := H.2 j (ready_mono hj hji)
   obtain ⟨hjun, oj, hoj, hall⟩ := mem_ready.1 hj
   have hnot : ∀ e ∈ oj.after, Region.binds md e = true -> e.on ≠ i := fun e he hb heq => by
    have a1 := hall e he hb
    have a0 := (mem_ready.1 hr).1
    rw [heq] at a1;rw [Array.getD_eq_getD_getElem?] at a0 a1
    cases hg : listed[i]? with
    | none => rw [hg] at a1; cases a1
    | some x => rw [hg] at a0 a1; simp at a0 a1; rw [a0] at a1; cases a1
   have hjz : j < z := by
    rcases Nat.lt_or_ge j z with h | h
    ·exact h
    ·obtain ⟨e, he, hb, hon⟩ := waits_spec hw j oj h hoj
     exact (hnot e he hb hon).elim
   have h2 := wpOp_putIf hoj (hfree j oj hoj hji hjun hnot) (fun cs b => hsel i oi cs b hi) (fun cs b => hsel j oj cs b hoj) hQ hy h1
   refine wpOp_mono (fun a' w' h3 => ⟨fun _ => h3.2.1 hjz, ih (listed.setIfInBounds j true) a' w' ?_ (ready_mono hr (Ne.symm hji)) h3.1 (h3.2.1 hjz) ?_⟩) h2
   ·intro k ok hk hki hun hno
    refine hfree k ok hk hki ?_ hno
    by_cases hjk : j = k
    ·subst hjk; exact hjun
    ·rw [getD_set_ne true hjk] at hun; exact hun
   ·rw [Array.setIfInBounds_comm _ _ hji]
    exact h3.2.2
theorem wpAnyT_take {i : Nat} {oi : Oper} {v : Value} {fuel : Nat} {listed : Array Bool} {a : Act} {w : World} (hi : ops[i]? = some oi)
  (hs : Region.noSelect ops = true) (hf : Region.free md ops listed i = true) (hr : (Region.ready md ops listed).contains i = true) (hw : waitsB md ops z i = true)
  (hQ : ∀ c a w, Q (.panic c) (a.put oi.dst v) w -> Q (.panic c) a w) (hy : YieldsIf P ops S oi v a) (hS : S w)
  (h : wpAnyT P md ops Q S z fuel (listed.setIfInBounds i true) (a.put oi.dst v) w) : wpAnyT P md ops Q S z (fuel + 1) listed a w :=
 wpAnyT_first hi (Region.noSelect_spec hs) hQ hw fuel listed a w (Region.free_spec hi hf) (by simpa using hr) hy hS h
def AllReadyT (P : Program) (md : Region.Mode) (ops : Array Oper) (Q : Exit -> Act -> World -> Prop) (S : World -> Prop) (z : Nat) (fuel : Nat) (listed : Array Bool) (a : Act) (w : World) (rs : List Nat) : Prop :=
 ∀ i ∈ rs, wpOp P ops Q i (fun a' w' => (i < z -> S w') /\ wpAnyT P md ops Q S z fuel (listed.setIfInBounds i true) a' w') a w
theorem AllReadyT.nil {fuel : Nat} {listed : Array Bool} {a : Act} {w : World} : AllReadyT P md ops Q S z fuel listed a w [] := fun _ h => by cases h
theorem AllReadyT.cons {fuel : Nat} {listed : Array Bool} {a : Act} {w : World} {i : Nat} {o : Oper} {rs : List Nat} (ho : ops[i]? = some o)
  (h : ∀ K' : Act -> World -> Prop, Shut (∀ a w, (i < z -> S w) -> wpAnyT P md ops Q S z fuel (listed.setIfInBounds i true) a w -> K' a w) -> if Region.wanted o (yielded ops a.tmps) = true then Oper.wp P o a w K' Q else K' (a.put o.dst undef) w)
  (hs : AllReadyT P md ops Q S z fuel listed a w rs) : AllReadyT P md ops Q S z fuel listed a w (i :: rs) := fun j hj => by
 rcases List.mem_cons.1 hj with rfl | hj
 ·exact wpOp_step ho (fun K' hK => h K' (fun a w hS hW => hK a w ⟨hS, hW⟩))
 ·exact hs j hj
theorem wpAnyT_ready {rs : List Nat} {fuel : Nat} {listed : Array Bool} {a : Act} {w : World} (hr : Region.ready md ops listed = rs) (hne : rs ≠ [])
  (h : AllReadyT P md ops Q S z fuel listed a w rs) : wpAnyT P md ops Q S z (fuel + 1) listed a w := ⟨fun h0 => absurd (hr ▸ h0) hne, hr ▸ h⟩
theorem wpAnyT_done {listed : Array Bool} {a : Act} {w : World} (hr : Region.ready md ops listed = []) (h : Q .normal a w) : ∀ fuel, wpAnyT P md ops Q S z fuel listed a w
 | 0 => ⟨hr, h⟩
 | _ + 1 => ⟨fun _ => h, by rw [hr]; simp⟩
theorem wp_region_T {id : Nat} {a : Act} {w : World} (hm : P.follows .mixedOrders = true)
  (h : wpAnyT P .any ops Q S z ops.size (Array.replicate ops.size false) a w.drew) : (Code.region id ops true).wp P Q a w :=
 wp_region_any hm (wpAny_of_T _ _ _ _ h)
end
open Go.RowKit GfM
end Go.Proofs.YtnmdjggdgakeoaaGreat
