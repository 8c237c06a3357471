/- Texts MixA, MixB, MixC, MixD, AesL, AesA, AesB, AesC, put together by pack.py. -/
import Derived.Test.YtinjafacnekkcaaSPb
import Derived.Deep.RegionHeld3
import Derived.StillTailTactics
import Derived.Test.YtinjafacnekkcaaSPa
set_option linter.unusedVariables false
set_option linter.unusedSimpArgs false
namespace Go.Proofs.Ytinjafacnekkcaa
open Go Go.RowKit GfM
/-- four bytes as a value -/
def v4 (c : Nat → Nat) : Array Value := #[.int .u8 (c 0 : Int), .int .u8 (c 1 : Int), .int .u8 (c 2 : Int), .int .u8 (c 3 : Int)]
theorem v4_get (c : Nat → Nat) (k : Nat) (h : k < 4) : (v4 c)[k]? = some (.int .u8 (c k : Int)) := by
  match k, h with
  | 0, _ => rfl
  | 1, _ => rfl
  | 2, _ => rfl
  | 3, _ => rfl
def isB (X : Int) (a : Nat) : Prop := X = (a : Int) ∧ a < 256
theorem isB_of {a : Nat} (h : a < 256) : isB (a : Int) a := ⟨rfl, h⟩
theorem isB_x {X Y : Int} {a b : Nat} (h1 : isB X a) (h2 : isB Y b) : isB (bits BinOp.xor IntKind.u8 X Y) (a ^^^ b) := ⟨u8x h1.1 h2.1 h1.2 h2.2, xor_lt _ _ h1.2 h2.2⟩
def mixN (c : Nat → Nat) (k : Nat) : Nat := c 0 ^^^ c 1 ^^^ c 2 ^^^ c 3 ^^^ c k ^^^ tw (c k ^^^ c ((k + 1) % 4))
set_option maxRecDepth 100000 in
set_option maxHeartbeats 2000000 in
theorem mixed_c (c : Nat → Nat) (hc : ∀ j, j < 4 → c j < 256) (k : Nat) (hk : k < 4) (w : World) :
    Calls Try.prog 92 #[.agg (v4 c), .int .i64 (k : Int)] w fun e w' => e = .returned (.int .u8 ((mixN c k : Nat) : Int)) ∧ Below w.heap.size w w' := by
  have W : ∃ W, W = w.alloc (.cells (v4 c) 153) := ⟨_, rfl⟩
  obtain ⟨W, hW⟩ := W
  have f : ∀ j, j < 4 → W.cell? ⟨w.heap.size, j, none⟩ = some (.int .u8 (c j : Int)) := fun j hj => by
    rw [hW, World.cell?_alloc_new]; exact v4_get c j hj
  have f0 := f 0 (by omega)
  have f1 := f 1 (by omega)
  have f2 := f 2 (by omega)
  have f3 := f 3 (by omega)
  have fk := f k hk
  have fk1 := f ((k + 1) % 4) (by omega)
  clear f
  have e1 : IntKind.i64.wrap ((k : Int) + 1) = (k : Int) + 1 := IntWalk.i64_in _ (by omega)
  have e2 : ((k : Int) + 1).tmod 4 = (((k + 1) % 4 : Nat) : Int) := by rw [Int.tmod_eq_emod_of_nonneg (by omega)]; omega
  have e3 : ((k + 1) % 4) < 4 := by omega
  go_enter Try.func92, Try.ntmps92
  go_wp2
  rw [← hW]
  have HW := Lib.hid hW
  clear hW
  have hx := xor_lt _ _ (hc k hk) (hc ((k + 1) % 4) e3)
  have E : Hid (bits BinOp.xor IntKind.u8 (c k : Int) (c ((k + 1) % 4) : Int) = ((c k ^^^ c ((k + 1) % 4) : Nat) : Int)) := u8x rfl rfl (hc k hk) (hc _ e3)
  have HC := Lib.hid hc
  clear hc
  go_quiet ((go_at_call 72; rw [E.out]; exact Calls.quiet_of_same ((twice_c _ hx _).mono fun _ _ h => ⟨h.1, h.2.symm⟩)))
  go_wp2
  go_ret
  have hc := HC.out
  have h0 := isB_of (hc 0 (by omega))
  have h1 := isB_of (hc 1 (by omega))
  have h2 := isB_of (hc 2 (by omega))
  have h3 := isB_of (hc 3 (by omega))
  have h4 := isB_of (hc k hk)
  have h5 := isB_of (tw_lt _ hx)
  exact ⟨ret_i (isB_x (isB_x (isB_x (isB_x (isB_x h0 h1) h2) h3) h4) h5).1, by rw [HW.out]; exact below_drewN ((Below.refl _ _).alloc (Nat.le_refl _) _) _⟩
end Go.Proofs.Ytinjafacnekkcaa
namespace Go.Proofs.Ytinjafacnekkcaa
open Go Go.RowKit GfM
theorem heap_new (w : World) (o : Obj) : (w.alloc o).heap[w.heap.size]? = some o := by
  show (w.heap.push _)[_]? = _
  simp
theorem heap_old (w : World) (o : Obj) (k : Nat) (h : k < w.heap.size) : (w.alloc o).heap[k]? = w.heap[k]? := Below.heap_alloc w o k h
def cutf (g : Nat → Nat) (k j : Nat) : Nat := if j < k then g j else 0
theorem v4_ext {c d : Nat → Nat} (h : ∀ j, j < 4 → c j = d j) : v4 c = v4 d := by
  unfold v4; rw [h 0 (by omega), h 1 (by omega), h 2 (by omega), h 3 (by omega)]
theorem v4_set (g : Nat → Nat) (k : Nat) (h : k < 4) : (v4 (cutf g k)).setIfInBounds k (.int .u8 (g k : Int)) = v4 (cutf g (k + 1)) := by
  match k, h with
  | 0, _ => rfl
  | 1, _ => rfl
  | 2, _ => rfl
  | 3, _ => rfl
theorem v4_full (g : Nat → Nat) : v4 (cutf g 4) = v4 g := v4_ext fun j hj => by unfold cutf; rw [if_pos hj]
theorem ret_agg4 (fn : Func) (R : Ending → World → Prop) (a : Act) (g : Nat → Nat) (w : World) {s : Nat} (hres : fn.results = #[.cell s 61]) (hun : Try.prog.underlying 61 = some (.array 4 5)) (b : Nat)
    (hs : a.tmps.getD s undef = .pointer (some ⟨b, 0, none⟩)) (hb : w.heap[b]? = some (.cells (v4 g) 61 (0, 0))) (hd : a.defers = []) (hR : R (.returned (.agg (v4 g))) w) : bodyPost Try.prog fn R .ret a w := by
  have c0 := (cells_of hb 0).trans (v4_get g 0 (by omega))
  have c1 := (cells_of hb 1).trans (v4_get g 1 (by omega))
  have c2 := (cells_of hb 2).trans (v4_get g 2 (by omega))
  have c3 := (cells_of hb 3).trans (v4_get g 3 (by omega))
  refine bodyPost_ret (v := .agg (v4 g)) ?_ hd hR
  have hs' : a.tmps[s]?.getD undef = .pointer (some ⟨b, 0, none⟩) := by simpa using hs
  simp [results, hres, hs', go_sem, c0, c1, c2, c3, v4]
set_option maxRecDepth 100000 in
set_option maxHeartbeats 2000000 in
theorem each_c (F : FuncId) (c g : Nat → Nat)
    (hF : ∀ k : Nat, k < 4 → ∀ w : World, Calls Try.prog F #[.agg (v4 c), .int .i64 (k : Int)] w fun e w' => e = .returned (.int .u8 ((g k : Nat) : Int)) ∧ Below w.heap.size w w')
    (hcall : ∀ (x y : Value) (w : World), Sem.run Try.prog (callFunc F #[x, y]) w = .ok (.enter F #[x, y]) w) (w : World) :
    Calls Try.prog 91 #[.agg (v4 c), .func (.func F) #[] #[]] w fun e w' => e = .returned (.agg (v4 g)) ∧ Below w.heap.size w w' := by
  have hF' : ∀ k : Nat, k < 4 → ∀ w : World, Calls Try.prog F #[.agg #[.int .u8 (c 0 : Int), .int .u8 (c 1 : Int), .int .u8 (c 2 : Int), .int .u8 (c 3 : Int)], .int .i64 (k : Int)] w fun e w' => e = .returned (.int .u8 ((g k : Nat) : Int)) ∧ Below w.heap.size w w' := hF
  have HF := Lib.hid hF'
  clear hF hF'
  have b0 : ∀ (o1 o2 : Obj), (((w.alloc (Obj.cells (v4 c) 153)).alloc o1).alloc o2).heap[w.heap.size]? = some (.cells (v4 c) 153 (0, 0)) := fun o1 o2 => by
    rw [heap_old _ _ _ (by simp; omega), heap_old _ _ _ (by simp), heap_new]
  have b1 : ∀ (o0 o2 : Obj), (((w.alloc o0).alloc (Obj.cells (v4 (cutf g 0)) 61)).alloc o2).heap[w.heap.size + 1]? = some (.cells (v4 (cutf g 0)) 61 (0, 0)) := fun o0 o2 => by
    rw [heap_old _ _ _ (by simp), show w.heap.size + 1 = (w.alloc o0).heap.size by simp, heap_new]
  have b2 : ∀ (o0 o1 : Obj), (((w.alloc o0).alloc o1).alloc (Obj.cells (v4 (cutf g 0)) 61)).heap[w.heap.size + 1 + 1]? = some (.cells (v4 (cutf g 0)) 61 (0, 0)) := fun o0 o1 => by
    rw [show w.heap.size + 1 + 1 = ((w.alloc o0).alloc o1).heap.size by simp, heap_new]
  have B0 := Lib.hid b0
  have B1 := Lib.hid b1
  have B2 := Lib.hid b2
  clear b0 b1 b2
  go_enter Try.func91, Try.ntmps91
  go_wp2
  go_loopw [7] (fun vi wr => ∃ k : Nat, k ≤ 4 ∧ vi = .int .i64 k ∧ Hid (wr.heap[w.heap.size]? = some (.cells (v4 c) 153 (0, 0))) ∧ Hid (wr.heap[w.heap.size + 1]? = some (.cells (v4 (cutf g 0)) 61 (0, 0))) ∧ Hid (wr.heap[w.heap.size + 1 + 1]? = some (.cells (v4 (cutf g k)) 61 (0, 0))) ∧ w.heap.size + 2 < wr.heap.size ∧ Below w.heap.size w wr) (fun vi _ => 4 - (intOf vi).toNat)
  case atStart => exact ⟨0, by omega, rfl, B0.out _ _, B1.out _ _, B2.out _ _, by simp, ((((Below.refl _ _).alloc (Nat.le_refl _) _).alloc (by simp) _).alloc (by simp; omega) _)⟩
  case round =>
    obtain ⟨k, hk, rfl, h0, h1, h2, hz, hbel⟩ := hrel
    clear B0 B1 B2
    by_cases hlt : k < 4
    · have c0 := (cells_of h0.out 0).trans (v4_get c 0 (by omega))
      have c1 := (cells_of h0.out 1).trans (v4_get c 1 (by omega))
      have c2 := (cells_of h0.out 2).trans (v4_get c 2 (by omega))
      have c3 := (cells_of h0.out 3).trans (v4_get c 3 (by omega))
      go_wp2_with ((with_reducible refine (HF.out k hlt _).mono ?_); rintro e w1 ⟨rfl, hb1⟩; have hB2 := (hb1.block (w.heap.size + 1 + 1) (by omega)).trans h2.out; have hd := (cells_of hB2 k).trans (v4_get (cutf g k) k hlt); have hf := free_of hB2 k; have HB2 := Lib.hid hB2; clear hB2 c0 c1 c2 c3)
      go_roundw
      case rel =>
        have n2 := block_set HB2.out k (.int .u8 (g k : Int))
        rw [v4_set g k hlt] at n2
        have n0 := (Below.heap_setCell w1 ⟨w.heap.size + 1 + 1, k, none⟩ (.int .u8 (g k : Int)) w.heap.size (by simp; omega)).trans ((hb1.block _ (by omega)).trans h0.out)
        have n1 := (Below.heap_setCell w1 ⟨w.heap.size + 1 + 1, k, none⟩ (.int .u8 (g k : Int)) (w.heap.size + 1) (by simp)).trans ((hb1.block _ (by omega)).trans h1.out)
        exact ⟨k + 1, by omega, by go_num, n0, n1, n2, by have := hb1.size; simp [World.setCell]; omega, (hbel.trans (hb1.mono (by omega))).setCell (by simp; omega) _⟩
      case measure => simp [intOf]; omega
    · obtain rfl : k = 4 := by omega
      have h3 := h2.out
      rw [v4_full] at h3
      have c0 := (cells_of h3 0).trans (v4_get g 0 (by omega))
      have c1 := (cells_of h3 1).trans (v4_get g 1 (by omega))
      have c2 := (cells_of h3 2).trans (v4_get g 2 (by omega))
      have c3 := (cells_of h3 3).trans (v4_get g 3 (by omega))
      have d0 := (cells_of h1.out 0).trans (v4_get _ 0 (by omega))
      have d1 := (cells_of h1.out 1).trans (v4_get _ 1 (by omega))
      have d2 := (cells_of h1.out 2).trans (v4_get _ 2 (by omega))
      have d3 := (cells_of h1.out 3).trans (v4_get _ 3 (by omega))
      have f0 := free_of h1.out 0
      have f1 := free_of h1.out 1
      have f2 := free_of h1.out 2
      have f3 := free_of h1.out 3
      have H3 := Lib.hid h3
      clear h3 h2
      go_wp2
      have e := block_set (block_set (block_set (block_set h1.out 0 (.int .u8 (g 0 : Int))) 1 (.int .u8 (g 1 : Int))) 2 (.int .u8 (g 2 : Int))) 3 (.int .u8 (g 3 : Int))
      have e' : ((((v4 (cutf g 0)).setIfInBounds 0 (.int .u8 (g 0 : Int))).setIfInBounds 1 (.int .u8 (g 1 : Int))).setIfInBounds 2 (.int .u8 (g 2 : Int))).setIfInBounds 3 (.int .u8 (g 3 : Int)) = v4 g := rfl
      rw [e'] at e
      have hB := (((hbel.setCell (p := ⟨w.heap.size + 1, 0, none⟩) (by simp) (.int .u8 (g 0 : Int))).setCell (p := ⟨w.heap.size + 1, 1, none⟩) (by simp) (.int .u8 (g 1 : Int))).setCell (p := ⟨w.heap.size + 1, 2, none⟩) (by simp) (.int .u8 (g 2 : Int))).setCell (p := ⟨w.heap.size + 1, 3, none⟩) (by simp) (.int .u8 (g 3 : Int))
      exact ret_agg4 _ _ _ g _ rfl rfl (w.heap.size + 1) rfl e rfl ⟨rfl, hB⟩
theorem call_mixed (x y : Value) (w : World) : Sem.run Try.prog (callFunc 92 #[x, y]) w = .ok (.enter 92 #[x, y]) w := by
  go_simp
theorem each_lit (F : FuncId) (c g : Nat → Nat)
    (hF : ∀ k : Nat, k < 4 → ∀ w : World, Calls Try.prog F #[.agg (v4 c), .int .i64 (k : Int)] w fun e w' => e = .returned (.int .u8 ((g k : Nat) : Int)) ∧ Below w.heap.size w w')
    (hcall : ∀ (x y : Value) (w : World), Sem.run Try.prog (callFunc F #[x, y]) w = .ok (.enter F #[x, y]) w) (w : World) :
    Calls Try.prog 91 #[.agg #[.int .u8 (c 0 : Int), .int .u8 (c 1 : Int), .int .u8 (c 2 : Int), .int .u8 (c 3 : Int)], .func (.func F) #[] #[]] w fun e w' => e = .returned (.agg (v4 g)) ∧ Below w.heap.size w w' :=
  each_c F c g hF hcall w
set_option maxRecDepth 100000 in
set_option maxHeartbeats 2000000 in
theorem mix_c (c : Nat → Nat) (hc : ∀ j, j < 4 → c j < 256) (w : World) :
    Calls Try.prog 86 #[.agg (v4 c)] w fun e w' => e = .returned (.agg (v4 (mixN c))) ∧ Below w.heap.size w w' := by
  have HE := Lib.hid (each_lit 92 c (mixN c) (fun k hk w => mixed_c c hc k hk w) call_mixed)
  have b1 : ∀ (o0 : Obj), ((w.alloc o0).alloc (Obj.cells (v4 (cutf c 0)) 61)).heap[w.heap.size + 1]? = some (.cells (v4 (cutf c 0)) 61 (0, 0)) := fun o0 => by
    rw [show w.heap.size + 1 = (w.alloc o0).heap.size by simp, heap_new]
  have B1 := Lib.hid b1
  have HC := Lib.hid hc
  have p0 : ∀ (o : Obj), ((w.alloc (Obj.cells (v4 c) 61)).alloc o).cell? ⟨w.heap.size, 0, none⟩ = some (.int .u8 (c 0 : Int)) := fun o => by
    rw [World.cell?_alloc_past _ _ _ (by simp), World.cell?_alloc_new]; rfl
  have p1 : ∀ (o : Obj), ((w.alloc (Obj.cells (v4 c) 61)).alloc o).cell? ⟨w.heap.size, 1, none⟩ = some (.int .u8 (c 1 : Int)) := fun o => by
    rw [World.cell?_alloc_past _ _ _ (by simp), World.cell?_alloc_new]; rfl
  have p2 : ∀ (o : Obj), ((w.alloc (Obj.cells (v4 c) 61)).alloc o).cell? ⟨w.heap.size, 2, none⟩ = some (.int .u8 (c 2 : Int)) := fun o => by
    rw [World.cell?_alloc_past _ _ _ (by simp), World.cell?_alloc_new]; rfl
  have p3 : ∀ (o : Obj), ((w.alloc (Obj.cells (v4 c) 61)).alloc o).cell? ⟨w.heap.size, 3, none⟩ = some (.int .u8 (c 3 : Int)) := fun o => by
    rw [World.cell?_alloc_past _ _ _ (by simp), World.cell?_alloc_new]; rfl
  clear b1 hc
  go_enter Try.func86, Try.ntmps86
  go_wp2_with fail
  refine (HE.out _).mono ?_
  rintro e w1 ⟨rfl, hb1⟩
  have h1 := (hb1.block (w.heap.size + 1) (by simp)).trans (B1.out _)
  have hbel : Below w.heap.size w w1 := (((Below.refl _ _).alloc (Nat.le_refl _) _).alloc (by simp) _).trans (hb1.mono (by simp; omega))
  have H1 := Lib.hid h1
  have HB := Lib.hid hbel
  have d0 := (cells_of h1 0).trans (v4_get _ 0 (by omega))
  have d1 := (cells_of h1 1).trans (v4_get _ 1 (by omega))
  have d2 := (cells_of h1 2).trans (v4_get _ 2 (by omega))
  have d3 := (cells_of h1 3).trans (v4_get _ 3 (by omega))
  have f0 := free_of h1 0
  have f1 := free_of h1 1
  have f2 := free_of h1 2
  have f3 := free_of h1 3
  generalize hg : mixN c = g at *
  have HG := Lib.hid hg
  clear hg
  clear h1 hb1 hbel B1 HE p0 p1 p2 p3
  have hv : v4 g = #[.int .u8 (g 0 : Int), .int .u8 (g 1 : Int), .int .u8 (g 2 : Int), .int .u8 (g 3 : Int)] := rfl
  rw [hv]
  clear hv
  go_wp2
  have h1 := H1.out
  have hbel := HB.out
  have e := block_set (block_set (block_set (block_set h1 0 (.int .u8 (g 0 : Int))) 1 (.int .u8 (g 1 : Int))) 2 (.int .u8 (g 2 : Int))) 3 (.int .u8 (g 3 : Int))
  have e' : ((((v4 (cutf c 0)).setIfInBounds 0 (.int .u8 (g 0 : Int))).setIfInBounds 1 (.int .u8 (g 1 : Int))).setIfInBounds 2 (.int .u8 (g 2 : Int))).setIfInBounds 3 (.int .u8 (g 3 : Int)) = v4 g := rfl
  rw [e'] at e
  have hB := (((hbel.setCell (p := ⟨w.heap.size + 1, 0, none⟩) (by simp) (.int .u8 (g 0 : Int))).setCell (p := ⟨w.heap.size + 1, 1, none⟩) (by simp) (.int .u8 (g 1 : Int))).setCell (p := ⟨w.heap.size + 1, 2, none⟩) (by simp) (.int .u8 (g 2 : Int))).setCell (p := ⟨w.heap.size + 1, 3, none⟩) (by simp) (.int .u8 (g 3 : Int))
  exact ret_agg4 _ _ _ g _ rfl rfl (w.heap.size + 1) rfl e rfl ⟨by rw [HG.out], hB⟩
end Go.Proofs.Ytinjafacnekkcaa
namespace Go.Proofs.Ytinjafacnekkcaa
open Go Go.RowKit GfM
def colGo (c f : Nat → Nat) (k : Nat) : Nat → Nat
  | 0 => 0
  | j + 1 => colGo c f k j ^^^ gmul (f j) (c ((k + j) % 4))
def colN (c f : Nat → Nat) (k : Nat) : Nat := colGo c f k 4
/-- the sums so far -/
def outC (c f : Nat → Nat) (i j k : Nat) : Nat := if k < i then colN c f k else if k = i then colGo c f k j else 0
theorem outC_set (c f : Nat → Nat) (i j : Nat) (hi : i < 4) : (v4 (outC c f i j)).setIfInBounds i (.int .u8 (colGo c f i (j + 1) : Int)) = v4 (outC c f i (j + 1)) := by
  match i, hi with
  | 0, _ => simp [v4, outC]
  | 1, _ => simp [v4, outC]
  | 2, _ => simp [v4, outC]
  | 3, _ => simp [v4, outC]
def ColRel (w : World) (c f : Nat → Nat) (i j : Nat) (wr : World) : Prop :=
  wr.heap[w.heap.size]? = some (.cells (v4 c) 61 (0, 0)) ∧ wr.heap[w.heap.size + 1]? = some (.cells (v4 f) 61 (0, 0)) ∧
  wr.heap[w.heap.size + 1 + 1]? = some (.cells (v4 (cutf c 0)) 61 (0, 0)) ∧
  wr.heap[w.heap.size + 1 + 1 + 1]? = some (.cells (v4 (outC c f i j)) 61 (0, 0)) ∧ w.heap.size + 3 < wr.heap.size ∧ Below w.heap.size w wr
theorem ColRel.next {w wr : World} {c f : Nat → Nat} {i j : Nat} (h : ColRel w c f i j wr) (hi : i < 4) :
    ColRel w c f i (j + 1) (wr.setCell ⟨w.heap.size + 1 + 1 + 1, i, none⟩ (.int .u8 (colGo c f i (j + 1) : Int))) := by
  obtain ⟨h0, h1, h2, h3, hz, hb⟩ := h
  have e := block_set h3 i (.int .u8 (colGo c f i (j + 1) : Int))
  rw [outC_set c f i j hi] at e
  exact ⟨(Below.heap_setCell _ _ _ _ (by simp; omega)).trans h0, (Below.heap_setCell _ _ _ _ (by simp)).trans h1, (Below.heap_setCell _ _ _ _ (by simp)).trans h2, e, by simp [World.setCell]; exact hz, hb.setCell (by simp; omega) _⟩
theorem ColRel.drew {w wr : World} {c f : Nat → Nat} {i j : Nat} (h : ColRel w c f i j wr) : ColRel w c f i j wr.drew := by
  obtain ⟨h0, h1, h2, h3, hz, hb⟩ := h
  exact ⟨h0, h1, h2, h3, hz, hb.drew⟩
end Go.Proofs.Ytinjafacnekkcaa
namespace Go.Proofs.Ytinjafacnekkcaa
open Go Go.RowKit GfM
theorem mixN_lt (c : Nat → Nat) (hc : ∀ j, j < 4 → c j < 256) (k : Nat) (hk : k < 4) : mixN c k < 256 := by
  unfold mixN
  have h0 := isB_of (hc 0 (by omega))
  have h1 := isB_of (hc 1 (by omega))
  have h2 := isB_of (hc 2 (by omega))
  have h3 := isB_of (hc 3 (by omega))
  have h4 := isB_of (hc k hk)
  have h5 := isB_of (tw_lt _ (xor_lt _ _ (hc k hk) (hc ((k + 1) % 4) (by omega))))
  exact (isB_x (isB_x (isB_x (isB_x (isB_x h0 h1) h2) h3) h4) h5).2
end Go.Proofs.Ytinjafacnekkcaa
namespace Go.Proofs.Ytinjafacnekkcaa
open Go Go.RowKit GfM
/-- sixteen bytes and a pointer, as cells -/
def stA (l : List Nat) (b : Nat) : Array Value := bA l ++ #[.pointer (some ⟨b, 0, none⟩)]
theorem stA_get (l : List Nat) (b k : Nat) (h : k < l.length) : (stA l b)[k]? = some (.int .u8 ((l.getD k 0 : Nat) : Int)) := by
  unfold stA; rw [Array.getElem?_append_left (by rw [bA_size]; exact h)]; exact bA_get l k h
theorem stA_box (l : List Nat) (b : Nat) (h : l.length = 16) : (stA l b)[16]? = some (.pointer (some ⟨b, 0, none⟩)) := by
  unfold stA; rw [Array.getElem?_append_right (by rw [bA_size]; omega)]; simp [bA_size, h]
theorem stA_size (l : List Nat) (b : Nat) : (stA l b).size = l.length + 1 := by simp [stA, bA_size]
theorem stA_set (l : List Nat) (b k n : Nat) (h : k < l.length) : (stA l b).setIfInBounds k (.int .u8 (n : Int)) = stA (l.set k n) b := by
  unfold stA; rw [Array.setIfInBounds_append_left (by rw [bA_size]; exact h), bA_set]
/-- the first k are other ones -/
def upd (g : Nat → Nat) (l : List Nat) (k : Nat) : List Nat := (List.range k).map g ++ l.drop k
theorem upd_zero (g : Nat → Nat) (l : List Nat) : upd g l 0 = l := by simp [upd]
theorem upd_len (g : Nat → Nat) (l : List Nat) (k : Nat) (h : k ≤ l.length) : (upd g l k).length = l.length := by simp [upd]; omega
theorem upd_get (g : Nat → Nat) (l : List Nat) (k : Nat) : (upd g l k).getD k 0 = l.getD k 0 := by
  unfold upd
  rw [List.getD_eq_getElem?_getD, List.getD_eq_getElem?_getD, List.getElem?_append_right (by simp)]; simp
theorem upd_set (g : Nat → Nat) (l : List Nat) (k : Nat) (h : k < l.length) : (upd g l k).set k (g k) = upd g l (k + 1) := by
  unfold upd
  rw [List.set_append_right _ _ (by simp), List.range_succ, List.map_append, List.append_assoc]
  congr 1
  simp only [List.length_map, List.length_range, Nat.sub_self, List.map_cons, List.map_nil, List.singleton_append]
  rw [List.drop_eq_getElem_cons h, List.set_cons_zero]
theorem upd_full (g : Nat → Nat) (l : List Nat) (n : Nat) (h : l.length = n) : upd g l n = (List.range n).map g := by
  unfold upd; rw [List.drop_of_length_le (by omega), List.append_nil]
end Go.Proofs.Ytinjafacnekkcaa
namespace Go.Proofs.Ytinjafacnekkcaa
open Go Go.RowKit GfM
theorem four4 : (Try.prog.info? 61).map (·.size) = some 4 := by kernel_rfl
def cut4 (g : Nat → Nat) (c : Nat → Nat) (k j : Nat) : Nat := if j < k then g j else c j
theorem cut4_set (g c : Nat → Nat) (k : Nat) (h : k < 4) : (v4 (cut4 g c k)).setIfInBounds k (.int .u8 (g k : Int)) = v4 (cut4 g c (k + 1)) := by
  have hc : k = 0 ∨ k = 1 ∨ k = 2 ∨ k = 3 := by omega
  rcases hc with rfl | rfl | rfl | rfl <;> rfl
theorem cut4_zero (g c : Nat → Nat) : v4 (cut4 g c 0) = v4 c := rfl
theorem cut4_full (g c : Nat → Nat) : v4 (cut4 g c 4) = v4 g := rfl
theorem cut4_at (g c : Nat → Nat) (k : Nat) : cut4 g c k k = c k := by unfold cut4; rw [if_neg (by omega)]
theorem v4_one (g : Nat → Nat) : (v4 g).all (·.oneCell') = true := by rw [← Array.all_toList]; rfl
def xorN (a b : Nat → Nat) (k : Nat) : Nat := a k ^^^ b k
set_option maxRecDepth 100000 in
set_option maxHeartbeats 2000000 in
theorem xor_c (a b : Nat → Nat) (ha : ∀ j, j < 4 → a j < 256) (hb : ∀ j, j < 4 → b j < 256) (w : World) :
    Calls Try.prog 25 #[.agg (v4 a), .agg (v4 b)] w fun e w' => e = .returned (.agg (v4 (xorN a b))) ∧ Below w.heap.size w w' := by
  have b0 : ∀ (o1 o2 : Obj), (((w.alloc (Obj.cells (v4 a) 61)).alloc o1).alloc o2).heap[w.heap.size]? = some (.cells (v4 (cut4 (xorN a b) a 0)) 61 (0, 0)) := fun o1 o2 => by
    rw [heap_old' _ _ _ (by simp; omega), heap_old' _ _ _ (by simp), heap_new', cut4_zero]
  have b1 : ∀ (o0 o2 : Obj), (((w.alloc o0).alloc (Obj.cells (v4 b) 61)).alloc o2).heap[w.heap.size + 1]? = some (.cells (v4 b) 61 (0, 0)) := fun o0 o2 => by
    rw [heap_old' _ _ _ (by simp), show w.heap.size + 1 = (w.alloc o0).heap.size by simp, heap_new']
  have b2 : ∀ (o0 o1 : Obj), (((w.alloc o0).alloc o1).alloc (Obj.cells (v4 (cutf a 0)) 61)).heap[w.heap.size + 1 + 1]? = some (.cells (v4 (cutf a 0)) 61 (0, 0)) := fun o0 o1 => by
    rw [show w.heap.size + 1 + 1 = ((w.alloc o0).alloc o1).heap.size by simp, heap_new']
  have B0 := Lib.hid b0
  have B1 := Lib.hid b1
  have B2 := Lib.hid b2
  have HA := Lib.hid ha
  have HB := Lib.hid hb
  clear b0 b1 b2 ha hb
  go_enter Try.func25, Try.ntmps25
  go_wp2
  go_loopw [6] (fun vi wr => ∃ k : Nat, k ≤ 4 ∧ vi = .int .i64 k ∧ Hid (wr.heap[w.heap.size]? = some (.cells (v4 (cut4 (xorN a b) a k)) 61 (0, 0))) ∧ Hid (wr.heap[w.heap.size + 1]? = some (.cells (v4 b) 61 (0, 0))) ∧ Hid (wr.heap[w.heap.size + 1 + 1]? = some (.cells (v4 (cutf a 0)) 61 (0, 0))) ∧ Hid (Below w.heap.size w wr)) (fun vi _ => 4 - (intOf vi).toNat)
  case atStart => exact ⟨0, by omega, rfl, B0.out _ _, B1.out _ _, B2.out _ _, ((((Below.refl _ _).alloc (Nat.le_refl _) _).alloc (by simp) _).alloc (by simp; omega) _)⟩
  case round =>
    clear B0 B1 B2
    obtain ⟨k, hk, rfl, h0, h1, h2, hbel⟩ := hrel
    by_cases hlt : k < 4
    · have c0 := (cells_at h0.out k).trans (v4_get _ k hlt)
      rw [cut4_at] at c0
      have c1 := (cells_at h1.out k).trans (v4_get b k hlt)
      have f0 := free_at h0.out k
      have hd : decide ((k : Int) < 4) = true := by simp; omega
      go_wp2
      have d6 : (k : Int) < 4 := by omega
      refine wp_region_still_tail 8 (by kernel_rfl) (by kernel_rfl) ?_
      simp only [List.take_succ_cons, List.take_zero, List.drop_succ_cons, List.drop_zero]
      change wpStill _ _ wr.drew _ _ _
      repeat still_step
      refine wpStill_nil ?_
      change wpList _ _ _ _ _ wr.drew
      have hx : bits BinOp.xor IntKind.u8 (a k : Int) (b k : Int) = (xorN a b k : Int) := u8x rfl rfl (HA.out k hlt) (HB.out k hlt)
      have n0 := block_at h0.out k (.int .u8 (xorN a b k : Int))
      rw [cut4_set _ _ _ hlt, ← hx] at n0
      have N0 := Lib.hid n0
      clear n0 hx
      go_wp2
      go_roundw
      case rel => exact ⟨k + 1, by omega, by go_num, N0.out, (Below.heap_setCell _ _ _ _ (by simp)).trans h1.out, (Below.heap_setCell _ _ _ _ (by simp; omega)).trans h2.out, (hbel.out.setCell (by simp) _).drew⟩
      case measure => simp [intOf]; omega
    · obtain rfl : k = 4 := by omega
      have h3 := h0
      rw [cut4_full] at h3
      go_wp2_with (first
        | (refine wpList_load_row rfl 61 (.tmp 2) rfl w.heap.size rfl _ _ _ _ h3.out Try.underlying61 rfl (by rw [four4]; rfl) ?_)
        | (refine wpList_store_row rfl 61 (.tmp 4) (.tmp 18) rfl (w.heap.size + 1 + 1) _ rfl rfl 61 _ h2.out (by rw [four4]; rfl) rfl (v4_one _) ?_))
      exact bodyPost_ret (results_cell_row rfl _ _ (w.heap.size + 1 + 1) 61 (v4 (xorN a b)) (0, 0) _ rfl (setRow_heap _ _ _ _ _ _ h2.out) Try.underlying61 rfl (by rw [four4]; rfl)) rfl ⟨rfl, below_setRow hbel.out (by omega) _⟩
end Go.Proofs.Ytinjafacnekkcaa
namespace Go.Proofs.Ytinjafacnekkcaa
open Go Go.RowKit GfM
/-- block c is a cipher over the box at block b and the words' bytes W at block g -/
structure Cip (w : World) (c b g n cap r : Nat) (W : List Nat) : Prop where
  fcells : w.heap[c]? = some (.cells #[.pointer (some ⟨b, 0, none⟩), .slice (some ⟨g, 0, none⟩) n cap, .int .i64 (r : Int)] 78 (0, 0))
  fbox : IsBox w b
  flen : W.length = 4 * n
  fcap : n ≤ cap
  fcapm : cap ≤ maxLen
  fwords : ∃ A, w.heap[g]? = some (.cells A 61 (0, 0)) ∧ A.size = 4 * cap ∧ ∀ k, k < W.length → A[k]? = some (.int .u8 ((W.getD k 0 : Nat) : Int))
  fbyte : ∀ x ∈ W, x < 256
theorem Cip.later {w w' : World} {c b g n cap r B : Nat} {W : List Nat} (h : Cip w c b g n cap r W) (hb : Below B w w') (hc : c < B) (hbb : b < B) (hg : g < B) : Cip w' c b g n cap r W := by
  obtain ⟨h1, h2, h3, h3a, h3b, ⟨A, h4, h4b, h5⟩, h6⟩ := h
  exact ⟨(hb.block c hc).trans h1, (hb.block b hbb).trans h2, h3, h3a, h3b, ⟨A, (hb.block g hg).trans h4, h4b, h5⟩, h6⟩
theorem Cip.lt {w : World} {c b g n cap r : Nat} {W : List Nat} (h : Cip w c b g n cap r W) : c < w.heap.size ∧ b < w.heap.size ∧ g < w.heap.size := by
  obtain ⟨h1, h2, h3, _, _, ⟨A, h4, _, h5⟩, h6⟩ := h
  exact ⟨lt_of_block h1, lt_of_block h2, lt_of_block h4⟩
theorem Cip.up {w w' : World} {c b g n cap r B : Nat} {W : List Nat} (h : Cip w c b g n cap r W) (hb : Below B w w') (hB : w.heap.size ≤ B) : Cip w' c b g n cap r W := by
  obtain ⟨h1, h2, h3⟩ := h.lt
  exact h.later hb (by omega) (by omega) (by omega)
theorem Cip.c0 {w : World} {c b g n cap r : Nat} {W : List Nat} (h : Cip w c b g n cap r W) : w.cell? ⟨c, 0, none⟩ = some (.pointer (some ⟨b, 0, none⟩)) := (cells_at h.fcells 0).trans rfl
theorem Cip.c1 {w : World} {c b g n cap r : Nat} {W : List Nat} (h : Cip w c b g n cap r W) : w.cell? ⟨c, 1, none⟩ = some (.slice (some ⟨g, 0, none⟩) n cap) := (cells_at h.fcells 1).trans rfl
theorem Cip.c2 {w : World} {c b g n cap r : Nat} {W : List Nat} (h : Cip w c b g n cap r W) : w.cell? ⟨c, 2, none⟩ = some (.int .i64 (r : Int)) := (cells_at h.fcells 2).trans rfl
theorem Cip.wd {w : World} {c b g n cap r : Nat} {W : List Nat} (h : Cip w c b g n cap r W) (k : Nat) (hk : k < W.length) : w.cell? ⟨g, k, none⟩ = some (.int .u8 ((W.getD k 0 : Nat) : Int)) := by
  obtain ⟨A, h4, _, h5⟩ := h.fwords
  exact (cells_at h4 k).trans (h5 k hk)
theorem sub_same (b c : Nat) (hc : c < 256) (w : World) (h : IsBox w b) :
    Calls Try.prog 57 #[.pointer (some ⟨b, 0, none⟩), .int .u8 (c : Int)] w fun e w' => e = .returned (.int .u8 (sbx c : Int)) ∧ w' = w :=
  (sub_c w b c hc h).mono fun _ _ h => ⟨h.1, h.2.symm⟩
def subN4 (a : Nat → Nat) (k : Nat) : Nat := sbx (a k)
set_option maxRecDepth 100000 in
set_option maxHeartbeats 2000000 in
theorem csub_c (c b g n cap r : Nat) (W : List Nat) (a : Nat → Nat) (ha : ∀ j, j < 4 → a j < 256) (w : World) (hC : Cip w c b g n cap r W) :
    Calls Try.prog 43 #[.pointer (some ⟨c, 0, none⟩), .agg (v4 a)] w fun e w' => e = .returned (.agg (v4 (subN4 a))) ∧ Below w.heap.size w w' := by
  have b0 : ∀ (o1 : Obj), ((w.alloc (Obj.cells (v4 a) 61)).alloc o1).heap[w.heap.size]? = some (.cells (v4 (cut4 (subN4 a) a 0)) 61 (0, 0)) := fun o1 => by
    rw [heap_old' _ _ _ (by simp), heap_new', cut4_zero]
  have b2 : ∀ (o0 : Obj), ((w.alloc o0).alloc (Obj.cells (v4 (cutf a 0)) 61)).heap[w.heap.size + 1]? = some (.cells (v4 (cutf a 0)) 61 (0, 0)) := fun o0 => by
    rw [show w.heap.size + 1 = (w.alloc o0).heap.size by simp, heap_new']
  have B0 := Lib.hid b0
  have B2 := Lib.hid b2
  have HA := Lib.hid ha
  have HC := Lib.hid hC
  clear b0 b2 ha hC
  go_enter Try.func43, Try.ntmps43
  go_wp2
  go_loopw [6] (fun vi wr => ∃ k : Nat, k ≤ 4 ∧ vi = .int .i64 k ∧ Hid (wr.heap[w.heap.size]? = some (.cells (v4 (cut4 (subN4 a) a k)) 61 (0, 0))) ∧ Hid (wr.heap[w.heap.size + 1]? = some (.cells (v4 (cutf a 0)) 61 (0, 0))) ∧ Hid (Below w.heap.size w wr)) (fun vi _ => 4 - (intOf vi).toNat)
  case atStart => exact ⟨0, by omega, rfl, B0.out _, B2.out _, (((Below.refl _ _).alloc (Nat.le_refl _) _).alloc (by simp) _)⟩
  case round =>
    clear B0 B2
    obtain ⟨k, hk, rfl, h0, h2, hbel⟩ := hrel
    by_cases hlt : k < 4
    · have c0 := (cells_at h0.out k).trans (v4_get _ k hlt)
      rw [cut4_at] at c0
      have f0 := free_at h0.out k
      have hCr := HC.out.up hbel.out (Nat.le_refl _)
      have c1 := hCr.c0
      have HM : Hid (∀ w, IsBox w b → Calls Try.prog 57 #[.pointer (some ⟨b, 0, none⟩), .int .u8 (a k : Int)] w fun e w' => e = .returned (.int .u8 (subN4 a k : Int)) ∧ w' = w) := fun w h => sub_same b (a k) (HA.out k hlt) w h
      have HBX : Hid (IsBox wr.drew b) := hCr.fbox
      clear hCr
      have hd : decide ((k : Int) < 4) = true := by simp; omega
      go_wp2
      have d6 : (k : Int) < 4 := by omega
      refine wp_region_still_tail 10 (by kernel_rfl) (by kernel_rfl) ?_
      simp only [List.take_succ_cons, List.take_zero, List.drop_succ_cons, List.drop_zero]
      change wpStill _ _ wr.drew _ _ _
      repeat still_step
      still_call (HM.out _ HBX.out)
      repeat still_step
      refine wpStill_nil ?_
      change wpList _ _ _ _ _ wr.drew
      have n0 := block_at h0.out k (.int .u8 (subN4 a k : Int))
      rw [cut4_set _ _ _ hlt] at n0
      have N0 := Lib.hid n0
      clear n0
      go_wp2
      go_roundw
      case rel => exact ⟨k + 1, by omega, by go_num, N0.out, (Below.heap_setCell _ _ _ _ (by simp)).trans h2.out, (hbel.out.setCell (by simp) _).drew⟩
      case measure => simp [intOf]; omega
    · obtain rfl : k = 4 := by omega
      have h3 := h0
      rw [cut4_full] at h3
      go_wp2_with (first
        | (refine wpList_load_row rfl 61 (.tmp 3) rfl w.heap.size rfl _ _ _ _ h3.out Try.underlying61 rfl (by rw [four4]; rfl) ?_)
        | (refine wpList_store_row rfl 61 (.tmp 4) (.tmp 20) rfl (w.heap.size + 1) _ rfl rfl 61 _ h2.out (by rw [four4]; rfl) rfl (v4_one _) ?_))
      exact bodyPost_ret (results_cell_row rfl _ _ (w.heap.size + 1) 61 (v4 (subN4 a)) (0, 0) _ rfl (setRow_heap _ _ _ _ _ _ h2.out) Try.underlying61 rfl (by rw [four4]; rfl)) rfl ⟨rfl, below_setRow hbel.out (by omega) _⟩
end Go.Proofs.Ytinjafacnekkcaa
namespace Go.Proofs.Ytinjafacnekkcaa
open Go Go.RowKit GfM
theorem st17 : (Try.prog.info? 131).map (·.size) = some 17 := by kernel_rfl
theorem stA_one (l : List Nat) (b : Nat) : (stA l b).all (·.oneCell') = true := by
  rw [← Array.all_toList]; simp [stA, bA, Value.oneCell']
def ssubL (l : List Nat) : List Nat := (List.range 16).map fun k => sbx (l.getD k 0)
set_option maxRecDepth 100000 in
set_option maxHeartbeats 2000000 in
theorem ssub_c (l : List Nat) (hl : l.length = 16) (hb : ∀ j, j < 16 → l.getD j 0 < 256) (b : Nat) (w : World) (hB : IsBox w b) :
    Calls Try.prog 75 #[.agg (stA l b)] w fun e w' => e = .returned (.agg (stA (ssubL l) b)) ∧ Below w.heap.size w w' := by
  have b0 : ∀ (o1 : Obj), ((w.alloc (Obj.cells (stA l b) 131)).alloc o1).heap[w.heap.size]? = some (.cells (stA (upd (fun k => sbx (l.getD k 0)) l 0) b) 131 (0, 0)) := fun o1 => by
    rw [heap_old' _ _ _ (by simp), heap_new', upd_zero]
  have b2 : ∀ (o0 : Obj) (Z : Array Value), ((w.alloc o0).alloc (Obj.cells Z 131)).heap[w.heap.size + 1]? = some (.cells Z 131 (0, 0)) := fun o0 Z => by
    rw [show w.heap.size + 1 = (w.alloc o0).heap.size by simp, heap_new']
  have B0 := Lib.hid b0
  have B2 := Lib.hid b2
  have HL := Lib.hid hl
  have HV := Lib.hid hb
  have HB := Lib.hid hB
  clear b0 b2 hl hb hB
  go_enter Try.func75, Try.ntmps75
  go_wp2
  go_loopw [4] (fun vi wr => ∃ k : Nat, k ≤ 16 ∧ vi = .int .i64 k ∧ Hid (wr.heap[w.heap.size]? = some (.cells (stA (upd (fun k => sbx (l.getD k 0)) l k) b) 131 (0, 0))) ∧ Hid (∃ Z, Z.size = 17 ∧ wr.heap[w.heap.size + 1]? = some (.cells Z 131 (0, 0))) ∧ Hid (Below w.heap.size w wr)) (fun vi _ => 16 - (intOf vi).toNat)
  case atStart => exact ⟨0, by omega, rfl, B0.out _, ⟨_, rfl, B2.out _ _⟩, (((Below.refl _ _).alloc (Nat.le_refl _) _).alloc (by simp) _)⟩
  case round =>
    clear B0 B2
    obtain ⟨k, hk, rfl, h0, h2, hbel⟩ := hrel
    have hlen : (upd (fun k => sbx (l.getD k 0)) l k).length = 16 := by rw [upd_len _ _ _ (by rw [HL.out]; exact hk), HL.out]
    by_cases hlt : k < 16
    · have c0 := (cells_at h0.out k).trans (stA_get _ b k (by omega))
      rw [upd_get] at c0
      have c1 := (cells_at h0.out 16).trans (stA_box _ b hlen)
      have f0 := free_at h0.out k
      have HM : Hid (∀ w, IsBox w b → Calls Try.prog 57 #[.pointer (some ⟨b, 0, none⟩), .int .u8 (l.getD k 0 : Int)] w fun e w' => e = .returned (.int .u8 (sbx (l.getD k 0) : Int)) ∧ w' = w) := fun w h => sub_same b _ (HV.out k hlt) w h
      have HBX : Hid (IsBox wr.drew b) := HB.out.later hbel.out.drew HB.out.lt
      obtain ⟨v, hv⟩ : ∃ v, v = l.getD k 0 := ⟨_, rfl⟩
      have HVV := Lib.hid hv
      rw [← hv] at c0 HM
      have HLEN := Lib.hid hlen
      clear hv hlen
      have hd : decide ((k : Int) < 16) = true := by simp; omega
      go_wp2
      have d6 : (k : Int) < 16 := by omega
      refine wp_region_still_tail 10 (by kernel_rfl) (by kernel_rfl) ?_
      simp only [List.take_succ_cons, List.take_zero, List.drop_succ_cons, List.drop_zero]
      change wpStill _ _ wr.drew _ _ _
      repeat still_step
      still_call (HM.out _ HBX.out)
      repeat still_step
      refine wpStill_nil ?_
      change wpList _ _ _ _ _ wr.drew
      have n0 := block_at h0.out k (.int .u8 ((sbx v : Nat) : Int))
      rw [stA_set _ _ _ _ (by rw [HLEN.out]; exact hlt), HVV.out, upd_set _ _ _ (by rw [HL.out]; exact hlt), ← HVV.out] at n0
      have N0 := Lib.hid n0
      clear n0
      go_wp2
      go_roundw
      case rel =>
        obtain ⟨Z, hZ, hZ2⟩ := h2.out
        exact ⟨k + 1, by omega, by go_num, N0.out, ⟨Z, hZ, (Below.heap_setCell _ _ _ _ (by simp)).trans hZ2⟩, (hbel.out.setCell (by simp) _).drew⟩
      case measure => simp [intOf]; omega
    · obtain rfl : k = 16 := by omega
      have h3 := h0
      rw [upd_full _ _ 16 HL.out] at h3
      obtain ⟨Z, hZ, hZ2⟩ := h2.out
      have HZ := Lib.hid hZ
      have HZ2 := Lib.hid hZ2
      clear hZ hZ2 h2 hlen
      go_wp2_with (first
        | (refine wpList_load_row rfl 131 (.tmp 1) rfl w.heap.size rfl _ _ _ _ h3.out Try.underlying131 rfl (by rw [st17, stA_size]; simp) ?_)
        | (refine wpList_store_row rfl 131 (.tmp 2) (.tmp 18) rfl (w.heap.size + 1) _ rfl rfl 131 _ HZ2.out (by rw [st17, stA_size]; simp) (by rw [HZ.out, stA_size]; simp) (stA_one _ _) ?_))
      exact bodyPost_ret (results_cell_row rfl _ _ (w.heap.size + 1) 131 (stA (ssubL l) b) (0, 0) _ rfl (setRow_heap _ _ _ _ _ _ HZ2.out) Try.underlying131 rfl (by rw [st17, stA_size]; simp [ssubL])) rfl ⟨rfl, below_setRow hbel.out (by omega) _⟩
end Go.Proofs.Ytinjafacnekkcaa
