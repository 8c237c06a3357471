/- Contracts of four.each, Mix, Unmix. -/
import Derived.Test.YtjclofkkpgdjnaaMixA
set_option linter.unusedVariables false
namespace Go.Proofs.Ytjclofkkpgdjnaa
open Go Go.RowKit GfM
theorem heap_new (w : World) (o : Obj) : (w.alloc o).heap[w.heap.size]? = some o := by
  show (w.heap.push _)[_]? = _
  simp
theorem heap_old (w : World) (o : Obj) (k : Nat) (h : k < w.heap.size) : (w.alloc o).heap[k]? = w.heap[k]? := Below.heap_alloc w o k h
def cutf (g : Nat → Nat) (k j : Nat) : Nat := if j < k then g j else 0
theorem v4_ext {c d : Nat → Nat} (h : ∀ j, j < 4 → c j = d j) : v4 c = v4 d := by
  unfold v4; rw [h 0 (by omega), h 1 (by omega), h 2 (by omega), h 3 (by omega)]
theorem v4_set (g : Nat → Nat) (k : Nat) (h : k < 4) : (v4 (cutf g k)).setIfInBounds k (.int .u8 (g k : Int)) = v4 (cutf g (k + 1)) := by
  match k, h with
  | 0, _ => rfl
  | 1, _ => rfl
  | 2, _ => rfl
  | 3, _ => rfl
theorem v4_full (g : Nat → Nat) : v4 (cutf g 4) = v4 g := v4_ext fun j hj => by unfold cutf; rw [if_pos hj]
theorem ret_agg4 (fn : Func) (R : Ending → World → Prop) (a : Act) (g : Nat → Nat) (w : World) {s : Nat} (hres : fn.results = #[.cell s 133]) (hun : Try.prog.underlying 133 = some (.array 4 5)) (b : Nat)
    (hs : a.tmps.getD s undef = .pointer (some ⟨b, 0, none⟩)) (hb : w.heap[b]? = some (.cells (v4 g) 133 (0, 0))) (hd : a.defers = []) (hR : R (.returned (.agg (v4 g))) w) : bodyPost Try.prog fn R .ret a w := by
  have c0 := (cells_of hb 0).trans (v4_get g 0 (by omega))
  have c1 := (cells_of hb 1).trans (v4_get g 1 (by omega))
  have c2 := (cells_of hb 2).trans (v4_get g 2 (by omega))
  have c3 := (cells_of hb 3).trans (v4_get g 3 (by omega))
  refine bodyPost_ret (v := .agg (v4 g)) ?_ hd hR
  have hs' : a.tmps[s]?.getD undef = .pointer (some ⟨b, 0, none⟩) := by simpa using hs
  simp [results, hres, hs', go_sem, c0, c1, c2, c3, v4]
set_option maxRecDepth 100000 in
set_option maxHeartbeats 2000000 in
theorem each_c (F : FuncId) (c g : Nat → Nat)
    (hF : ∀ k : Nat, k < 4 → ∀ w : World, Calls Try.prog F #[.agg (v4 c), .int .i64 (k : Int)] w fun e w' => e = .returned (.int .u8 ((g k : Nat) : Int)) ∧ Below w.heap.size w w')
    (hcall : ∀ (x y : Value) (w : World), Sem.run Try.prog (callFunc F #[x, y]) w = .ok (.enter F #[x, y]) w) (w : World) :
    Calls Try.prog 115 #[.agg (v4 c), .func (.func F) #[] #[]] w fun e w' => e = .returned (.agg (v4 g)) ∧ Below w.heap.size w w' := by
  have hF' : ∀ k : Nat, k < 4 → ∀ w : World, Calls Try.prog F #[.agg #[.int .u8 (c 0 : Int), .int .u8 (c 1 : Int), .int .u8 (c 2 : Int), .int .u8 (c 3 : Int)], .int .i64 (k : Int)] w fun e w' => e = .returned (.int .u8 ((g k : Nat) : Int)) ∧ Below w.heap.size w w' := hF
  have HF := Lib.hid hF'
  clear hF hF'
  have b0 : ∀ (o1 o2 : Obj), (((w.alloc (Obj.cells (v4 c) 192)).alloc o1).alloc o2).heap[w.heap.size]? = some (.cells (v4 c) 192 (0, 0)) := fun o1 o2 => by
    rw [heap_old _ _ _ (by simp; omega), heap_old _ _ _ (by simp), heap_new]
  have b1 : ∀ (o0 o2 : Obj), (((w.alloc o0).alloc (Obj.cells (v4 (cutf g 0)) 133)).alloc o2).heap[w.heap.size + 1]? = some (.cells (v4 (cutf g 0)) 133 (0, 0)) := fun o0 o2 => by
    rw [heap_old _ _ _ (by simp), show w.heap.size + 1 = (w.alloc o0).heap.size by simp, heap_new]
  have b2 : ∀ (o0 o1 : Obj), (((w.alloc o0).alloc o1).alloc (Obj.cells (v4 (cutf g 0)) 133)).heap[w.heap.size + 1 + 1]? = some (.cells (v4 (cutf g 0)) 133 (0, 0)) := fun o0 o1 => by
    rw [show w.heap.size + 1 + 1 = ((w.alloc o0).alloc o1).heap.size by simp, heap_new]
  have B0 := Lib.hid b0
  have B1 := Lib.hid b1
  have B2 := Lib.hid b2
  clear b0 b1 b2
  go_enter Try.func115, Try.ntmps115
  go_wp2
  go_loopw [7] (fun vi wr => ∃ k : Nat, k ≤ 4 ∧ vi = .int .i64 k ∧ Hid (wr.heap[w.heap.size]? = some (.cells (v4 c) 192 (0, 0))) ∧ Hid (wr.heap[w.heap.size + 1]? = some (.cells (v4 (cutf g 0)) 133 (0, 0))) ∧ Hid (wr.heap[w.heap.size + 1 + 1]? = some (.cells (v4 (cutf g k)) 133 (0, 0))) ∧ w.heap.size + 2 < wr.heap.size ∧ Below w.heap.size w wr) (fun vi _ => 4 - (intOf vi).toNat)
  case atStart => exact ⟨0, by omega, rfl, B0.out _ _, B1.out _ _, B2.out _ _, by simp, ((((Below.refl _ _).alloc (Nat.le_refl _) _).alloc (by simp) _).alloc (by simp; omega) _)⟩
  case round =>
    obtain ⟨k, hk, rfl, h0, h1, h2, hz, hbel⟩ := hrel
    clear B0 B1 B2
    by_cases hlt : k < 4
    · have c0 := (cells_of h0.out 0).trans (v4_get c 0 (by omega))
      have c1 := (cells_of h0.out 1).trans (v4_get c 1 (by omega))
      have c2 := (cells_of h0.out 2).trans (v4_get c 2 (by omega))
      have c3 := (cells_of h0.out 3).trans (v4_get c 3 (by omega))
      go_wp2_with ((with_reducible refine (HF.out k hlt _).mono ?_); rintro e w1 ⟨rfl, hb1⟩; have hB2 := (hb1.block (w.heap.size + 1 + 1) (by omega)).trans h2.out; have hd := (cells_of hB2 k).trans (v4_get (cutf g k) k hlt); have hf := free_of hB2 k; have HB2 := Lib.hid hB2; clear hB2 c0 c1 c2 c3)
      go_roundw
      case rel =>
        have n2 := block_set HB2.out k (.int .u8 (g k : Int))
        rw [v4_set g k hlt] at n2
        have n0 := (Below.heap_setCell w1 ⟨w.heap.size + 1 + 1, k, none⟩ (.int .u8 (g k : Int)) w.heap.size (by simp; omega)).trans ((hb1.block _ (by omega)).trans h0.out)
        have n1 := (Below.heap_setCell w1 ⟨w.heap.size + 1 + 1, k, none⟩ (.int .u8 (g k : Int)) (w.heap.size + 1) (by simp)).trans ((hb1.block _ (by omega)).trans h1.out)
        exact ⟨k + 1, by omega, by go_num, n0, n1, n2, by have := hb1.size; simp [World.setCell]; omega, (hbel.trans (hb1.mono (by omega))).setCell (by simp; omega) _⟩
      case measure => simp [intOf]; omega
    · obtain rfl : k = 4 := by omega
      have h3 := h2.out
      rw [v4_full] at h3
      have c0 := (cells_of h3 0).trans (v4_get g 0 (by omega))
      have c1 := (cells_of h3 1).trans (v4_get g 1 (by omega))
      have c2 := (cells_of h3 2).trans (v4_get g 2 (by omega))
      have c3 := (cells_of h3 3).trans (v4_get g 3 (by omega))
      have d0 := (cells_of h1.out 0).trans (v4_get _ 0 (by omega))
      have d1 := (cells_of h1.out 1).trans (v4_get _ 1 (by omega))
      have d2 := (cells_of h1.out 2).trans (v4_get _ 2 (by omega))
      have d3 := (cells_of h1.out 3).trans (v4_get _ 3 (by omega))
      have f0 := free_of h1.out 0
      have f1 := free_of h1.out 1
      have f2 := free_of h1.out 2
      have f3 := free_of h1.out 3
      have H3 := Lib.hid h3
      clear h3 h2
      go_wp2
      have e := block_set (block_set (block_set (block_set h1.out 0 (.int .u8 (g 0 : Int))) 1 (.int .u8 (g 1 : Int))) 2 (.int .u8 (g 2 : Int))) 3 (.int .u8 (g 3 : Int))
      have e' : ((((v4 (cutf g 0)).setIfInBounds 0 (.int .u8 (g 0 : Int))).setIfInBounds 1 (.int .u8 (g 1 : Int))).setIfInBounds 2 (.int .u8 (g 2 : Int))).setIfInBounds 3 (.int .u8 (g 3 : Int)) = v4 g := rfl
      rw [e'] at e
      have hB := (((hbel.setCell (p := ⟨w.heap.size + 1, 0, none⟩) (by simp) (.int .u8 (g 0 : Int))).setCell (p := ⟨w.heap.size + 1, 1, none⟩) (by simp) (.int .u8 (g 1 : Int))).setCell (p := ⟨w.heap.size + 1, 2, none⟩) (by simp) (.int .u8 (g 2 : Int))).setCell (p := ⟨w.heap.size + 1, 3, none⟩) (by simp) (.int .u8 (g 3 : Int))
      exact ret_agg4 _ _ _ g _ rfl rfl (w.heap.size + 1) rfl e rfl ⟨rfl, hB⟩
theorem call_mixed (x y : Value) (w : World) : Sem.run Try.prog (callFunc 116 #[x, y]) w = .ok (.enter 116 #[x, y]) w := by
  go_simp
theorem each_lit (F : FuncId) (c g : Nat → Nat)
    (hF : ∀ k : Nat, k < 4 → ∀ w : World, Calls Try.prog F #[.agg (v4 c), .int .i64 (k : Int)] w fun e w' => e = .returned (.int .u8 ((g k : Nat) : Int)) ∧ Below w.heap.size w w')
    (hcall : ∀ (x y : Value) (w : World), Sem.run Try.prog (callFunc F #[x, y]) w = .ok (.enter F #[x, y]) w) (w : World) :
    Calls Try.prog 115 #[.agg #[.int .u8 (c 0 : Int), .int .u8 (c 1 : Int), .int .u8 (c 2 : Int), .int .u8 (c 3 : Int)], .func (.func F) #[] #[]] w fun e w' => e = .returned (.agg (v4 g)) ∧ Below w.heap.size w w' :=
  each_c F c g hF hcall w

set_option maxRecDepth 100000 in
set_option maxHeartbeats 2000000 in
theorem mix_c (c : Nat → Nat) (hc : ∀ j, j < 4 → c j < 256) (w : World) :
    Calls Try.prog 102 #[.agg (v4 c)] w fun e w' => e = .returned (.agg (v4 (mixN c))) ∧ Below w.heap.size w w' := by
  have HE := Lib.hid (each_lit 116 c (mixN c) (fun k hk w => mixed_c c hc k hk w) call_mixed)
  have b1 : ∀ (o0 : Obj), ((w.alloc o0).alloc (Obj.cells (v4 (cutf c 0)) 133)).heap[w.heap.size + 1]? = some (.cells (v4 (cutf c 0)) 133 (0, 0)) := fun o0 => by
    rw [show w.heap.size + 1 = (w.alloc o0).heap.size by simp, heap_new]
  have B1 := Lib.hid b1
  have HC := Lib.hid hc
  have p0 : ∀ (o : Obj), ((w.alloc (Obj.cells (v4 c) 133)).alloc o).cell? ⟨w.heap.size, 0, none⟩ = some (.int .u8 (c 0 : Int)) := fun o => by
    rw [World.cell?_alloc_past _ _ _ (by simp), World.cell?_alloc_new]; rfl
  have p1 : ∀ (o : Obj), ((w.alloc (Obj.cells (v4 c) 133)).alloc o).cell? ⟨w.heap.size, 1, none⟩ = some (.int .u8 (c 1 : Int)) := fun o => by
    rw [World.cell?_alloc_past _ _ _ (by simp), World.cell?_alloc_new]; rfl
  have p2 : ∀ (o : Obj), ((w.alloc (Obj.cells (v4 c) 133)).alloc o).cell? ⟨w.heap.size, 2, none⟩ = some (.int .u8 (c 2 : Int)) := fun o => by
    rw [World.cell?_alloc_past _ _ _ (by simp), World.cell?_alloc_new]; rfl
  have p3 : ∀ (o : Obj), ((w.alloc (Obj.cells (v4 c) 133)).alloc o).cell? ⟨w.heap.size, 3, none⟩ = some (.int .u8 (c 3 : Int)) := fun o => by
    rw [World.cell?_alloc_past _ _ _ (by simp), World.cell?_alloc_new]; rfl
  clear b1 hc
  go_enter Try.func102, Try.ntmps102
  go_wp2_with fail
  refine (HE.out _).mono ?_
  rintro e w1 ⟨rfl, hb1⟩
  have h1 := (hb1.block (w.heap.size + 1) (by simp)).trans (B1.out _)
  have hbel : Below w.heap.size w w1 := (((Below.refl _ _).alloc (Nat.le_refl _) _).alloc (by simp) _).trans (hb1.mono (by simp; omega))
  have H1 := Lib.hid h1
  have HB := Lib.hid hbel
  have d0 := (cells_of h1 0).trans (v4_get _ 0 (by omega))
  have d1 := (cells_of h1 1).trans (v4_get _ 1 (by omega))
  have d2 := (cells_of h1 2).trans (v4_get _ 2 (by omega))
  have d3 := (cells_of h1 3).trans (v4_get _ 3 (by omega))
  have f0 := free_of h1 0
  have f1 := free_of h1 1
  have f2 := free_of h1 2
  have f3 := free_of h1 3
  generalize hg : mixN c = g at *
  have HG := Lib.hid hg
  clear hg
  clear h1 hb1 hbel B1 HE p0 p1 p2 p3
  have hv : v4 g = #[.int .u8 (g 0 : Int), .int .u8 (g 1 : Int), .int .u8 (g 2 : Int), .int .u8 (g 3 : Int)] := rfl
  rw [hv]
  clear hv
  go_wp2
  have h1 := H1.out
  have hbel := HB.out
  have e := block_set (block_set (block_set (block_set h1 0 (.int .u8 (g 0 : Int))) 1 (.int .u8 (g 1 : Int))) 2 (.int .u8 (g 2 : Int))) 3 (.int .u8 (g 3 : Int))
  have e' : ((((v4 (cutf c 0)).setIfInBounds 0 (.int .u8 (g 0 : Int))).setIfInBounds 1 (.int .u8 (g 1 : Int))).setIfInBounds 2 (.int .u8 (g 2 : Int))).setIfInBounds 3 (.int .u8 (g 3 : Int)) = v4 g := rfl
  rw [e'] at e
  have hB := (((hbel.setCell (p := ⟨w.heap.size + 1, 0, none⟩) (by simp) (.int .u8 (g 0 : Int))).setCell (p := ⟨w.heap.size + 1, 1, none⟩) (by simp) (.int .u8 (g 1 : Int))).setCell (p := ⟨w.heap.size + 1, 2, none⟩) (by simp) (.int .u8 (g 2 : Int))).setCell (p := ⟨w.heap.size + 1, 3, none⟩) (by simp) (.int .u8 (g 3 : Int))
  exact ret_agg4 _ _ _ g _ rfl rfl (w.heap.size + 1) rfl e rfl ⟨by rw [HG.out], hB⟩

end Go.Proofs.Ytjclofkkpgdjnaa
