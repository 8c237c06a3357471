/- Texts ChNi, ChNj, ChNk, ChNl, put together by pack.py. -/
import Derived.Test.YtpbmjfjnmcpieaaGreatCBk
import Derived.Test.YtpbmjfjnmcpieaaGreatCBg
set_option maxRecDepth 100000
set_option maxHeartbeats 16000000
set_option linter.unusedVariables false
set_option linter.unusedSimpArgs false
namespace Go.Proofs.YtpbmjfjnmcpieaaGreat
open Go Go.RowKit
def opsFG : {o : Array Oper // some o = (Tryz.f24.body.bind (Fre.findR 10))} := ⟨_, rfl⟩
theorem fitFG : Fre.fit .any opsFG.1 76 = true := by kernel_rfl
theorem sizeFG : opsFG.1.size = 18 := by kernel_rfl
def VFG (lk pb k at_ g o n qc gk ok c0 : Nat) (b : List Nat) (p : Pg) (i : Nat) (v : Value) (w : World) : Prop := match i with
 | 0 => v = .pointer (some ⟨lk, 0, none⟩)
 | 1 => v = .pointer (some ⟨lk, 0, none⟩)
 | 2 => v = .pointer (some ⟨lk, 18, none⟩)
 | 3 => v = .slice (some ⟨g, o, none⟩) n qc
 | 4 => v = .int .i64 (k : Int)
 | 5 => v = .pointer (some ⟨g, o + k, none⟩)
 | 6 => v = .slice (some ⟨gk, ok, none⟩) 256 c0
 | 7 => v = .pointer (some ⟨pb, 1, none⟩)
 | 8 => v = .int .i64 (p.cls : Int)
 | 9 => v = .int .i64 (at_ : Int)
 | 10 => ∃ (s : Nat) (u : Value) (er : Int), v = .tuple #[.int .u64 (s : Int), u, .int .i64 er] /\ ((pageOk b p.cls && thereS b p.cls at_) = false -> er ≠ 0) /\ ((pageOk b p.cls && thereS b p.cls at_) = true -> s = serW (winL b p.cls at_) /\ er = 0)
 | 11 => ∃ (s : Nat) (u : Value) (er : Int), v = .tuple #[.int .u64 (s : Int), u, .int .i64 er] /\ ((pageOk b p.cls && thereS b p.cls at_) = false -> er ≠ 0) /\ ((pageOk b p.cls && thereS b p.cls at_) = true -> s = serW (winL b p.cls at_) /\ er = 0)
 | 12 => ∃ s : Nat, v = .int .u64 (s : Int) /\ ((pageOk b p.cls && thereS b p.cls at_) = true -> s = serW (winL b p.cls at_))
 | 13 => True
 | 14 => ∃ er : Int, v = .int .i64 er /\ ((pageOk b p.cls && thereS b p.cls at_) = false -> er ≠ 0) /\ ((pageOk b p.cls && thereS b p.cls at_) = true -> er = 0)
 | 15 => ∃ s : Nat, v = .int .u64 (s : Int) /\ ((pageOk b p.cls && thereS b p.cls at_) = true -> s = serW (winL b p.cls at_))
 | 16 => True
 | 17 => ∃ er : Int, v = .int .i64 er /\ ((pageOk b p.cls && thereS b p.cls at_) = false -> er ≠ 0) /\ ((pageOk b p.cls && thereS b p.cls at_) = true -> er = 0)
 | _ => True
theorem stFG_0 (lk pb k at_ g o n qc gk ok c0 : Nat) (b : List Nat) (p : Pg) (a0 : Act) (g90 : a0.tmps.getD 0 undef = .pointer (some ⟨lk, 0, none⟩)) (w0 : World) (h0 : w0.cell? ⟨lk, 18, none⟩ = some (.slice (some ⟨g, o, none⟩) n qc)) (hlk : lk < w0.heap.size) (h1 : w0.heap[pb]? = some (.cells (pgA p) 100 (0, 0))) (hk : k < n) (hrow : w0.cell? ⟨g, o + k, none⟩ = some (.slice (some ⟨gk, ok, none⟩) 256 c0)) (hg : g < w0.heap.size) (hb : b.length = 256) (hc0 : 256 <= c0) (hcm : c0 <= maxLen) (hby : ∀ w', Fre.Kept w0 w' -> BytesAt w' (some ⟨gk, ok, none⟩) c0 b) : Fre.StepB Tryz.prog opsFG.1 a0 w0 (VFG lk pb k at_ g o n qc gk ok c0 b p) Fre.Kept 0 := by
 intro E w hc hf hE hV hN hS o ho
 obtain rfl := Option.some.inj ho
 clear ho
 simp only [opsFG, List.getElem_toArray, List.getElem_cons_succ, List.getElem_cons_zero]
 have b0 : E (.tmp 0) = .pointer (some ⟨lk, 0, none⟩) := (hE 0 (by kernel_rfl)).trans g90
 clear g90
 refine Fre.Does.value (v := .pointer (some ⟨lk, 0, none⟩)) (w' := w) ?_ ⟨rfl, Fre.Kept.refl _⟩
 go_simp
theorem stFG_1 (lk pb k at_ g o n qc gk ok c0 : Nat) (b : List Nat) (p : Pg) (a0 : Act)  (w0 : World) (h0 : w0.cell? ⟨lk, 18, none⟩ = some (.slice (some ⟨g, o, none⟩) n qc)) (hlk : lk < w0.heap.size) (h1 : w0.heap[pb]? = some (.cells (pgA p) 100 (0, 0))) (hk : k < n) (hrow : w0.cell? ⟨g, o + k, none⟩ = some (.slice (some ⟨gk, ok, none⟩) 256 c0)) (hg : g < w0.heap.size) (hb : b.length = 256) (hc0 : 256 <= c0) (hcm : c0 <= maxLen) (hby : ∀ w', Fre.Kept w0 w' -> BytesAt w' (some ⟨gk, ok, none⟩) c0 b) : Fre.StepB Tryz.prog opsFG.1 a0 w0 (VFG lk pb k at_ g o n qc gk ok c0 b p) Fre.Kept 1 := by
 intro E w hc hf hE hV hN hS o ho
 obtain rfl := Option.some.inj ho
 clear ho
 simp only [opsFG, List.getElem_toArray, List.getElem_cons_succ, List.getElem_cons_zero]
 have d0 := hV 0 45 (by kernel_rfl) (by kernel_rfl)
 have d0 : E (.tmp 45) = .pointer (some ⟨lk, 0, none⟩) := d0
 refine Fre.Does.value (v := .pointer (some ⟨lk, 0, none⟩)) (w' := w) ?_ ⟨rfl, Fre.Kept.refl _⟩
 go_simp
theorem stFG_2 (lk pb k at_ g o n qc gk ok c0 : Nat) (b : List Nat) (p : Pg) (a0 : Act)  (w0 : World) (h0 : w0.cell? ⟨lk, 18, none⟩ = some (.slice (some ⟨g, o, none⟩) n qc)) (hlk : lk < w0.heap.size) (h1 : w0.heap[pb]? = some (.cells (pgA p) 100 (0, 0))) (hk : k < n) (hrow : w0.cell? ⟨g, o + k, none⟩ = some (.slice (some ⟨gk, ok, none⟩) 256 c0)) (hg : g < w0.heap.size) (hb : b.length = 256) (hc0 : 256 <= c0) (hcm : c0 <= maxLen) (hby : ∀ w', Fre.Kept w0 w' -> BytesAt w' (some ⟨gk, ok, none⟩) c0 b) : Fre.StepB Tryz.prog opsFG.1 a0 w0 (VFG lk pb k at_ g o n qc gk ok c0 b p) Fre.Kept 2 := by
 intro E w hc hf hE hV hN hS o ho
 obtain rfl := Option.some.inj ho
 clear ho
 simp only [opsFG, List.getElem_toArray, List.getElem_cons_succ, List.getElem_cons_zero]
 have d1 := hV 1 46 (by kernel_rfl) (by kernel_rfl)
 have d1 : E (.tmp 46) = .pointer (some ⟨lk, 0, none⟩) := d1
 refine Fre.Does.value (v := .pointer (some ⟨lk, 18, none⟩)) (w' := w) ?_ ⟨rfl, Fre.Kept.refl _⟩
 go_simp
theorem stFG_3 (lk pb k at_ g o n qc gk ok c0 : Nat) (b : List Nat) (p : Pg) (a0 : Act)  (w0 : World) (h0 : w0.cell? ⟨lk, 18, none⟩ = some (.slice (some ⟨g, o, none⟩) n qc)) (hlk : lk < w0.heap.size) (h1 : w0.heap[pb]? = some (.cells (pgA p) 100 (0, 0))) (hk : k < n) (hrow : w0.cell? ⟨g, o + k, none⟩ = some (.slice (some ⟨gk, ok, none⟩) 256 c0)) (hg : g < w0.heap.size) (hb : b.length = 256) (hc0 : 256 <= c0) (hcm : c0 <= maxLen) (hby : ∀ w', Fre.Kept w0 w' -> BytesAt w' (some ⟨gk, ok, none⟩) c0 b) : Fre.StepB Tryz.prog opsFG.1 a0 w0 (VFG lk pb k at_ g o n qc gk ok c0 b p) Fre.Kept 3 := by
 intro E w hc hf hE hV hN hS o ho
 obtain rfl := Option.some.inj ho
 clear ho
 simp only [opsFG, List.getElem_toArray, List.getElem_cons_succ, List.getElem_cons_zero]
 have d2 := hV 2 47 (by kernel_rfl) (by kernel_rfl)
 have d2 : E (.tmp 47) = .pointer (some ⟨lk, 18, none⟩) := d2
 have c0 : w.cell? ⟨lk, 18, none⟩ = some (.slice (some ⟨g, o, none⟩) n qc) := (hS.cell (p := ⟨lk, 18, none⟩) hlk).trans h0
 refine Fre.Does.value (v := .slice (some ⟨g, o, none⟩) n qc) (w' := w) ?_ ⟨rfl, Fre.Kept.refl _⟩
 go_simp
theorem stFG_4 (lk pb k at_ g o n qc gk ok c0 : Nat) (b : List Nat) (p : Pg) (a0 : Act) (g92 : a0.tmps.getD 2 undef = .int .i64 (k : Int)) (w0 : World) (h0 : w0.cell? ⟨lk, 18, none⟩ = some (.slice (some ⟨g, o, none⟩) n qc)) (hlk : lk < w0.heap.size) (h1 : w0.heap[pb]? = some (.cells (pgA p) 100 (0, 0))) (hk : k < n) (hrow : w0.cell? ⟨g, o + k, none⟩ = some (.slice (some ⟨gk, ok, none⟩) 256 c0)) (hg : g < w0.heap.size) (hb : b.length = 256) (hc0 : 256 <= c0) (hcm : c0 <= maxLen) (hby : ∀ w', Fre.Kept w0 w' -> BytesAt w' (some ⟨gk, ok, none⟩) c0 b) : Fre.StepB Tryz.prog opsFG.1 a0 w0 (VFG lk pb k at_ g o n qc gk ok c0 b p) Fre.Kept 4 := by
 intro E w hc hf hE hV hN hS o ho
 obtain rfl := Option.some.inj ho
 clear ho
 simp only [opsFG, List.getElem_toArray, List.getElem_cons_succ, List.getElem_cons_zero]
 have b2 : E (.tmp 2) = .int .i64 (k : Int) := (hE 2 (by kernel_rfl)).trans g92
 clear g92
 refine Fre.Does.value (v := .int .i64 (k : Int)) (w' := w) ?_ ⟨rfl, Fre.Kept.refl _⟩
 go_simp
theorem stFG_5 (lk pb k at_ g o n qc gk ok c0 : Nat) (b : List Nat) (p : Pg) (a0 : Act)  (w0 : World) (h0 : w0.cell? ⟨lk, 18, none⟩ = some (.slice (some ⟨g, o, none⟩) n qc)) (hlk : lk < w0.heap.size) (h1 : w0.heap[pb]? = some (.cells (pgA p) 100 (0, 0))) (hk : k < n) (hrow : w0.cell? ⟨g, o + k, none⟩ = some (.slice (some ⟨gk, ok, none⟩) 256 c0)) (hg : g < w0.heap.size) (hb : b.length = 256) (hc0 : 256 <= c0) (hcm : c0 <= maxLen) (hby : ∀ w', Fre.Kept w0 w' -> BytesAt w' (some ⟨gk, ok, none⟩) c0 b) : Fre.StepB Tryz.prog opsFG.1 a0 w0 (VFG lk pb k at_ g o n qc gk ok c0 b p) Fre.Kept 5 := by
 intro E w hc hf hE hV hN hS o ho
 obtain rfl := Option.some.inj ho
 clear ho
 simp only [opsFG, List.getElem_toArray, List.getElem_cons_succ, List.getElem_cons_zero]
 have d3 := hV 3 48 (by kernel_rfl) (by kernel_rfl)
 have d3 : E (.tmp 48) = .slice (some ⟨g, o, none⟩) n qc := d3
 have d4 := hV 4 49 (by kernel_rfl) (by kernel_rfl)
 have d4 : E (.tmp 49) = .int .i64 (k : Int) := d4
 have dl : (k : Int) < (n : Int) := by omega
 have dz : ¬ (k : Int) < 0 := by omega
 refine Fre.Does.value (v := .pointer (some ⟨g, o + k, none⟩)) (w' := w) ?_ ⟨rfl, Fre.Kept.refl _⟩
 go_simp
theorem stFG_6 (lk pb k at_ g o n qc gk ok c0 : Nat) (b : List Nat) (p : Pg) (a0 : Act)  (w0 : World) (h0 : w0.cell? ⟨lk, 18, none⟩ = some (.slice (some ⟨g, o, none⟩) n qc)) (hlk : lk < w0.heap.size) (h1 : w0.heap[pb]? = some (.cells (pgA p) 100 (0, 0))) (hk : k < n) (hrow : w0.cell? ⟨g, o + k, none⟩ = some (.slice (some ⟨gk, ok, none⟩) 256 c0)) (hg : g < w0.heap.size) (hb : b.length = 256) (hc0 : 256 <= c0) (hcm : c0 <= maxLen) (hby : ∀ w', Fre.Kept w0 w' -> BytesAt w' (some ⟨gk, ok, none⟩) c0 b) : Fre.StepB Tryz.prog opsFG.1 a0 w0 (VFG lk pb k at_ g o n qc gk ok c0 b p) Fre.Kept 6 := by
 intro E w hc hf hE hV hN hS o ho
 obtain rfl := Option.some.inj ho
 clear ho
 simp only [opsFG, List.getElem_toArray, List.getElem_cons_succ, List.getElem_cons_zero]
 have d5 := hV 5 50 (by kernel_rfl) (by kernel_rfl)
 have d5 : E (.tmp 50) = .pointer (some ⟨g, o + k, none⟩) := d5
 have cr : w.cell? ⟨g, o + k, none⟩ = some (.slice (some ⟨gk, ok, none⟩) 256 c0) := (hS.cell (p := ⟨g, o + k, none⟩) hg).trans hrow
 refine Fre.Does.value (v := .slice (some ⟨gk, ok, none⟩) 256 c0) (w' := w) ?_ ⟨rfl, Fre.Kept.refl _⟩
 go_simp
theorem stFG_7 (lk pb k at_ g o n qc gk ok c0 : Nat) (b : List Nat) (p : Pg) (a0 : Act) (g93 : a0.tmps.getD 3 undef = .pointer (some ⟨pb, 0, none⟩)) (w0 : World) (h0 : w0.cell? ⟨lk, 18, none⟩ = some (.slice (some ⟨g, o, none⟩) n qc)) (hlk : lk < w0.heap.size) (h1 : w0.heap[pb]? = some (.cells (pgA p) 100 (0, 0))) (hk : k < n) (hrow : w0.cell? ⟨g, o + k, none⟩ = some (.slice (some ⟨gk, ok, none⟩) 256 c0)) (hg : g < w0.heap.size) (hb : b.length = 256) (hc0 : 256 <= c0) (hcm : c0 <= maxLen) (hby : ∀ w', Fre.Kept w0 w' -> BytesAt w' (some ⟨gk, ok, none⟩) c0 b) : Fre.StepB Tryz.prog opsFG.1 a0 w0 (VFG lk pb k at_ g o n qc gk ok c0 b p) Fre.Kept 7 := by
 intro E w hc hf hE hV hN hS o ho
 obtain rfl := Option.some.inj ho
 clear ho
 simp only [opsFG, List.getElem_toArray, List.getElem_cons_succ, List.getElem_cons_zero]
 have b3 : E (.tmp 3) = .pointer (some ⟨pb, 0, none⟩) := (hE 3 (by kernel_rfl)).trans g93
 clear g93
 refine Fre.Does.value (v := .pointer (some ⟨pb, 1, none⟩)) (w' := w) ?_ ⟨rfl, Fre.Kept.refl _⟩
 go_simp
theorem stFG_8 (lk pb k at_ g o n qc gk ok c0 : Nat) (b : List Nat) (p : Pg) (a0 : Act)  (w0 : World) (h0 : w0.cell? ⟨lk, 18, none⟩ = some (.slice (some ⟨g, o, none⟩) n qc)) (hlk : lk < w0.heap.size) (h1 : w0.heap[pb]? = some (.cells (pgA p) 100 (0, 0))) (hk : k < n) (hrow : w0.cell? ⟨g, o + k, none⟩ = some (.slice (some ⟨gk, ok, none⟩) 256 c0)) (hg : g < w0.heap.size) (hb : b.length = 256) (hc0 : 256 <= c0) (hcm : c0 <= maxLen) (hby : ∀ w', Fre.Kept w0 w' -> BytesAt w' (some ⟨gk, ok, none⟩) c0 b) : Fre.StepB Tryz.prog opsFG.1 a0 w0 (VFG lk pb k at_ g o n qc gk ok c0 b p) Fre.Kept 8 := by
 intro E w hc hf hE hV hN hS o ho
 obtain rfl := Option.some.inj ho
 clear ho
 simp only [opsFG, List.getElem_toArray, List.getElem_cons_succ, List.getElem_cons_zero]
 have d7 := hV 7 52 (by kernel_rfl) (by kernel_rfl)
 have d7 : E (.tmp 52) = .pointer (some ⟨pb, 1, none⟩) := d7
 have hbb := (hS.block pb (lt_of_block h1)).trans h1
 have cr := (cells_at hbb 1).trans (show _ = some (Value.int .i64 (p.cls : Int)) from rfl)
 refine Fre.Does.value (v := .int .i64 (p.cls : Int)) (w' := w) ?_ ⟨rfl, Fre.Kept.refl _⟩
 go_simp
theorem stFG_9 (lk pb k at_ g o n qc gk ok c0 : Nat) (b : List Nat) (p : Pg) (a0 : Act) (g94 : a0.tmps.getD 4 undef = .int .i64 (at_ : Int)) (w0 : World) (h0 : w0.cell? ⟨lk, 18, none⟩ = some (.slice (some ⟨g, o, none⟩) n qc)) (hlk : lk < w0.heap.size) (h1 : w0.heap[pb]? = some (.cells (pgA p) 100 (0, 0))) (hk : k < n) (hrow : w0.cell? ⟨g, o + k, none⟩ = some (.slice (some ⟨gk, ok, none⟩) 256 c0)) (hg : g < w0.heap.size) (hb : b.length = 256) (hc0 : 256 <= c0) (hcm : c0 <= maxLen) (hby : ∀ w', Fre.Kept w0 w' -> BytesAt w' (some ⟨gk, ok, none⟩) c0 b) : Fre.StepB Tryz.prog opsFG.1 a0 w0 (VFG lk pb k at_ g o n qc gk ok c0 b p) Fre.Kept 9 := by
 intro E w hc hf hE hV hN hS o ho
 obtain rfl := Option.some.inj ho
 clear ho
 simp only [opsFG, List.getElem_toArray, List.getElem_cons_succ, List.getElem_cons_zero]
 have b4 : E (.tmp 4) = .int .i64 (at_ : Int) := (hE 4 (by kernel_rfl)).trans g94
 clear g94
 refine Fre.Does.value (v := .int .i64 (at_ : Int)) (w' := w) ?_ ⟨rfl, Fre.Kept.refl _⟩
 go_simp
theorem stFG_10 (lk pb k at_ g o n qc gk ok c0 : Nat) (b : List Nat) (p : Pg) (a0 : Act)  (w0 : World) (h0 : w0.cell? ⟨lk, 18, none⟩ = some (.slice (some ⟨g, o, none⟩) n qc)) (hlk : lk < w0.heap.size) (h1 : w0.heap[pb]? = some (.cells (pgA p) 100 (0, 0))) (hk : k < n) (hrow : w0.cell? ⟨g, o + k, none⟩ = some (.slice (some ⟨gk, ok, none⟩) 256 c0)) (hg : g < w0.heap.size) (hb : b.length = 256) (hc0 : 256 <= c0) (hcm : c0 <= maxLen) (hby : ∀ w', Fre.Kept w0 w' -> BytesAt w' (some ⟨gk, ok, none⟩) c0 b) : Fre.StepB Tryz.prog opsFG.1 a0 w0 (VFG lk pb k at_ g o n qc gk ok c0 b p) Fre.Kept 10 := by
 intro E w hc hf hE hV hN hS o ho
 obtain rfl := Option.some.inj ho
 clear ho
 simp only [opsFG, List.getElem_toArray, List.getElem_cons_succ, List.getElem_cons_zero]
 have d6 := hV 6 51 (by kernel_rfl) (by kernel_rfl)
 have d6 : E (.tmp 51) = .slice (some ⟨gk, ok, none⟩) 256 c0 := d6
 have d8 := hV 8 53 (by kernel_rfl) (by kernel_rfl)
 have d8 : E (.tmp 53) = .int .i64 (p.cls : Int) := d8
 have d9 := hV 9 54 (by kernel_rfl) (by kernel_rfl)
 have d9 : E (.tmp 54) = .int .i64 (at_ : Int) := d9
 refine Fre.Does.enter (f := 48) (args := #[.slice (some ⟨gk, ok, none⟩) 256 c0, .int .i64 (p.cls : Int), .int .i64 (at_ : Int)]) (w' := w) ?_ ((sget_c gk ok 256 c0 b hb rfl hc0 hcm p.cls at_ w (hby w hS)).mono ?_)
 ·go_simp
 ·rintro e w' ⟨⟨hf, er, her, rfl⟩ | ⟨hf, u, rfl⟩, hkk⟩
  ·exact ⟨_, rfl, ⟨0, _, er, rfl, fun _ => her, fun h => by rw [hf] at h; cases h⟩, hkk⟩
  ·exact ⟨_, rfl, ⟨_, u, 0, rfl, (fun h => by rw [hf] at h; cases h), fun _ => ⟨rfl, rfl⟩⟩, hkk⟩
theorem stFG_11 (lk pb k at_ g o n qc gk ok c0 : Nat) (b : List Nat) (p : Pg) (a0 : Act)  (w0 : World) (h0 : w0.cell? ⟨lk, 18, none⟩ = some (.slice (some ⟨g, o, none⟩) n qc)) (hlk : lk < w0.heap.size) (h1 : w0.heap[pb]? = some (.cells (pgA p) 100 (0, 0))) (hk : k < n) (hrow : w0.cell? ⟨g, o + k, none⟩ = some (.slice (some ⟨gk, ok, none⟩) 256 c0)) (hg : g < w0.heap.size) (hb : b.length = 256) (hc0 : 256 <= c0) (hcm : c0 <= maxLen) (hby : ∀ w', Fre.Kept w0 w' -> BytesAt w' (some ⟨gk, ok, none⟩) c0 b) : Fre.StepB Tryz.prog opsFG.1 a0 w0 (VFG lk pb k at_ g o n qc gk ok c0 b p) Fre.Kept 11 := by
 intro E w hc hf hE hV hN hS o ho
 obtain rfl := Option.some.inj ho
 clear ho
 simp only [opsFG, List.getElem_toArray, List.getElem_cons_succ, List.getElem_cons_zero]
 have d10 := hV 10 55 (by kernel_rfl) (by kernel_rfl)
 replace d10 : (fun v : Value => ∃ (s : Nat) (u : Value) (er : Int), v = .tuple #[.int .u64 (s : Int), u, .int .i64 er] /\ ((pageOk b p.cls && thereS b p.cls at_) = false -> er ≠ 0) /\ ((pageOk b p.cls && thereS b p.cls at_) = true -> s = serW (winL b p.cls at_) /\ er = 0)) (E (.tmp 55)) := d10
 simp only at d10
 refine Fre.Does.value (v := E (.tmp 55)) (w' := w) ?_ ⟨d10, Fre.Kept.refl _⟩
 go_simp
theorem stFG_12 (lk pb k at_ g o n qc gk ok c0 : Nat) (b : List Nat) (p : Pg) (a0 : Act)  (w0 : World) (h0 : w0.cell? ⟨lk, 18, none⟩ = some (.slice (some ⟨g, o, none⟩) n qc)) (hlk : lk < w0.heap.size) (h1 : w0.heap[pb]? = some (.cells (pgA p) 100 (0, 0))) (hk : k < n) (hrow : w0.cell? ⟨g, o + k, none⟩ = some (.slice (some ⟨gk, ok, none⟩) 256 c0)) (hg : g < w0.heap.size) (hb : b.length = 256) (hc0 : 256 <= c0) (hcm : c0 <= maxLen) (hby : ∀ w', Fre.Kept w0 w' -> BytesAt w' (some ⟨gk, ok, none⟩) c0 b) : Fre.StepB Tryz.prog opsFG.1 a0 w0 (VFG lk pb k at_ g o n qc gk ok c0 b p) Fre.Kept 12 := by
 intro E w hc hf hE hV hN hS o ho
 obtain rfl := Option.some.inj ho
 clear ho
 simp only [opsFG, List.getElem_toArray, List.getElem_cons_succ, List.getElem_cons_zero]
 have d11 := hV 11 44 (by kernel_rfl) (by kernel_rfl)
 replace d11 : (fun v : Value => ∃ (s : Nat) (u : Value) (er : Int), v = .tuple #[.int .u64 (s : Int), u, .int .i64 er] /\ ((pageOk b p.cls && thereS b p.cls at_) = false -> er ≠ 0) /\ ((pageOk b p.cls && thereS b p.cls at_) = true -> s = serW (winL b p.cls at_) /\ er = 0)) (E (.tmp 44)) := d11
 simp only at d11
 obtain ⟨s, u, er, e, f1, f2⟩ := d11
 refine Fre.Does.value (v := .int .u64 (s : Int)) (w' := w) ?_ ⟨⟨s, rfl, fun h => (f2 h).1⟩, Fre.Kept.refl _⟩
 unfold execOp
 simp only [e]
 go_simp
theorem stFG_13 (lk pb k at_ g o n qc gk ok c0 : Nat) (b : List Nat) (p : Pg) (a0 : Act)  (w0 : World) (h0 : w0.cell? ⟨lk, 18, none⟩ = some (.slice (some ⟨g, o, none⟩) n qc)) (hlk : lk < w0.heap.size) (h1 : w0.heap[pb]? = some (.cells (pgA p) 100 (0, 0))) (hk : k < n) (hrow : w0.cell? ⟨g, o + k, none⟩ = some (.slice (some ⟨gk, ok, none⟩) 256 c0)) (hg : g < w0.heap.size) (hb : b.length = 256) (hc0 : 256 <= c0) (hcm : c0 <= maxLen) (hby : ∀ w', Fre.Kept w0 w' -> BytesAt w' (some ⟨gk, ok, none⟩) c0 b) : Fre.StepB Tryz.prog opsFG.1 a0 w0 (VFG lk pb k at_ g o n qc gk ok c0 b p) Fre.Kept 13 := by
 intro E w hc hf hE hV hN hS o ho
 obtain rfl := Option.some.inj ho
 clear ho
 simp only [opsFG, List.getElem_toArray, List.getElem_cons_succ, List.getElem_cons_zero]
 have d11 := hV 11 44 (by kernel_rfl) (by kernel_rfl)
 replace d11 : (fun v : Value => ∃ (s : Nat) (u : Value) (er : Int), v = .tuple #[.int .u64 (s : Int), u, .int .i64 er] /\ ((pageOk b p.cls && thereS b p.cls at_) = false -> er ≠ 0) /\ ((pageOk b p.cls && thereS b p.cls at_) = true -> s = serW (winL b p.cls at_) /\ er = 0)) (E (.tmp 44)) := d11
 simp only at d11
 obtain ⟨s, u, er, e, f1, f2⟩ := d11
 refine Fre.Does.value (v := u) (w' := w) ?_ ⟨trivial, Fre.Kept.refl _⟩
 unfold execOp
 simp only [e]
 go_simp
theorem stFG_14 (lk pb k at_ g o n qc gk ok c0 : Nat) (b : List Nat) (p : Pg) (a0 : Act)  (w0 : World) (h0 : w0.cell? ⟨lk, 18, none⟩ = some (.slice (some ⟨g, o, none⟩) n qc)) (hlk : lk < w0.heap.size) (h1 : w0.heap[pb]? = some (.cells (pgA p) 100 (0, 0))) (hk : k < n) (hrow : w0.cell? ⟨g, o + k, none⟩ = some (.slice (some ⟨gk, ok, none⟩) 256 c0)) (hg : g < w0.heap.size) (hb : b.length = 256) (hc0 : 256 <= c0) (hcm : c0 <= maxLen) (hby : ∀ w', Fre.Kept w0 w' -> BytesAt w' (some ⟨gk, ok, none⟩) c0 b) : Fre.StepB Tryz.prog opsFG.1 a0 w0 (VFG lk pb k at_ g o n qc gk ok c0 b p) Fre.Kept 14 := by
 intro E w hc hf hE hV hN hS o ho
 obtain rfl := Option.some.inj ho
 clear ho
 simp only [opsFG, List.getElem_toArray, List.getElem_cons_succ, List.getElem_cons_zero]
 have d11 := hV 11 44 (by kernel_rfl) (by kernel_rfl)
 replace d11 : (fun v : Value => ∃ (s : Nat) (u : Value) (er : Int), v = .tuple #[.int .u64 (s : Int), u, .int .i64 er] /\ ((pageOk b p.cls && thereS b p.cls at_) = false -> er ≠ 0) /\ ((pageOk b p.cls && thereS b p.cls at_) = true -> s = serW (winL b p.cls at_) /\ er = 0)) (E (.tmp 44)) := d11
 simp only at d11
 obtain ⟨s, u, er, e, f1, f2⟩ := d11
 refine Fre.Does.value (v := .int .i64 er) (w' := w) ?_ ⟨⟨er, rfl, f1, fun h => (f2 h).2⟩, Fre.Kept.refl _⟩
 unfold execOp
 simp only [e]
 go_simp
theorem stFG_15 (lk pb k at_ g o n qc gk ok c0 : Nat) (b : List Nat) (p : Pg) (a0 : Act)  (w0 : World) (h0 : w0.cell? ⟨lk, 18, none⟩ = some (.slice (some ⟨g, o, none⟩) n qc)) (hlk : lk < w0.heap.size) (h1 : w0.heap[pb]? = some (.cells (pgA p) 100 (0, 0))) (hk : k < n) (hrow : w0.cell? ⟨g, o + k, none⟩ = some (.slice (some ⟨gk, ok, none⟩) 256 c0)) (hg : g < w0.heap.size) (hb : b.length = 256) (hc0 : 256 <= c0) (hcm : c0 <= maxLen) (hby : ∀ w', Fre.Kept w0 w' -> BytesAt w' (some ⟨gk, ok, none⟩) c0 b) : Fre.StepB Tryz.prog opsFG.1 a0 w0 (VFG lk pb k at_ g o n qc gk ok c0 b p) Fre.Kept 15 := by
 intro E w hc hf hE hV hN hS o ho
 obtain rfl := Option.some.inj ho
 clear ho
 simp only [opsFG, List.getElem_toArray, List.getElem_cons_succ, List.getElem_cons_zero]
 have d12 := hV 12 56 (by kernel_rfl) (by kernel_rfl)
 replace d12 : (fun v : Value => ∃ s : Nat, v = .int .u64 (s : Int) /\ ((pageOk b p.cls && thereS b p.cls at_) = true -> s = serW (winL b p.cls at_))) (E (.tmp 56)) := d12
 simp only at d12
 refine Fre.Does.value (v := E (.tmp 56)) (w' := w) ?_ ⟨d12, Fre.Kept.refl _⟩
 go_simp
theorem stFG_16 (lk pb k at_ g o n qc gk ok c0 : Nat) (b : List Nat) (p : Pg) (a0 : Act)  (w0 : World) (h0 : w0.cell? ⟨lk, 18, none⟩ = some (.slice (some ⟨g, o, none⟩) n qc)) (hlk : lk < w0.heap.size) (h1 : w0.heap[pb]? = some (.cells (pgA p) 100 (0, 0))) (hk : k < n) (hrow : w0.cell? ⟨g, o + k, none⟩ = some (.slice (some ⟨gk, ok, none⟩) 256 c0)) (hg : g < w0.heap.size) (hb : b.length = 256) (hc0 : 256 <= c0) (hcm : c0 <= maxLen) (hby : ∀ w', Fre.Kept w0 w' -> BytesAt w' (some ⟨gk, ok, none⟩) c0 b) : Fre.StepB Tryz.prog opsFG.1 a0 w0 (VFG lk pb k at_ g o n qc gk ok c0 b p) Fre.Kept 16 := by
 intro E w hc hf hE hV hN hS o ho
 obtain rfl := Option.some.inj ho
 clear ho
 simp only [opsFG, List.getElem_toArray, List.getElem_cons_succ, List.getElem_cons_zero]
 refine Fre.Does.value (v := E (.tmp 57)) (w' := w) ?_ ⟨trivial, Fre.Kept.refl _⟩
 go_simp
theorem stFG_17 (lk pb k at_ g o n qc gk ok c0 : Nat) (b : List Nat) (p : Pg) (a0 : Act)  (w0 : World) (h0 : w0.cell? ⟨lk, 18, none⟩ = some (.slice (some ⟨g, o, none⟩) n qc)) (hlk : lk < w0.heap.size) (h1 : w0.heap[pb]? = some (.cells (pgA p) 100 (0, 0))) (hk : k < n) (hrow : w0.cell? ⟨g, o + k, none⟩ = some (.slice (some ⟨gk, ok, none⟩) 256 c0)) (hg : g < w0.heap.size) (hb : b.length = 256) (hc0 : 256 <= c0) (hcm : c0 <= maxLen) (hby : ∀ w', Fre.Kept w0 w' -> BytesAt w' (some ⟨gk, ok, none⟩) c0 b) : Fre.StepB Tryz.prog opsFG.1 a0 w0 (VFG lk pb k at_ g o n qc gk ok c0 b p) Fre.Kept 17 := by
 intro E w hc hf hE hV hN hS o ho
 obtain rfl := Option.some.inj ho
 clear ho
 simp only [opsFG, List.getElem_toArray, List.getElem_cons_succ, List.getElem_cons_zero]
 have d14 := hV 14 58 (by kernel_rfl) (by kernel_rfl)
 replace d14 : (fun v : Value => ∃ er : Int, v = .int .i64 er /\ ((pageOk b p.cls && thereS b p.cls at_) = false -> er ≠ 0) /\ ((pageOk b p.cls && thereS b p.cls at_) = true -> er = 0)) (E (.tmp 58)) := d14
 simp only at d14
 refine Fre.Does.value (v := E (.tmp 58)) (w' := w) ?_ ⟨d14, Fre.Kept.refl _⟩
 go_simp
theorem kpFG (lk pb k at_ g o n qc gk ok c0 : Nat) (b : List Nat) (p : Pg) : ∀ j v w w', j < opsFG.1.size -> VFG lk pb k at_ g o n qc gk ok c0 b p j v w -> Fre.Kept w w' -> VFG lk pb k at_ g o n qc gk ok c0 b p j v w' := by
 intro j v w w' hj h hs
 rw [sizeFG] at hj
 have hc : j = 0 \/ j = 1 \/ j = 2 \/ j = 3 \/ j = 4 \/ j = 5 \/ j = 6 \/ j = 7 \/ j = 8 \/ j = 9 \/ j = 10 \/ j = 11 \/ j = 12 \/ j = 13 \/ j = 14 \/ j = 15 \/ j = 16 \/ j = 17 := by omega
 rcases hc with rfl | rfl | rfl | rfl | rfl | rfl | rfl | rfl | rfl | rfl | rfl | rfl | rfl | rfl | rfl | rfl | rfl | rfl
 ·exact h
 ·exact h
 ·exact h
 ·exact h
 ·exact h
 ·exact h
 ·exact h
 ·exact h
 ·exact h
 ·exact h
 ·exact h
 ·exact h
 ·exact h
 ·exact h
 ·exact h
 ·exact h
 ·exact h
 ·exact h
section
variable {u1 u5 u6 u7 u8 u9 u10 u11 u12 u13 u14 u15 u16 u17 u18 u19 u20 u21 u22 u23 u24 u25 u26 u27 u28 u29 u30 u31 u32 u33 u34 u35 u36 u37 u38 u39 u40 u41 u42 u43 u44 u45 u46 u47 u48 u49 u50 u51 u52 u53 u54 u55 u56 u57 u58 u59 u60 u61 u62 u63 u64 u65 u66 u67 u68 u69 u70 u71 u72 u73 u74 u75 : Value}
theorem finFG (lk pb k at_ g o n qc gk ok c0 : Nat) (b : List Nat) (p : Pg) (vs : Nat -> Value) : Fre.finT opsFG.1 vs #[.pointer (some ⟨lk, 0, none⟩), u1, .int .i64 (k : Int), .pointer (some ⟨pb, 0, none⟩), .int .i64 (at_ : Int), u5, u6, u7, u8, u9, u10, u11, u12, u13, u14, u15, u16, u17, u18, u19, u20, u21, u22, u23, u24, u25, u26, u27, u28, u29, u30, u31, u32, u33, u34, u35, u36, u37, u38, u39, u40, u41, u42, u43, u44, u45, u46, u47, u48, u49, u50, u51, u52, u53, u54, u55, u56, u57, u58, u59, u60, u61, u62, u63, u64, u65, u66, u67, u68, u69, u70, u71, u72, u73, u74, u75] opsFG.1.size = #[.pointer (some ⟨lk, 0, none⟩), u1, .int .i64 (k : Int), .pointer (some ⟨pb, 0, none⟩), .int .i64 (at_ : Int), vs 15, vs 16, vs 17, u8, u9, u10, u11, u12, u13, u14, u15, u16, u17, u18, u19, u20, u21, u22, u23, u24, u25, u26, u27, u28, u29, u30, u31, u32, u33, u34, u35, u36, u37, u38, u39, u40, u41, u42, u43, vs 11, vs 0, vs 1, vs 2, vs 3, vs 4, vs 5, vs 6, vs 7, vs 8, vs 9, vs 10, vs 12, vs 13, vs 14, u59, u60, u61, u62, u63, u64, u65, u66, u67, u68, u69, u70, u71, u72, u73, u74, u75] := by kernel_rfl
theorem regionFG (lk pb k at_ g o n qc gk ok c0 : Nat) (b : List Nat) (p : Pg) (w0 : World) (h0 : w0.cell? ⟨lk, 18, none⟩ = some (.slice (some ⟨g, o, none⟩) n qc)) (hlk : lk < w0.heap.size) (h1 : w0.heap[pb]? = some (.cells (pgA p) 100 (0, 0))) (hk : k < n) (hrow : w0.cell? ⟨g, o + k, none⟩ = some (.slice (some ⟨gk, ok, none⟩) 256 c0)) (hg : g < w0.heap.size) (hb : b.length = 256) (hc0 : 256 <= c0) (hcm : c0 <= maxLen) (hby : ∀ w', Fre.Kept w0 w' -> BytesAt w' (some ⟨gk, ok, none⟩) c0 b) {QQ : Exit -> Act -> World -> Prop} (hQ : ∀ (vs : Nat -> Value) w, (∀ j, j < 18 -> VFG lk pb k at_ g o n qc gk ok c0 b p j (vs j) w) -> Fre.Kept w0 w -> QQ .normal ⟨#[.pointer (some ⟨lk, 0, none⟩), u1, .int .i64 (k : Int), .pointer (some ⟨pb, 0, none⟩), .int .i64 (at_ : Int), vs 15, vs 16, vs 17, u8, u9, u10, u11, u12, u13, u14, u15, u16, u17, u18, u19, u20, u21, u22, u23, u24, u25, u26, u27, u28, u29, u30, u31, u32, u33, u34, u35, u36, u37, u38, u39, u40, u41, u42, u43, vs 11, vs 0, vs 1, vs 2, vs 3, vs 4, vs 5, vs 6, vs 7, vs 8, vs 9, vs 10, vs 12, vs 13, vs 14, u59, u60, u61, u62, u63, u64, u65, u66, u67, u68, u69, u70, u71, u72, u73, u74, u75], []⟩ w) : (Code.region 10 opsFG.1 true).wp Tryz.prog QQ ⟨#[.pointer (some ⟨lk, 0, none⟩), u1, .int .i64 (k : Int), .pointer (some ⟨pb, 0, none⟩), .int .i64 (at_ : Int), u5, u6, u7, u8, u9, u10, u11, u12, u13, u14, u15, u16, u17, u18, u19, u20, u21, u22, u23, u24, u25, u26, u27, u28, u29, u30, u31, u32, u33, u34, u35, u36, u37, u38, u39, u40, u41, u42, u43, u44, u45, u46, u47, u48, u49, u50, u51, u52, u53, u54, u55, u56, u57, u58, u59, u60, u61, u62, u63, u64, u65, u66, u67, u68, u69, u70, u71, u72, u73, u74, u75], []⟩ w0 := by
 refine Fre.region_kept 76 (by kernel_rfl) fitFG rfl (VFG lk pb k at_ g o n qc gk ok c0 b p) (kpFG lk pb k at_ g o n qc gk ok c0 b p) (fun i hi => ?_) (fun vs w h1 h2 => ?_)
 case refine_2 =>
  have e9 := @finFG u1 u5 u6 u7 u8 u9 u10 u11 u12 u13 u14 u15 u16 u17 u18 u19 u20 u21 u22 u23 u24 u25 u26 u27 u28 u29 u30 u31 u32 u33 u34 u35 u36 u37 u38 u39 u40 u41 u42 u43 u44 u45 u46 u47 u48 u49 u50 u51 u52 u53 u54 u55 u56 u57 u58 u59 u60 u61 u62 u63 u64 u65 u66 u67 u68 u69 u70 u71 u72 u73 u74 u75 lk pb k at_ g o n qc gk ok c0 b p vs
  have h9 := hQ vs w (fun j hj => h1 j (by rw [sizeFG]; exact hj)) h2
  rw [<- e9] at h9
  exact h9
 rw [sizeFG] at hi
 have hc : i = 0 \/ i = 1 \/ i = 2 \/ i = 3 \/ i = 4 \/ i = 5 \/ i = 6 \/ i = 7 \/ i = 8 \/ i = 9 \/ i = 10 \/ i = 11 \/ i = 12 \/ i = 13 \/ i = 14 \/ i = 15 \/ i = 16 \/ i = 17 := by omega
 rcases hc with rfl | rfl | rfl | rfl | rfl | rfl | rfl | rfl | rfl | rfl | rfl | rfl | rfl | rfl | rfl | rfl | rfl | rfl
 ·exact stFG_0 lk pb k at_ g o n qc gk ok c0 b p _ rfl w0 h0 hlk h1 hk hrow hg hb hc0 hcm hby
 ·exact stFG_1 lk pb k at_ g o n qc gk ok c0 b p _  w0 h0 hlk h1 hk hrow hg hb hc0 hcm hby
 ·exact stFG_2 lk pb k at_ g o n qc gk ok c0 b p _  w0 h0 hlk h1 hk hrow hg hb hc0 hcm hby
 ·exact stFG_3 lk pb k at_ g o n qc gk ok c0 b p _  w0 h0 hlk h1 hk hrow hg hb hc0 hcm hby
 ·exact stFG_4 lk pb k at_ g o n qc gk ok c0 b p _ rfl w0 h0 hlk h1 hk hrow hg hb hc0 hcm hby
 ·exact stFG_5 lk pb k at_ g o n qc gk ok c0 b p _  w0 h0 hlk h1 hk hrow hg hb hc0 hcm hby
 ·exact stFG_6 lk pb k at_ g o n qc gk ok c0 b p _  w0 h0 hlk h1 hk hrow hg hb hc0 hcm hby
 ·exact stFG_7 lk pb k at_ g o n qc gk ok c0 b p _ rfl w0 h0 hlk h1 hk hrow hg hb hc0 hcm hby
 ·exact stFG_8 lk pb k at_ g o n qc gk ok c0 b p _  w0 h0 hlk h1 hk hrow hg hb hc0 hcm hby
 ·exact stFG_9 lk pb k at_ g o n qc gk ok c0 b p _ rfl w0 h0 hlk h1 hk hrow hg hb hc0 hcm hby
 ·exact stFG_10 lk pb k at_ g o n qc gk ok c0 b p _  w0 h0 hlk h1 hk hrow hg hb hc0 hcm hby
 ·exact stFG_11 lk pb k at_ g o n qc gk ok c0 b p _  w0 h0 hlk h1 hk hrow hg hb hc0 hcm hby
 ·exact stFG_12 lk pb k at_ g o n qc gk ok c0 b p _  w0 h0 hlk h1 hk hrow hg hb hc0 hcm hby
 ·exact stFG_13 lk pb k at_ g o n qc gk ok c0 b p _  w0 h0 hlk h1 hk hrow hg hb hc0 hcm hby
 ·exact stFG_14 lk pb k at_ g o n qc gk ok c0 b p _  w0 h0 hlk h1 hk hrow hg hb hc0 hcm hby
 ·exact stFG_15 lk pb k at_ g o n qc gk ok c0 b p _  w0 h0 hlk h1 hk hrow hg hb hc0 hcm hby
 ·exact stFG_16 lk pb k at_ g o n qc gk ok c0 b p _  w0 h0 hlk h1 hk hrow hg hb hc0 hcm hby
 ·exact stFG_17 lk pb k at_ g o n qc gk ok c0 b p _  w0 h0 hlk h1 hk hrow hg hb hc0 hcm hby
end
theorem lkA_set20 {x : Nat} {R : List Nat} (h : R.length = 16) (pv qv fv av u : Value) : (lkA x R pv qv fv av).setIfInBounds 20 u = lkA x R pv qv fv u := by
 unfold lkA
 rw [Array.setIfInBounds_append_right (by rw [mtA_size]; omega), mtA_size, h]; rfl
/-- the objects in the first m slots of page k -/
def slK (b : List Nat) (c k : Nat) : Nat -> List Pl
 | 0 => []
 | m + 1 => slK b c k m ++ (if pageOk b c && thereS b c m then [⟨k, m, serW (winL b c m)⟩] else [])
/-- the objects of page k -/
def objK (P : List Pg) (L : List (List Nat)) (k : Nat) : List Pl :=
 if (pgK P k).kind = 2 then [⟨k, 0, (pgK P k).ser⟩] else if (pgK P k).kind = 1 then slK (L.getD k []) (pgK P k).cls k (slotsN (pgK P k).cls) else []
def objsK (P : List Pg) (L : List (List Nat)) : Nat -> List Pl
 | 0 => []
 | k + 1 => objsK P L k ++ objK P L k
theorem slK_len (b : List Nat) (c k : Nat) : ∀ m, (slK b c k m).length <= m
 | 0 => Nat.le_refl _
 | m + 1 => by
  have h := slK_len b c k m
  unfold slK
  rw [List.length_append]
  split
  ·simp; omega
  ·simp; omega
/-- one append to the looker's objects, and its store -/
theorem lappend_done {B lk x : Nat} {R : List Nat} (h16 : R.length = 16) {pv qv fv av : Value} {m : Nat} {A : List Pl} {pl : Pl} {w w2 : World} {va2 : Option Addr} {vc2 : Nat} (hB : lk < B) (hBw : B <= w.heap.size)
  (hl : LkAt w lk x R pv qv fv av) (hown : w.ownsRow B 106 3 av m (cellsL A)) (hown2 : w2.ownsRow B 106 3 (.slice va2 (m + 1) vc2) (m + 1) (cellsL (A ++ [pl]))) (hgr : w.grownBy w2 av.ownBlock) :
  LkAt (w2.setCell ⟨lk, 20, none⟩ (.slice va2 (m + 1) vc2)) lk x R pv qv fv (.slice va2 (m + 1) vc2) /\ (w2.setCell ⟨lk, 20, none⟩ (.slice va2 (m + 1) vc2)).ownsRow B 106 3 (.slice va2 (m + 1) vc2) (m + 1) (cellsL (A ++ [pl])) /\ Below lk w (w2.setCell ⟨lk, 20, none⟩ (.slice va2 (m + 1) vc2)) /\ (∀ q, q < B -> q ≠ lk -> (w2.setCell ⟨lk, 20, none⟩ (.slice va2 (m + 1) vc2)).heap[q]? = w.heap[q]?) /\ w2.cell? ⟨lk, 20, none⟩ = some av /\ w2.frozen? ⟨lk, 20, none⟩ = false := by
 have hbk : ∀ k, av.ownBlock = some k -> B <= k := fun k hk => own_base hown k hk
 have hl2 : LkAt w2 lk x R pv qv fv av := (hgr.block _ (lt_of_block hl) (fun e => by have := hbk _ e.symm; omega)).trans hl
 have hb := block_at hl2 20 (.slice va2 (m + 1) vc2)
 rw [lkA_set20 h16] at hb
 refine ⟨hb, ownsRow_setCell_below hown2 hB _, ?_, fun q hq hql => ?_, (cells_at hl2 20).trans (lkA_20 h16 _ _ _ _), free_at hl2 20⟩
 ·exact ((Below.refl lk w).grown hgr (by omega) (fun k hk => by have := hbk k hk; omega)).setCell (Nat.le_refl _) _
 ·exact (setCell_other _ _ _ _ hql).trans (hgr.block q (by omega) (fun e => by have := hbk _ e.symm; omega))
theorem lfind3_c (lk x : Nat) (R : List Nat) (h16 : R.length = 16) (va : Option Addr) (n pc : Nat) (qa : Option Addr) (qc : Nat) (fv : Value) (P : List Pg) (hn : P.length = n) (hnm : n <= 64) (L : List (List Nat)) (hL : L.length = n) (h256 : ∀ l ∈ L, l.length = 256) (w : World) (h : LkAt w lk x R (.slice va n pc) (.slice qa n qc) fv (.slice none 0 0)) (hP : ∀ w', Below lk w w' -> PgsAt w' va P) (hQ : ∀ w', Below lk w w' -> RowsAt w' qa L) :
  Calls Tryz.prog 24 #[.pointer (some ⟨lk, 0, none⟩)] w fun e w' => (∃ u, e = .returned u) /\ ∃ aa ac, LkAt w' lk x R (.slice va n pc) (.slice qa n qc) fv (.slice aa (objsK P L n).length ac) /\ w'.ownsRow w.heap.size 106 3 (.slice aa (objsK P L n).length ac) (objsK P L n).length (cellsL (objsK P L n)) /\ Below lk w w' /\ ∀ q, q < w.heap.size -> q ≠ lk -> w'.heap[q]? = w.heap[q]? := by
 have a1 := (cells_at h 17).trans (lkA_17 h16 _ _ _ _)
 have HL0 := Lib.hid h
 have HLS : Hid (lk < w.heap.size) := lt_of_block h
 have HN := Lib.hid hn
 have HNM := Lib.hid hnm
 have HLN := Lib.hid hL
 have H16 := Lib.hid h16
 have H256 := Lib.hid h256
 have HP := Lib.hid hP
 have HQ := Lib.hid hQ
 clear h h16 hn hnm hL h256 hP hQ
 go_enter Tryz.func24, Tryz.ntmps24
 go_wp2
 clear a1
 go_loopw [14] (fun vi wr => ∃ k : Nat, k <= n /\ vi = .int .i64 (k : Int) /\ ∃ aa ac, Hid (LkAt wr lk x R (.slice va n pc) (.slice qa n qc) fv (.slice aa (objsK P L k).length ac)) /\ Hid (wr.ownsRow w.heap.size 106 3 (.slice aa (objsK P L k).length ac) (objsK P L k).length (cellsL (objsK P L k))) /\ Hid ((objsK P L k).length <= 16 * k) /\ Hid (Below lk w wr) /\ Hid (w.heap.size <= wr.heap.size) /\ Hid (∀ q, q < w.heap.size -> q ≠ lk -> wr.heap[q]? = w.heap[q]?)) (fun vi _ => n - (intOf vi).toNat)
 case atStart => exact ⟨0, by omega, rfl, none, 0, HL0.out, World.ownsRow_nil _ _ _ _, Nat.zero_le _, Below.refl _ _, Nat.le_refl _, fun _ _ _ => rfl⟩
 case round =>
  obtain ⟨k, hk, rfl, aa, ac, hlk, hown, hlen, hbel, hsz, hsv⟩ := hrel
  by_cases hlt : k < n
  ·have hd : decide ((k : Int) < (n : Int)) = true := by simp; omega
   have dl : (k : Int) < (n : Int) := by omega
   have d0 : ¬ (k : Int) < 0 := by omega
   obtain ⟨p, hp⟩ : ∃ p, p = pgK P k := ⟨_, rfl⟩
   have hget : P[k]? = some p := by rw [hp]; exact pgK_get (by rw [HN.out]; exact hlt)
   obtain ⟨g, o, rfl, hg, hcell⟩ := HP.out wr hbel.out k p hget
   have HC : Hid (wr.rangeAt g (o + k * 5) (pgA p).toList) := hcell
   have HPK := Lib.hid hp
   have HK := Lib.hid hlt
   have ek : IntKind.i64.wrap ((k : Int) + 1) = (k : Int) + 1 := by have := HNM.out; exact IntWalk.i64_in _ (by omega)
   have HZ : Hid ((wr.alloc (.cells #[.int .i64 0, .int .i64 0, .int .i64 0, .int .i64 0, .int .u64 0] 100)).heap[wr.heap.size]? = some (.cells (pgA ⟨0, 0, 0, 0, 0⟩) 100 (0, 0))) := heap_new' _ _
   have HE1 : Hid (Below wr.heap.size wr (wr.alloc (.cells #[.int .i64 0, .int .i64 0, .int .i64 0, .int .i64 0, .int .u64 0] 100))) := below_box wr _
   obtain ⟨m, hm⟩ : ∃ m, m = (objsK P L k).length := ⟨_, rfl⟩
   have HMM := Lib.hid hm
   rw [<- hm] at hlk hown hlen
   obtain ⟨kd, hkd⟩ : ∃ kd, kd = p.kind := ⟨_, rfl⟩
   have HKD := Lib.hid hkd
   clear hget hp hg hcell hlt hk hm hkd
   have hob : objsK P L (k + 1) = objsK P L k ++ (if kd = 2 then [⟨k, 0, p.ser⟩] else if kd = 1 then slK (L.getD k []) p.cls k (slotsN p.cls) else []) := by
    show objsK P L k ++ objK P L k = _
    unfold objK; rw [<- HPK.out, <- HKD.out]
   have HOB0 := Lib.hid hob
   have hkc : kd = 2 \/ kd = 1 \/ (kd ≠ 2 /\ kd ≠ 1) := by omega
   clear hob
   rcases hkc with hk2 | hk1 | hk0
   ·have HOB := HOB0.out
    rw [if_pos hk2] at HOB
    replace HOB := Lib.hid HOB
    have n1 : ((kd : Int) == 2) = true := by simp; omega
    have n3 : (kd : Int) = 2 := by omega
    clear HOB0 hk2
    go_wp2_with (first
     | (refine wpList_load_mid rfl 100 (.tmp 17) rfl g (o + k * 5) rfl _ _ HC.out Tryz.underlying100 rfl (by rw [page5]; rfl) ?_)
     | (refine wpList_store_row rfl 100 (.tmp 3) (.tmp 18) rfl wr.heap.size (pgA p) rfl rfl 100 _ HZ.out (by rw [page5]; rfl) rfl (pgA_one _) ?_; generalize hW1 : World.setRow _ _ _ = w1; have HZ1 : Hid (w1.heap[wr.heap.size]? = some (.cells (pgA p) 100 (0, 0))) := (by show _ = _; rw [<- hW1]; exact setRow_heap _ _ _ _ _ _ HZ.out); have HE2 : Hid (Below wr.heap.size wr w1) := (by rw [<- hW1]; exact below_setRow HE1.out (Nat.le_refl _) _); have c0 := (cells_at HZ1.out 0).trans (show _ = some (Value.int .i64 (kd : Int)) from by rw [HKD.out]; rfl); clear hW1)
     | fail)
    have HL1 := Lib.hid ((HE2.out.block _ (lt_of_block hlk.out)).trans hlk.out)
    have HO1 := Lib.hid (own_up hown.out HE2.out)
    have HB1 : Hid (Below lk w w1) := hbel.out.trans (HE2.out.mono (by have := hsz.out; have := HLS.out; omega))
    have HS1 : Hid (w.heap.size <= w1.heap.size) := Nat.le_trans hsz.out HE2.out.size
    have HV1 : Hid (∀ q, q < w.heap.size -> q ≠ lk -> w1.heap[q]? = w.heap[q]?) := fun q hq hql => (HE2.out.block q (by have := hsz.out; omega)).trans (hsv.out q hq hql)
    have c20 := (cells_at HL1.out 20).trans (lkA_20 H16.out _ _ _ _)
    clear c0 hlk hown hbel hsz hsv HE1 HZ HC
    refine regionFD lk wr.heap.size k (.slice aa m ac) p w1.heap.size w1 c20 (lt_of_block HL1.out) HZ1.out (Nat.le_refl _) ?_ ?_
    ·intro vs w5 hv hk5
     have v4 : vs 4 = .slice aa m ac := hv 4 (by omega)
     obtain ⟨b9, v9, z9, f9⟩ := hv 9 (by omega)
     have v0 : vs 0 = .pointer (some ⟨lk, 0, none⟩) := hv 0 (by omega)
     rw [v0, v4, v9]
     clear v0 v4 v9
     have HL5 := Lib.hid ((hk5.block _ (lt_of_block HL1.out)).trans HL1.out)
     have HO5 := Lib.hid (own_up HO1.out hk5)
     have HB5 : Hid (Below lk w w5) := HB1.out.trans (hk5.mono (Nat.le_of_lt (lt_of_block HL1.out)))
     have HS5 : Hid (w.heap.size <= w5.heap.size) := Nat.le_trans HS1.out hk5.size
     have HV5 : Hid (∀ q, q < w.heap.size -> q ≠ lk -> w5.heap[q]? = w.heap[q]?) := fun q hq hql => (hk5.block q (by have := HS1.out; omega)).trans (HV1.out q hq hql)
     have HF9 := Lib.hid (pls_blk f9)
     clear hv hk5 z9 f9
     refine wpList_append_pls (v := .slice aa m ac) (base := w.heap.size) (n := m) (L := objsK P L k) rfl (.tmp 27) (.tmp 32) rfl rfl HO5.out rfl (M := [⟨k, 0, p.ser⟩]) rfl HF9.out (fun h => by cases h) (fun q hq => by cases hq; rfl) (by have := hlen.out; have := HK.out; have := HNM.out; omega) HS5.out ?_
     intro v6 w6 hown6 hgr6
     obtain ⟨a6, c6, rfl⟩ := own_sliceR hown6
     obtain ⟨d1, d2, d3, d4, d5, d6⟩ := lappend_done H16.out HLS.out HS5.out HL5.out HO5.out hown6 hgr6
     have D1 := Lib.hid d1
     have D2 := Lib.hid d2
     have D3 : Hid (Below lk w _) := HB5.out.trans d3
     have D4 : Hid (∀ q, q < w.heap.size -> q ≠ lk -> (w6.setCell ⟨lk, 20, none⟩ (.slice a6 (m + 1) c6)).heap[q]? = w.heap[q]?) := fun q hq hql => (d4 q hq hql).trans (HV5.out q hq hql)
     have D5 : Hid (w.heap.size <= (w6.setCell ⟨lk, 20, none⟩ (.slice a6 (m + 1) c6)).heap.size) := by
      show _ <= _
      have h1 := hgr6.size
      have h2 : (w6.setCell ⟨lk, 20, none⟩ (.slice a6 (m + 1) c6)).heap.size = w6.heap.size := by simp [World.setCell]
      have := HS5.out; omega
     clear d1 d2 d3 d4 hown6 hgr6
     go_wp2
     go_roundw
     case rel => exact ⟨k + 1, by have := HK.out; omega, by go_num, a6, c6, by rw [HOB.out, List.length_append, <- HMM.out]; exact D1.out, by rw [HOB.out, List.length_append, <- HMM.out]; exact D2.out, by show _ <= _; rw [HOB.out, List.length_append, <- HMM.out]; have := hlen.out; simp; omega, D3.out, D5.out, D4.out⟩
     case measure => simp [intOf]; have := HK.out; omega
    ·intro vs w5 hv hk5
     have v4 : vs 4 = .slice aa m ac := hv 4 (by omega) (by omega)
     obtain ⟨b9, v9, z9, f9⟩ := hv 9 (by omega) (by omega)
     rw [v4, v9]
     clear v4 v9
     have HL5 := Lib.hid ((hk5.block _ (lt_of_block HL1.out)).trans HL1.out)
     have HO5 := Lib.hid (own_up HO1.out hk5)
     have HB5 : Hid (Below lk w w5) := HB1.out.trans (hk5.mono (Nat.le_of_lt (lt_of_block HL1.out)))
     have HS5 : Hid (w.heap.size <= w5.heap.size) := Nat.le_trans HS1.out hk5.size
     have HV5 : Hid (∀ q, q < w.heap.size -> q ≠ lk -> w5.heap[q]? = w.heap[q]?) := fun q hq hql => (hk5.block q (by have := HS1.out; omega)).trans (HV1.out q hq hql)
     have HF9 := Lib.hid (pls_blk f9)
     clear hv hk5 z9 f9
     refine wpList_append_pls (v := .slice aa m ac) (base := w.heap.size) (n := m) (L := objsK P L k) rfl (.tmp 27) (.tmp 32) rfl rfl HO5.out rfl (M := [⟨k, 0, p.ser⟩]) rfl HF9.out (fun h => by cases h) (fun q hq => by cases hq; rfl) (by have := hlen.out; have := HK.out; have := HNM.out; omega) HS5.out ?_
     intro v6 w6 hown6 hgr6
     obtain ⟨a6, c6, rfl⟩ := own_sliceR hown6
     obtain ⟨d1, d2, d3, d4, d5, d6⟩ := lappend_done H16.out HLS.out HS5.out HL5.out HO5.out hown6 hgr6
     have D1 := Lib.hid d1
     have D2 := Lib.hid d2
     have D3 : Hid (Below lk w _) := HB5.out.trans d3
     have D4 : Hid (∀ q, q < w.heap.size -> q ≠ lk -> (w6.setCell ⟨lk, 20, none⟩ (.slice a6 (m + 1) c6)).heap[q]? = w.heap[q]?) := fun q hq hql => (d4 q hq hql).trans (HV5.out q hq hql)
     have D5 : Hid (w.heap.size <= (w6.setCell ⟨lk, 20, none⟩ (.slice a6 (m + 1) c6)).heap.size) := by
      show _ <= _
      have h1 := hgr6.size
      have h2 : (w6.setCell ⟨lk, 20, none⟩ (.slice a6 (m + 1) c6)).heap.size = w6.heap.size := by simp [World.setCell]
      have := HS5.out; omega
     clear d1 d2 d3 d4 hown6 hgr6
     simp only [opsFD, List.getElem_toArray, List.getElem_cons_succ, List.getElem_cons_zero, List.drop_succ_cons, List.drop_zero]
     go_wp2
     go_roundw
     case rel => exact ⟨k + 1, by have := HK.out; omega, by go_num, a6, c6, by rw [HOB.out, List.length_append, <- HMM.out]; exact D1.out, by rw [HOB.out, List.length_append, <- HMM.out]; exact D2.out, by show _ <= _; rw [HOB.out, List.length_append, <- HMM.out]; have := hlen.out; simp; omega, D3.out, D5.out, D4.out⟩
     case measure => simp [intOf]; have := HK.out; omega
   ·have HOB := HOB0.out
    rw [if_neg (by omega), if_pos hk1] at HOB
    replace HOB := Lib.hid HOB
    have n1 : ((kd : Int) == 2) = false := by simp; omega
    have n2 : ((kd : Int) == 1) = true := by simp; omega
    have n3 : ¬ (kd : Int) = 2 := by omega
    have n4 : (kd : Int) = 1 := by omega
    clear HOB0 hk1
    go_wp2_with (first
     | (refine wpList_load_mid rfl 100 (.tmp 17) rfl g (o + k * 5) rfl _ _ HC.out Tryz.underlying100 rfl (by rw [page5]; rfl) ?_)
     | (refine wpList_store_row rfl 100 (.tmp 3) (.tmp 18) rfl wr.heap.size (pgA p) rfl rfl 100 _ HZ.out (by rw [page5]; rfl) rfl (pgA_one _) ?_; generalize hW1 : World.setRow _ _ _ = w1; have HZ1 : Hid (w1.heap[wr.heap.size]? = some (.cells (pgA p) 100 (0, 0))) := (by show _ = _; rw [<- hW1]; exact setRow_heap _ _ _ _ _ _ HZ.out); have HE2 : Hid (Below wr.heap.size wr w1) := (by rw [<- hW1]; exact below_setRow HE1.out (Nat.le_refl _) _); have c0 := (cells_at HZ1.out 0).trans (show _ = some (Value.int .i64 (kd : Int)) from by rw [HKD.out]; rfl); have c1 := (cells_at HZ1.out 1).trans (show _ = some (Value.int .i64 (p.cls : Int)) from rfl); clear hW1)
     | fail)
    refine (slots_c p.cls w1).mono ?_
    rintro e w2 ⟨rfl, rfl⟩
    have HL1 := Lib.hid ((HE2.out.block _ (lt_of_block hlk.out)).trans hlk.out)
    have HO1 := Lib.hid (own_up hown.out HE2.out)
    have HB1 : Hid (Below lk w w1) := hbel.out.trans (HE2.out.mono (by have := hsz.out; have := HLS.out; omega))
    have HS1 : Hid (w.heap.size <= w1.heap.size) := Nat.le_trans hsz.out HE2.out.size
    have HV1 : Hid (∀ q, q < w.heap.size -> q ≠ lk -> w1.heap[q]? = w.heap[q]?) := fun q hq hql => (HE2.out.block q (by have := hsz.out; omega)).trans (hsv.out q hq hql)
    clear hlk hown hbel hsz hsv HE1 HZ HC HE2 c0 c1
    obtain ⟨b, hbd⟩ : ∃ b, b = L.getD k [] := ⟨_, rfl⟩
    have hget : L[k]? = some b := by
     rw [hbd, List.getD_eq_getElem?_getD, List.getElem?_eq_getElem (by rw [HLN.out]; exact HK.out)]; rfl
    have hbl : b.length = 256 := H256.out _ (List.mem_of_getElem? hget)
    have HGT := Lib.hid hget
    have HBL := Lib.hid hbl
    rw [<- hbd] at HOB
    obtain ⟨sl, hsl⟩ : ∃ sl, sl = slotsN p.cls := ⟨_, rfl⟩
    have hs16 : sl <= 16 := by
     rcases Nat.lt_or_ge 16 sl with h | h
     ·have := win_bounds (c := p.cls) (k := 16) (by omega); omega
     ·exact h
    have HS16 := Lib.hid hs16
    rw [<- hsl] at HOB ⊢
    clear hget hbl hbd hsl hs16
    obtain ⟨pb, hpb⟩ : ∃ pb, pb = wr.heap.size := ⟨_, rfl⟩
    rw [<- hpb] at HZ1 ⊢
    clear hpb
    go_wp2
    go_loopw [41] (fun vi wq => ∃ a : Nat, a <= sl /\ vi = .int .i64 (a : Int) /\ ∃ aa ac, Hid (LkAt wq lk x R (.slice (some ⟨g, o, none⟩) n pc) (.slice qa n qc) fv (.slice aa (m + (slK b p.cls k a).length) ac)) /\ Hid (wq.ownsRow w.heap.size 106 3 (.slice aa (m + (slK b p.cls k a).length) ac) (m + (slK b p.cls k a).length) (cellsL (objsK P L k ++ slK b p.cls k a))) /\ Hid (wq.heap[pb]? = some (.cells (pgA p) 100 (0, 0))) /\ Hid (Below lk w wq) /\ Hid (w.heap.size <= wq.heap.size) /\ Hid (∀ q, q < w.heap.size -> q ≠ lk -> wq.heap[q]? = w.heap[q]?)) (fun vi _ => sl - (intOf vi).toNat)
    case atStart => exact ⟨0, by omega, rfl, aa, ac, HL1.out, by show World.ownsRow _ _ _ _ _ _ _; rw [show slK b p.cls k 0 = [] from rfl, List.append_nil]; exact HO1.out, HZ1.out, HB1.out, HS1.out, HV1.out⟩
    case round =>
     clear HL1 HO1 HZ1 HB1 HS1 HV1
     obtain ⟨a, ha, rfl, aq, cq, hlq, hoq, hzq, hbq, hsq, hvq⟩ := hrel
     by_cases hla : a < sl
     ·have hd2 : decide ((a : Int) < (sl : Int)) = true := by simp; omega
      have dl2 : (a : Int) < (sl : Int) := by omega
      have ea : IntKind.i64.wrap ((a : Int) + 1) = (a : Int) + 1 := by have := HS16.out; exact IntWalk.i64_in _ (by omega)
      have c18 := (cells_at hlq.out 18).trans (lkA_18 H16.out _ _ _ _)
      obtain ⟨gr, or_, vr, rfl, hgr, hcr, hsr⟩ := HQ.out wr hbq.out k b HGT.out
      obtain ⟨a0, c0, rfl, hbb, hn0, hlc, hcm⟩ := hsr
      obtain ⟨gk, ok, rfl, _, hgk, _⟩ := hbb.2 (by rw [HBL.out]; omega)
      have hby : ∀ w', Fre.Kept wr w' -> BytesAt w' (some ⟨gk, ok, none⟩) c0 b := fun w' hw => by
       obtain ⟨g', o', v', e1, _, hc2, hs2⟩ := HQ.out w' (hbq.out.trans (hw.mono (Nat.le_of_lt (lt_of_block hlq.out)))) k b HGT.out
       cases e1
       have hcell := (hw.cell (p := ⟨gr, or_ + k, none⟩) hgr).trans hcr
       rw [hcell] at hc2
       obtain ⟨a9, c9, e9, hb9, _⟩ := hs2
       rw [Option.some.inj hc2.symm] at e9
       cases e9
       exact hb9
      rw [HBL.out] at hcr hlc
      have hsk : slK b p.cls k (a + 1) = slK b p.cls k a ++ (if pageOk b p.cls && thereS b p.cls a then [⟨k, a, serW (winL b p.cls a)⟩] else []) := rfl
      have HSK := Lib.hid hsk
      have HLA := Lib.hid hla
      clear hsk ha hla hbb hn0 hgk
      go_wp2
      refine regionFG lk pb k a gr or_ n qc gk ok c0 b p wr c18 (lt_of_block hlq.out) hzq.out HK.out hcr hgr HBL.out hlc hcm hby ?_
      intro vs w5 hv hk5
      obtain ⟨s, v15, f15⟩ := hv 15 (by omega)
      obtain ⟨er, v17, f17, g17⟩ := hv 17 (by omega)
      rw [v15, v17]
      have HL5 := Lib.hid ((hk5.block _ (lt_of_block hlq.out)).trans hlq.out)
      have HO5 := Lib.hid (own_up hoq.out hk5)
      have HZ5 := Lib.hid ((hk5.block _ (lt_of_block hzq.out)).trans hzq.out)
      have HB5 : Hid (Below lk w w5) := hbq.out.trans (hk5.mono (Nat.le_of_lt (lt_of_block hlq.out)))
      have HS5 : Hid (w.heap.size <= w5.heap.size) := Nat.le_trans hsq.out hk5.size
      have HV5 : Hid (∀ q, q < w.heap.size -> q ≠ lk -> w5.heap[q]? = w.heap[q]?) := fun q hq hql => (hk5.block q (by have := hsq.out; omega)).trans (hvq.out q hq hql)
      have HSL := Lib.hid (slK_len b p.cls k a)
      have F15 := Lib.hid f15
      have F17 := Lib.hid f17
      have G17 := Lib.hid g17
      clear hv hk5 v15 v17 f15 f17 g17 hlq hoq hzq hbq hsq hvq c18 hcr hgr hlc hcm hby
      cases hth : (pageOk b p.cls && thereS b p.cls a) with
      | false =>
       have her := F17.out hth
       have hs9 := HSK.out
       rw [hth, if_neg (by simp), List.append_nil] at hs9
       have HS9 := Lib.hid hs9
       have e1 : (er == 0) = false := by simp [her]
       have e2 : ¬ er = 0 := her
       clear hth her hs9 HSK F15 F17 G17
       go_wp2
       go_roundw
       case rel => exact ⟨a + 1, by have := HLA.out; omega, by go_num, aq, cq, by rw [HS9.out]; exact HL5.out, by rw [HS9.out]; exact HO5.out, HZ5.out, HB5.out, HS5.out, HV5.out⟩
       case measure => simp [intOf]; have := HLA.out; omega
      | true =>
       have her := G17.out hth
       have hse := F15.out hth
       subst her
       have hs9 := HSK.out
       rw [hth, if_pos rfl, <- hse] at hs9
       have HS9 := Lib.hid hs9
       clear hth hse hs9 HSK F15 F17 G17
       have c20 := (cells_at HL5.out 20).trans (lkA_20 H16.out _ _ _ _)
       obtain ⟨w6, hw6⟩ : ∃ w6, w6 = w5.alloc (.cells (plB ⟨k, a, s⟩) 106) := ⟨_, rfl⟩
       have hb6 : Below w5.heap.size w5 w6 := by rw [hw6]; exact below_box _ _
       have HL6 := Lib.hid ((hb6.block _ (lt_of_block HL5.out)).trans HL5.out)
       have HO6 := Lib.hid (own_up HO5.out hb6)
       have HZ6 := Lib.hid ((hb6.block _ (lt_of_block HZ5.out)).trans HZ5.out)
       have HB6 : Hid (Below lk w w6) := HB5.out.trans (hb6.mono (Nat.le_of_lt (lt_of_block HL5.out)))
       have HS6 : Hid (w.heap.size <= w6.heap.size) := Nat.le_trans HS5.out hb6.size
       have HV6 : Hid (∀ q, q < w.heap.size -> q ≠ lk -> w6.heap[q]? = w.heap[q]?) := fun q hq hql => (hb6.block q (by have := HS5.out; omega)).trans (HV5.out q hq hql)
       have HF6 : Hid (PlsAt w6 (some ⟨w5.heap.size, 0, none⟩) [⟨k, a, s⟩]) := by rw [hw6]; exact pls_blk (heap_new' _ _)
       have HXO : Hid ((Value.slice aq (m + (slK b p.cls k a).length) cq).ownBlock ≠ some pb) := fun e => by
        rcases HO6.out.2 with ⟨h9, _⟩ | ⟨g9, cap9, cur9, e1, e2, e3, e4⟩
        ·rw [h9] at e; cases e
        ·rw [e1] at e; cases e
         have h9 := e3.symm.trans HZ6.out
         cases h9
       have HXL : Hid (pb ≠ lk) := by
        rintro rfl
        have h9 := HZ6.out.symm.trans HL6.out
        cases h9
       have HLM : Hid (m + (slK b p.cls k a).length + 1 <= 1000000) := by
        have h1 := hlen.out; have h2 := HSL.out; have h3 := HS16.out; have h4 := HLA.out; have h5 := HK.out; have h6 := HNM.out
        show _ <= _; omega
       clear hb6
       generalize hln : m + (slK b p.cls k a).length = ln at *
       go_wp2_with (first
        | (refine wpList_build_pl (p := ⟨k, a, s⟩) rfl (.tmp 69) rfl rfl ?_; rw [<- hw6])
        | (refine wpList_append_pls (v := .slice aq ln cq) (base := w.heap.size) (n := ln) (L := objsK P L k ++ slK b p.cls k a) rfl (.tmp 65) (.tmp 70) rfl rfl HO6.out rfl (M := [⟨k, a, s⟩]) rfl HF6.out (fun h => by cases h) (fun q hq => by cases hq; rfl) HLM.out HS6.out ?_; intro v7 w7 hown7 hgr7; obtain ⟨a7, c7, rfl⟩ := own_sliceR hown7; have hdn := lappend_done H16.out HLS.out HS6.out HL6.out HO6.out hown7 hgr7; have D1 := Lib.hid hdn.1; have D2 := Lib.hid hdn.2.1; have D3 : Hid (Below lk w (w7.setCell ⟨lk, 20, none⟩ (.slice a7 (ln + 1) c7))) := HB6.out.trans hdn.2.2.1; have D4 : Hid (∀ q, q < w.heap.size -> q ≠ lk -> (w7.setCell ⟨lk, 20, none⟩ (.slice a7 (ln + 1) c7)).heap[q]? = w.heap[q]?) := (fun q hq hql => (hdn.2.2.2.1 q hq hql).trans (HV6.out q hq hql)); have D5 : Hid (w.heap.size <= (w7.setCell ⟨lk, 20, none⟩ (.slice a7 (ln + 1) c7)).heap.size) := (by show _ <= _; have h1 := hgr7.size; have h2 : (w7.setCell ⟨lk, 20, none⟩ (.slice a7 (ln + 1) c7)).heap.size = w7.heap.size := (by simp [World.setCell]); have := HS6.out; omega); have D6 : Hid ((w7.setCell ⟨lk, 20, none⟩ (.slice a7 (ln + 1) c7)).heap[pb]? = some (.cells (pgA p) 100 (0, 0))) := (setCell_other _ _ _ _ HXL.out).trans ((hgr7.block _ (lt_of_block HZ6.out) (fun e => HXO.out e.symm)).trans HZ6.out); have c21 := hdn.2.2.2.2.1; have f21 := hdn.2.2.2.2.2; clear hown7 hgr7 hdn)
        | fail)
       go_roundw
       case rel => exact ⟨a + 1, by have := HLA.out; omega, by go_num, a7, c7, by rw [HS9.out, List.length_append, <- Nat.add_assoc, hln]; exact D1.out, by rw [HS9.out, List.length_append, <- Nat.add_assoc, hln, <- List.append_assoc]; exact D2.out, D6.out, D3.out, D5.out, D4.out⟩
       case measure => simp [intOf]; have := HLA.out; omega
     ·have hd2 : decide ((a : Int) < (sl : Int)) = false := by simp; omega
      have dl2 : ¬ (a : Int) < (sl : Int) := by omega
      have has : a = sl := by omega
      subst has
      go_wp2
      go_roundw
      case rel => exact ⟨k + 1, by have := HK.out; omega, by go_num, aq, cq, by rw [HOB.out, List.length_append, <- HMM.out]; exact hlq.out, by rw [HOB.out, List.length_append, <- HMM.out]; exact hoq.out, by show _ <= _; rw [HOB.out, List.length_append, <- HMM.out]; have h1 := hlen.out; have h2 := slK_len b p.cls k a; have h3 := HS16.out; omega, hbq.out, hsq.out, hvq.out⟩
      case measure => simp [intOf]; have := HK.out; omega
   ·have HOB := HOB0.out
    rw [if_neg hk0.1, if_neg hk0.2, List.append_nil] at HOB
    replace HOB := Lib.hid HOB
    have n1 : ((kd : Int) == 2) = false := by simp; omega
    have n2 : ((kd : Int) == 1) = false := by simp; omega
    have n3 : ¬ (kd : Int) = 2 := by omega
    have n4 : ¬ (kd : Int) = 1 := by omega
    clear HOB0 hk0
    go_wp2_with (first
     | (refine wpList_load_mid rfl 100 (.tmp 17) rfl g (o + k * 5) rfl _ _ HC.out Tryz.underlying100 rfl (by rw [page5]; rfl) ?_)
     | (refine wpList_store_row rfl 100 (.tmp 3) (.tmp 18) rfl wr.heap.size (pgA p) rfl rfl 100 _ HZ.out (by rw [page5]; rfl) rfl (pgA_one _) ?_; generalize hW1 : World.setRow _ _ _ = w1; have HZ1 : Hid (w1.heap[wr.heap.size]? = some (.cells (pgA p) 100 (0, 0))) := (by show _ = _; rw [<- hW1]; exact setRow_heap _ _ _ _ _ _ HZ.out); have HE2 : Hid (Below wr.heap.size wr w1) := (by rw [<- hW1]; exact below_setRow HE1.out (Nat.le_refl _) _); have c0 := (cells_at HZ1.out 0).trans (show _ = some (Value.int .i64 (kd : Int)) from by rw [HKD.out]; rfl); clear hW1)
     | fail)
    have HL1 := Lib.hid ((HE2.out.block _ (lt_of_block hlk.out)).trans hlk.out)
    have HO1 := Lib.hid (own_up hown.out HE2.out)
    have HB1 : Hid (Below lk w w1) := hbel.out.trans (HE2.out.mono (by have := hsz.out; have := HLS.out; omega))
    have HS1 : Hid (w.heap.size <= w1.heap.size) := Nat.le_trans hsz.out HE2.out.size
    have HV1 : Hid (∀ q, q < w.heap.size -> q ≠ lk -> w1.heap[q]? = w.heap[q]?) := fun q hq hql => (HE2.out.block q (by have := hsz.out; omega)).trans (hsv.out q hq hql)
    clear hlk hown hbel hsz hsv HE1 HZ HC HE2 HZ1 c0
    go_roundw
    case rel => exact ⟨k + 1, by have := HK.out; omega, by go_num, aa, ac, by rw [HOB.out, <- HMM.out]; exact HL1.out, by rw [HOB.out, <- HMM.out]; exact HO1.out, by show _ <= _; rw [HOB.out, <- HMM.out]; have := hlen.out; omega, HB1.out, HS1.out, HV1.out⟩
    case measure => simp [intOf]; have := HK.out; omega
  ·have hd : decide ((k : Int) < (n : Int)) = false := by simp; omega
   have dl : ¬ (k : Int) < (n : Int) := by omega
   have hkn : k = n := by omega
   subst hkn
   go_wp2
   refine bodyPost_end (results_none rfl _ _ _) rfl ?_
   exact ⟨⟨_, rfl⟩, aa, ac, hlk.out, hown.out, hbel.out, hsv.out⟩
theorem mapsPg_len : ∀ (L : List (List Nat)) (P : List Pg), mapsPg L = some P -> P.length = 16 * L.length
 | [], P, h => by cases h; rfl
 | b :: bs, P, h => by
  unfold mapsPg at h
  split at h
  ·cases h
  ·rename_i Q hQ
   cases hm : mapsPg bs with
   | none => rw [hm] at h; cases h
   | some S =>
    rw [hm] at h; cases h
    have h1 := mapsPg_len bs S hm
    have h2 := parseP_len hQ
    rw [List.length_append, List.length_cons, h1, h2]; omega
theorem headN_facts {b : List Nat} (hb : ∀ x ∈ b, x < 256) {x : Nat} {R : List Nat} (h : headN b = some (x, R)) : R.length = 16 /\ ∀ r ∈ R, r < 18446744073709551616 := by
 refine ⟨hdL_16 h, ?_⟩
 unfold headN at h
 split at h
 ·cases h; exact zeros16
 ·split at h
  ·cases h; exact hdL_lt b hb
  ·cases h
theorem meta_facts {n : Nat} {L : List (List Nat)} (hL : L.length = 1 + mapsN n) (hb : ∀ l ∈ L, ∀ x ∈ l, x < 256) {x : Nat} {R : List Nat} {P : List Pg} (h : metaN n L = some (x, R, P)) :
  R.length = 16 /\ (∀ r ∈ R, r < 18446744073709551616) /\ P.length = n /\ P.all oneP = true /\ goP 0 P = true := by
 unfold metaN at h
 have h0 : ∀ y ∈ L.getD 0 [], y < 256 := by
  rcases L with _ | ⟨l, L⟩
  ·simp at hL; omega
  ·exact hb l List.mem_cons_self
 split at h
 ·cases h
 ·rename_i x' R' hh
  split at h
  ·cases h
  ·rename_i Q hQ
   split at h
   ·rename_i hc
    cases h
    obtain ⟨h1, h2⟩ := headN_facts h0 hh
    have h3 := mapsPg_len _ _ hQ
    rw [List.length_drop, hL] at h3
    simp only [Bool.and_eq_true] at hc
    have h4 := hc.1
    unfold mayM chkP at h4
    simp only [Bool.and_eq_true] at h4
    exact ⟨h1, h2, by rw [List.length_take]; unfold mapsN at h3; omega, h4.1.2.1.2, h4.1.2.2⟩
   ·cases h
theorem objK_len (P : List Pg) (L : List (List Nat)) (k : Nat) : (objK P L k).length <= 16 := by
 unfold objK
 split
 ·simp
 ·split
  ·have h1 := slK_len (L.getD k []) (pgK P k).cls k (slotsN (pgK P k).cls)
   have h2 : slotsN (pgK P k).cls <= 16 := by
    by_cases h : (pgK P k).cls < 8
    ·exact (slots_all _ h).2.2
    ·unfold slotsN; rw [if_pos (sz_big _ (by omega))]; omega
   omega
  ·simp
theorem objsK_len (P : List Pg) (L : List (List Nat)) : ∀ k, (objsK P L k).length <= 16 * k
 | 0 => Nat.le_refl _
 | k + 1 => by
  have h1 := objsK_len P L k
  have h2 := objK_len P L k
  unfold objsK
  rw [List.length_append]; omega
/-- all that is wrong with a heap -/
def faultsK (n : Nat) (L : List (List Nat)) : List Ft := match metaN n (L.take (1 + mapsN n)) with
 | none => [⟨4, -1⟩]
 | some (x, R, P) => bysK P (L.drop (1 + mapsN n)) n ++ sersK (objsK P (L.drop (1 + mapsN n)) n) x (objsK P (L.drop (1 + mapsN n)) n).length ++ rtsK (objsK P (L.drop (1 + mapsN n)) n) R 16
def opsBQ : {o : Array Oper // some o = (Tryz.f8.body.bind (Fre.findR 5))} := ⟨_, rfl⟩
theorem fitBQ : Fre.fit .any opsBQ.1 69 = true := by kernel_rfl
theorem sizeBQ : opsBQ.1.size = 11 := by kernel_rfl
theorem tailBQ : Fre.lateFit .any opsBQ.1 9 7 = true := by kernel_rfl
def VBQ (gb g o k cap n fi : Nat) (t : Int) (L : List (List Nat)) (B : Nat) (i : Nat) (v : Value) (w : World) : Prop := match i with
 | 0 => v = .agg #[.int .i64 (n : Int), .int .i64 t]
 | 1 => v = .slice (some ⟨g, o, none⟩) k cap
 | 2 => v = .int .i64 ((fi : Nat) : Int)
 | 3 => v = .slice (some ⟨g, o, none⟩) fi cap
 | 4 => v = .tuple #[.agg (mtA 0 zeroR (.slice none 0 0)), .int .i64 4]
 | 5 => v = .tuple #[.agg (mtA 0 zeroR (.slice none 0 0)), .int .i64 4]
 | 6 => v = .agg (mtA 0 zeroR (.slice none 0 0))
 | 7 => v = .int .i64 4
 | 8 => ∃ b, v = .pointer (some ⟨b, 0, none⟩) /\ B <= b /\ w.heap[b]? = some (.cells #[.int .u64 0, .int .u64 0, .int .u64 0, .int .u64 0, .int .u64 0, .int .u64 0, .int .u64 0, .int .u64 0, .int .u64 0, .int .u64 0, .int .u64 0, .int .u64 0, .int .u64 0, .int .u64 0, .int .u64 0, .int .u64 0, .int .u64 0, .slice none 0 0] 63 (0, 0))
 | _ => True
theorem stBQ_0 (gb g o k cap n fi : Nat) (t : Int) (L : List (List Nat)) (B : Nat) (a0 : Act) (g92 : a0.tmps.getD 2 undef = .pointer (some ⟨gb, 0, none⟩)) (w0 : World) (h0 : w0.heap[gb]? = some (.cells #[.int .i64 (n : Int), .int .i64 t] 31 (0, 0))) (hg : geoB n t = true) (hL : L.length = k) (hfi : fi = 1 + mapsN n) (hk : fi <= k) (hcap : k <= cap) (h256 : ∀ l ∈ L, l.length = 256) (hR : RowsAt w0 (some ⟨g, o, none⟩) L) (hm : metaN n (L.take fi) = none) (hB : B <= w0.heap.size) : Fre.StepB Tryz.prog opsBQ.1 a0 w0 (VBQ gb g o k cap n fi t L B) Fre.Kept 0 := by
 intro E w hc hf hE hV hN hS o ho
 obtain rfl := Option.some.inj ho
 clear ho
 simp only [opsBQ, List.getElem_toArray, List.getElem_cons_succ, List.getElem_cons_zero]
 have b2 : E (.tmp 2) = .pointer (some ⟨gb, 0, none⟩) := (hE 2 (by kernel_rfl)).trans g92
 clear g92
 have hb := (hS.block gb (lt_of_block h0)).trans h0
 have hr := run_loadVar_row w gb _ 31 #[.int .i64 (n : Int), .int .i64 t] _ _ hb Tryz.underlying31 rfl (by rw [geo2]; rfl)
 refine Fre.Does.value (v := .agg #[.int .i64 (n : Int), .int .i64 t]) (w' := w) ?_ ⟨rfl, Fre.Kept.refl _⟩
 unfold execOp
 simp only [b2, Instr.loadAt, Instr.sureAddr, Sem.run_bind, Sem.run_pure, Result.andThen_ok, hr]
theorem stBQ_1 (gb g o k cap n fi : Nat) (t : Int) (L : List (List Nat)) (B : Nat) (a0 : Act) (g91 : a0.tmps.getD 1 undef = .slice (some ⟨g, o, none⟩) k cap) (w0 : World) (h0 : w0.heap[gb]? = some (.cells #[.int .i64 (n : Int), .int .i64 t] 31 (0, 0))) (hg : geoB n t = true) (hL : L.length = k) (hfi : fi = 1 + mapsN n) (hk : fi <= k) (hcap : k <= cap) (h256 : ∀ l ∈ L, l.length = 256) (hR : RowsAt w0 (some ⟨g, o, none⟩) L) (hm : metaN n (L.take fi) = none) (hB : B <= w0.heap.size) : Fre.StepB Tryz.prog opsBQ.1 a0 w0 (VBQ gb g o k cap n fi t L B) Fre.Kept 1 := by
 intro E w hc hf hE hV hN hS o ho
 obtain rfl := Option.some.inj ho
 clear ho
 simp only [opsBQ, List.getElem_toArray, List.getElem_cons_succ, List.getElem_cons_zero]
 have b1 : E (.tmp 1) = .slice (some ⟨g, o, none⟩) k cap := (hE 1 (by kernel_rfl)).trans g91
 clear g91
 refine Fre.Does.value (v := .slice (some ⟨g, o, none⟩) k cap) (w' := w) ?_ ⟨rfl, Fre.Kept.refl _⟩
 go_simp
theorem stBQ_2 (gb g o k cap n fi : Nat) (t : Int) (L : List (List Nat)) (B : Nat) (a0 : Act) (g97 : a0.tmps.getD 7 undef = .int .i64 ((fi : Nat) : Int)) (w0 : World) (h0 : w0.heap[gb]? = some (.cells #[.int .i64 (n : Int), .int .i64 t] 31 (0, 0))) (hg : geoB n t = true) (hL : L.length = k) (hfi : fi = 1 + mapsN n) (hk : fi <= k) (hcap : k <= cap) (h256 : ∀ l ∈ L, l.length = 256) (hR : RowsAt w0 (some ⟨g, o, none⟩) L) (hm : metaN n (L.take fi) = none) (hB : B <= w0.heap.size) : Fre.StepB Tryz.prog opsBQ.1 a0 w0 (VBQ gb g o k cap n fi t L B) Fre.Kept 2 := by
 intro E w hc hf hE hV hN hS o ho
 obtain rfl := Option.some.inj ho
 clear ho
 simp only [opsBQ, List.getElem_toArray, List.getElem_cons_succ, List.getElem_cons_zero]
 have b7 : E (.tmp 7) = .int .i64 ((fi : Nat) : Int) := (hE 7 (by kernel_rfl)).trans g97
 clear g97
 refine Fre.Does.value (v := .int .i64 ((fi : Nat) : Int)) (w' := w) ?_ ⟨rfl, Fre.Kept.refl _⟩
 go_simp
theorem stBQ_3 (gb g o k cap n fi : Nat) (t : Int) (L : List (List Nat)) (B : Nat) (a0 : Act)  (w0 : World) (h0 : w0.heap[gb]? = some (.cells #[.int .i64 (n : Int), .int .i64 t] 31 (0, 0))) (hg : geoB n t = true) (hL : L.length = k) (hfi : fi = 1 + mapsN n) (hk : fi <= k) (hcap : k <= cap) (h256 : ∀ l ∈ L, l.length = 256) (hR : RowsAt w0 (some ⟨g, o, none⟩) L) (hm : metaN n (L.take fi) = none) (hB : B <= w0.heap.size) : Fre.StepB Tryz.prog opsBQ.1 a0 w0 (VBQ gb g o k cap n fi t L B) Fre.Kept 3 := by
 intro E w hc hf hE hV hN hS o ho
 obtain rfl := Option.some.inj ho
 clear ho
 simp only [opsBQ, List.getElem_toArray, List.getElem_cons_succ, List.getElem_cons_zero]
 have d1 := hV 1 32 (by kernel_rfl) (by kernel_rfl)
 have d1 : E (.tmp 32) = .slice (some ⟨g, o, none⟩) k cap := d1
 have d2 := hV 2 33 (by kernel_rfl) (by kernel_rfl)
 have d2 : E (.tmp 33) = .int .i64 ((fi : Nat) : Int) := d2
 have hr := run_subRh g o k cap fi (by omega) w
 refine Fre.Does.value (v := .slice (some ⟨g, o, none⟩) fi cap) (w' := w) ?_ ⟨rfl, Fre.Kept.refl _⟩
 unfold execOp
 simp only [d1, d2, Option.map_some, Option.map_none, Sem.run_bind, hr, Result.andThen_ok]
 rfl
theorem stBQ_4 (gb g o k cap n fi : Nat) (t : Int) (L : List (List Nat)) (B : Nat) (a0 : Act)  (w0 : World) (h0 : w0.heap[gb]? = some (.cells #[.int .i64 (n : Int), .int .i64 t] 31 (0, 0))) (hg : geoB n t = true) (hL : L.length = k) (hfi : fi = 1 + mapsN n) (hk : fi <= k) (hcap : k <= cap) (h256 : ∀ l ∈ L, l.length = 256) (hR : RowsAt w0 (some ⟨g, o, none⟩) L) (hm : metaN n (L.take fi) = none) (hB : B <= w0.heap.size) : Fre.StepB Tryz.prog opsBQ.1 a0 w0 (VBQ gb g o k cap n fi t L B) Fre.Kept 4 := by
 intro E w hc hf hE hV hN hS o ho
 obtain rfl := Option.some.inj ho
 clear ho
 simp only [opsBQ, List.getElem_toArray, List.getElem_cons_succ, List.getElem_cons_zero]
 have d0 := hV 0 31 (by kernel_rfl) (by kernel_rfl)
 have d0 : E (.tmp 31) = .agg #[.int .i64 (n : Int), .int .i64 t] := d0
 have d3 := hV 3 34 (by kernel_rfl) (by kernel_rfl)
 have d3 : E (.tmp 34) = .slice (some ⟨g, o, none⟩) fi cap := d3
 refine Fre.Does.enter (f := 22) (args := #[.agg #[.int .i64 (n : Int), .int .i64 t], .slice (some ⟨g, o, none⟩) fi cap]) (w' := w) ?_ ((mparse_c n t hg g o fi cap (L.take fi) (by rw [List.length_take]; omega) hfi (by omega) (fun l hl => h256 l (List.mem_of_mem_take hl)) w ((hR.take _).up hS (Nat.le_refl _))).mono ?_)
 ·go_simp
 ·rintro e w' ⟨hp, hk'⟩
  unfold MParse at hp
  rw [hm] at hp
  subst hp
  exact ⟨_, rfl, rfl, hk'⟩
theorem stBQ_5 (gb g o k cap n fi : Nat) (t : Int) (L : List (List Nat)) (B : Nat) (a0 : Act)  (w0 : World) (h0 : w0.heap[gb]? = some (.cells #[.int .i64 (n : Int), .int .i64 t] 31 (0, 0))) (hg : geoB n t = true) (hL : L.length = k) (hfi : fi = 1 + mapsN n) (hk : fi <= k) (hcap : k <= cap) (h256 : ∀ l ∈ L, l.length = 256) (hR : RowsAt w0 (some ⟨g, o, none⟩) L) (hm : metaN n (L.take fi) = none) (hB : B <= w0.heap.size) : Fre.StepB Tryz.prog opsBQ.1 a0 w0 (VBQ gb g o k cap n fi t L B) Fre.Kept 5 := by
 intro E w hc hf hE hV hN hS o ho
 obtain rfl := Option.some.inj ho
 clear ho
 simp only [opsBQ, List.getElem_toArray, List.getElem_cons_succ, List.getElem_cons_zero]
 have d4 := hV 4 35 (by kernel_rfl) (by kernel_rfl)
 have d4 : E (.tmp 35) = .tuple #[.agg (mtA 0 zeroR (.slice none 0 0)), .int .i64 4] := d4
 refine Fre.Does.value (v := E (.tmp 35)) (w' := w) ?_ ⟨d4, Fre.Kept.refl _⟩
 go_simp
theorem stBQ_6 (gb g o k cap n fi : Nat) (t : Int) (L : List (List Nat)) (B : Nat) (a0 : Act)  (w0 : World) (h0 : w0.heap[gb]? = some (.cells #[.int .i64 (n : Int), .int .i64 t] 31 (0, 0))) (hg : geoB n t = true) (hL : L.length = k) (hfi : fi = 1 + mapsN n) (hk : fi <= k) (hcap : k <= cap) (h256 : ∀ l ∈ L, l.length = 256) (hR : RowsAt w0 (some ⟨g, o, none⟩) L) (hm : metaN n (L.take fi) = none) (hB : B <= w0.heap.size) : Fre.StepB Tryz.prog opsBQ.1 a0 w0 (VBQ gb g o k cap n fi t L B) Fre.Kept 6 := by
 intro E w hc hf hE hV hN hS o ho
 obtain rfl := Option.some.inj ho
 clear ho
 simp only [opsBQ, List.getElem_toArray, List.getElem_cons_succ, List.getElem_cons_zero]
 have d5 := hV 5 30 (by kernel_rfl) (by kernel_rfl)
 have d5 : E (.tmp 30) = .tuple #[.agg (mtA 0 zeroR (.slice none 0 0)), .int .i64 4] := d5
 refine Fre.Does.value (v := .agg (mtA 0 zeroR (.slice none 0 0))) (w' := w) ?_ ⟨rfl, Fre.Kept.refl _⟩
 unfold execOp
 simp only [d5]
 go_simp
theorem stBQ_7 (gb g o k cap n fi : Nat) (t : Int) (L : List (List Nat)) (B : Nat) (a0 : Act)  (w0 : World) (h0 : w0.heap[gb]? = some (.cells #[.int .i64 (n : Int), .int .i64 t] 31 (0, 0))) (hg : geoB n t = true) (hL : L.length = k) (hfi : fi = 1 + mapsN n) (hk : fi <= k) (hcap : k <= cap) (h256 : ∀ l ∈ L, l.length = 256) (hR : RowsAt w0 (some ⟨g, o, none⟩) L) (hm : metaN n (L.take fi) = none) (hB : B <= w0.heap.size) : Fre.StepB Tryz.prog opsBQ.1 a0 w0 (VBQ gb g o k cap n fi t L B) Fre.Kept 7 := by
 intro E w hc hf hE hV hN hS o ho
 obtain rfl := Option.some.inj ho
 clear ho
 simp only [opsBQ, List.getElem_toArray, List.getElem_cons_succ, List.getElem_cons_zero]
 have d5 := hV 5 30 (by kernel_rfl) (by kernel_rfl)
 have d5 : E (.tmp 30) = .tuple #[.agg (mtA 0 zeroR (.slice none 0 0)), .int .i64 4] := d5
 refine Fre.Does.value (v := .int .i64 4) (w' := w) ?_ ⟨rfl, Fre.Kept.refl _⟩
 unfold execOp
 simp only [d5]
 go_simp
theorem stBQ_8 (gb g o k cap n fi : Nat) (t : Int) (L : List (List Nat)) (B : Nat) (a0 : Act)  (w0 : World) (h0 : w0.heap[gb]? = some (.cells #[.int .i64 (n : Int), .int .i64 t] 31 (0, 0))) (hg : geoB n t = true) (hL : L.length = k) (hfi : fi = 1 + mapsN n) (hk : fi <= k) (hcap : k <= cap) (h256 : ∀ l ∈ L, l.length = 256) (hR : RowsAt w0 (some ⟨g, o, none⟩) L) (hm : metaN n (L.take fi) = none) (hB : B <= w0.heap.size) : Fre.StepB Tryz.prog opsBQ.1 a0 w0 (VBQ gb g o k cap n fi t L B) Fre.Kept 8 := by
 intro E w hc hf hE hV hN hS o ho
 obtain rfl := Option.some.inj ho
 clear ho
 simp only [opsBQ, List.getElem_toArray, List.getElem_cons_succ, List.getElem_cons_zero]
 refine Fre.Does.value (v := .pointer (some ⟨w.heap.size, 0, none⟩)) (w' := w.alloc (.cells #[.int .u64 0, .int .u64 0, .int .u64 0, .int .u64 0, .int .u64 0, .int .u64 0, .int .u64 0, .int .u64 0, .int .u64 0, .int .u64 0, .int .u64 0, .int .u64 0, .int .u64 0, .int .u64 0, .int .u64 0, .int .u64 0, .int .u64 0, .slice none 0 0] 63)) ?_ ⟨⟨_, rfl, Nat.le_trans hB hS.size, heap_new' _ _⟩, below_box _ _⟩
 go_simp
theorem kpBQ (gb g o k cap n fi : Nat) (t : Int) (L : List (List Nat)) (B : Nat) : ∀ j v w w', j < 9 -> VBQ gb g o k cap n fi t L B j v w -> Fre.Kept w w' -> VBQ gb g o k cap n fi t L B j v w' := by
 intro j v w w' hj h hs
 have hc : j = 0 \/ j = 1 \/ j = 2 \/ j = 3 \/ j = 4 \/ j = 5 \/ j = 6 \/ j = 7 \/ j = 8 := by omega
 rcases hc with rfl | rfl | rfl | rfl | rfl | rfl | rfl | rfl | rfl
 ·exact h
 ·exact h
 ·exact h
 ·exact h
 ·exact h
 ·exact h
 ·exact h
 ·exact h
 ·change ∃ b, v = .pointer (some ⟨b, 0, none⟩) /\ B <= b /\ w.heap[b]? = some (.cells #[.int .u64 0, .int .u64 0, .int .u64 0, .int .u64 0, .int .u64 0, .int .u64 0, .int .u64 0, .int .u64 0, .int .u64 0, .int .u64 0, .int .u64 0, .int .u64 0, .int .u64 0, .int .u64 0, .int .u64 0, .int .u64 0, .int .u64 0, .slice none 0 0] 63 (0, 0)) at h
  obtain ⟨b, h1, h2, h3⟩ := h
  exact ⟨b, h1, h2, (hs.block _ (lt_of_block h3)).trans h3⟩
section
variable {u0 u3 u4 u5 u6 u8 u9 u10 u11 u12 u13 u14 u15 u16 u17 u18 u19 u20 u21 u22 u23 u24 u25 u26 u27 u28 u29 u30 u31 u32 u33 u34 u35 u36 u37 u38 u39 u40 u41 u42 u43 u44 u45 u46 u47 u48 u49 u50 u51 u52 u53 u54 u55 u56 u57 u58 u59 u60 u61 u62 u63 u64 u65 u66 u67 u68 : Value}
theorem finBQ (gb g o k cap n fi : Nat) (t : Int) (L : List (List Nat)) (B : Nat) (vs : Nat -> Value) : Fre.finT opsBQ.1 vs #[u0, .slice (some ⟨g, o, none⟩) k cap, .pointer (some ⟨gb, 0, none⟩), u3, u4, u5, u6, .int .i64 ((fi : Nat) : Int), u8, u9, u10, u11, u12, u13, u14, u15, u16, u17, u18, u19, u20, u21, u22, u23, u24, u25, u26, u27, u28, u29, u30, u31, u32, u33, u34, u35, u36, u37, u38, u39, u40, u41, u42, u43, u44, u45, u46, u47, u48, u49, u50, u51, u52, u53, u54, u55, u56, u57, u58, u59, u60, u61, u62, u63, u64, u65, u66, u67, u68] 9 = #[u0, .slice (some ⟨g, o, none⟩) k cap, .pointer (some ⟨gb, 0, none⟩), u3, u4, u5, u6, .int .i64 ((fi : Nat) : Int), vs 8, u9, u10, u11, u12, u13, u14, u15, u16, u17, u18, u19, u20, u21, u22, u23, u24, u25, u26, u27, u28, u29, vs 5, vs 0, vs 1, vs 2, vs 3, vs 4, vs 6, vs 7, u38, u39, u40, u41, u42, u43, u44, u45, u46, u47, u48, u49, u50, u51, u52, u53, u54, u55, u56, u57, u58, u59, u60, u61, u62, u63, u64, u65, u66, u67, u68] := by kernel_rfl
theorem regionBQ (gb g o k cap n fi : Nat) (t : Int) (L : List (List Nat)) (B : Nat) (w0 : World) (h0 : w0.heap[gb]? = some (.cells #[.int .i64 (n : Int), .int .i64 t] 31 (0, 0))) (hg : geoB n t = true) (hL : L.length = k) (hfi : fi = 1 + mapsN n) (hk : fi <= k) (hcap : k <= cap) (h256 : ∀ l ∈ L, l.length = 256) (hR : RowsAt w0 (some ⟨g, o, none⟩) L) (hm : metaN n (L.take fi) = none) (hB : B <= w0.heap.size) {QQ : Exit -> Act -> World -> Prop} (hQ : ∀ (vs : Nat -> Value) w, (∀ j, j < 9 -> VBQ gb g o k cap n fi t L B j (vs j) w) -> Fre.Kept w0 w -> wpList Tryz.prog opsBQ.1 QQ (opsBQ.1.toList.drop 9) ⟨#[u0, .slice (some ⟨g, o, none⟩) k cap, .pointer (some ⟨gb, 0, none⟩), u3, u4, u5, u6, .int .i64 ((fi : Nat) : Int), vs 8, u9, u10, u11, u12, u13, u14, u15, u16, u17, u18, u19, u20, u21, u22, u23, u24, u25, u26, u27, u28, u29, vs 5, vs 0, vs 1, vs 2, vs 3, vs 4, vs 6, vs 7, u38, u39, u40, u41, u42, u43, u44, u45, u46, u47, u48, u49, u50, u51, u52, u53, u54, u55, u56, u57, u58, u59, u60, u61, u62, u63, u64, u65, u66, u67, u68], []⟩ w) (hQ2 : ∀ (vs : Nat -> Value) w, (∀ j, j < 9 -> j ≠ 7 -> VBQ gb g o k cap n fi t L B j (vs j) w) -> Fre.Kept w0 w -> wpList Tryz.prog opsBQ.1 QQ (opsBQ.1[9]'(by rw [sizeBQ]; omega) :: opsBQ.1[7]'(by rw [sizeBQ]; omega) :: opsBQ.1.toList.drop 10) ⟨#[u0, .slice (some ⟨g, o, none⟩) k cap, .pointer (some ⟨gb, 0, none⟩), u3, u4, u5, u6, .int .i64 ((fi : Nat) : Int), vs 8, u9, u10, u11, u12, u13, u14, u15, u16, u17, u18, u19, u20, u21, u22, u23, u24, u25, u26, u27, u28, u29, vs 5, vs 0, vs 1, vs 2, vs 3, vs 4, vs 6, u37, u38, u39, u40, u41, u42, u43, u44, u45, u46, u47, u48, u49, u50, u51, u52, u53, u54, u55, u56, u57, u58, u59, u60, u61, u62, u63, u64, u65, u66, u67, u68], []⟩ w) : (Code.region 5 opsBQ.1 true).wp Tryz.prog QQ ⟨#[u0, .slice (some ⟨g, o, none⟩) k cap, .pointer (some ⟨gb, 0, none⟩), u3, u4, u5, u6, .int .i64 ((fi : Nat) : Int), u8, u9, u10, u11, u12, u13, u14, u15, u16, u17, u18, u19, u20, u21, u22, u23, u24, u25, u26, u27, u28, u29, u30, u31, u32, u33, u34, u35, u36, u37, u38, u39, u40, u41, u42, u43, u44, u45, u46, u47, u48, u49, u50, u51, u52, u53, u54, u55, u56, u57, u58, u59, u60, u61, u62, u63, u64, u65, u66, u67, u68], []⟩ w0 := by
 refine Fre.region_late 69 9 7 (by omega) (by rw [sizeBQ]; omega) (by kernel_rfl) fitBQ rfl tailBQ (by rw [sizeBQ]; omega) (VBQ gb g o k cap n fi t L B) (kpBQ gb g o k cap n fi t L B) (fun i hi => ?_) (fun vs w h1 h2 => ?_) (fun vs w h1 h3 h2 => ?_)
 case refine_2 => show wpList _ _ _ _ ⟨Fre.finT opsBQ.1 vs #[u0, .slice (some ⟨g, o, none⟩) k cap, .pointer (some ⟨gb, 0, none⟩), u3, u4, u5, u6, .int .i64 ((fi : Nat) : Int), u8, u9, u10, u11, u12, u13, u14, u15, u16, u17, u18, u19, u20, u21, u22, u23, u24, u25, u26, u27, u28, u29, u30, u31, u32, u33, u34, u35, u36, u37, u38, u39, u40, u41, u42, u43, u44, u45, u46, u47, u48, u49, u50, u51, u52, u53, u54, u55, u56, u57, u58, u59, u60, u61, u62, u63, u64, u65, u66, u67, u68] 9, []⟩ w; rw [finBQ gb g o k cap n fi t L B vs]; exact hQ vs w h1 h2
 case refine_3 =>
  have e3 : vs 7 = u37 := (Option.some.inj (h3 37 (by kernel_rfl))).symm
  show wpList _ _ _ _ ⟨Fre.finT opsBQ.1 vs #[u0, .slice (some ⟨g, o, none⟩) k cap, .pointer (some ⟨gb, 0, none⟩), u3, u4, u5, u6, .int .i64 ((fi : Nat) : Int), u8, u9, u10, u11, u12, u13, u14, u15, u16, u17, u18, u19, u20, u21, u22, u23, u24, u25, u26, u27, u28, u29, u30, u31, u32, u33, u34, u35, u36, u37, u38, u39, u40, u41, u42, u43, u44, u45, u46, u47, u48, u49, u50, u51, u52, u53, u54, u55, u56, u57, u58, u59, u60, u61, u62, u63, u64, u65, u66, u67, u68] 9, []⟩ w; rw [finBQ gb g o k cap n fi t L B vs, e3]; exact hQ2 vs w h1 h2
 have hc : i = 0 \/ i = 1 \/ i = 2 \/ i = 3 \/ i = 4 \/ i = 5 \/ i = 6 \/ i = 7 \/ i = 8 := by omega
 rcases hc with rfl | rfl | rfl | rfl | rfl | rfl | rfl | rfl | rfl
 ·exact stBQ_0 gb g o k cap n fi t L B _ rfl w0 h0 hg hL hfi hk hcap h256 hR hm hB
 ·exact stBQ_1 gb g o k cap n fi t L B _ rfl w0 h0 hg hL hfi hk hcap h256 hR hm hB
 ·exact stBQ_2 gb g o k cap n fi t L B _ rfl w0 h0 hg hL hfi hk hcap h256 hR hm hB
 ·exact stBQ_3 gb g o k cap n fi t L B _  w0 h0 hg hL hfi hk hcap h256 hR hm hB
 ·exact stBQ_4 gb g o k cap n fi t L B _  w0 h0 hg hL hfi hk hcap h256 hR hm hB
 ·exact stBQ_5 gb g o k cap n fi t L B _  w0 h0 hg hL hfi hk hcap h256 hR hm hB
 ·exact stBQ_6 gb g o k cap n fi t L B _  w0 h0 hg hL hfi hk hcap h256 hR hm hB
 ·exact stBQ_7 gb g o k cap n fi t L B _  w0 h0 hg hL hfi hk hcap h256 hR hm hB
 ·exact stBQ_8 gb g o k cap n fi t L B _  w0 h0 hg hL hfi hk hcap h256 hR hm hB
end
end Go.Proofs.YtpbmjfjnmcpieaaGreat
