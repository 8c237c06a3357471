/- Texts RCc, LateT, put together by pack.py. -/
import Derived.Test.YtpbmjfjnmcpieaaGreatCBe
import Derived.Test.YtpbmjfjnmcpieaaGreatCBc
set_option maxRecDepth 100000
set_option maxHeartbeats 16000000
set_option linter.unusedVariables false
set_option linter.unusedSimpArgs false
namespace Go.Proofs.YtpbmjfjnmcpieaaGreat
open Go Go.RowKit
theorem pc_sub (b : List Nat) (j i n : Nat) (h : i + n <= 16) : ((pcOf b j).drop i).take n = (b.drop (16 * j + i)).take n := by
 unfold pcOf
 rw [List.drop_take, List.take_take, List.drop_drop, Nat.min_eq_left (by omega)]
theorem pc_one (b : List Nat) (j i : Nat) (h : i < 16) (hb : 16 * j + i < b.length) : leN (((pcOf b j).drop i).take 1) = b.getD (16 * j + i) 0 := by
 rw [pc_sub b j i 1 (by omega), List.drop_eq_getElem_cons hb, List.getD_eq_getElem?_getD, List.getElem?_eq_getElem hb]
 rfl
theorem pc_page (b : List Nat) (hb : b.length = 256) (j k k1 k2 k4 k8 k16 : Nat) (hj : j < 16) (hk : k = 16 * j) (h1 : k1 = k + 1) (h2 : k2 = k + 2) (h4 : k4 = k + 4) (h8 : k8 = k + 8) (h16 : k16 = k + 16) :
  pgOf (pcOf b j) = ⟨b.getD k 0, b.getD k1 0, leN ((b.drop k2).take (k4 - k2)), leN ((b.drop k4).take (k8 - k4)), leN ((b.drop k8).take (k16 - k8))⟩ := by
 unfold pgOf
 have e0 := pc_one b j 0 (by omega) (by omega)
 have e1 := pc_one b j 1 (by omega) (by omega)
 rw [List.drop_zero, Nat.add_zero] at e0
 rw [e0, e1, pc_sub b j 2 2 (by omega), pc_sub b j 4 4 (by omega), pc_sub b j 8 8 (by omega), hk, h1, hk, h2, hk, h4, hk, h8, hk, h16, hk]
 congr 3 <;> omega
def opsQP : {o : Array Oper // some o = (Tryz.f54.body.bind (Fre.findR 5))} := ⟨_, rfl⟩
theorem fitQP : Fre.fit .any opsQP.1 54 = true := by kernel_rfl
theorem sizeQP : opsQP.1.size = 37 := by kernel_rfl
theorem tailQP : Fre.tailFit .any opsQP.1 36 = true := by kernel_rfl
def VQP (g o m cap k k1 k2 k4 k8 k16 : Nat) (b : List Nat) (p : Pg) (B : Nat) (i : Nat) (v : Value) (w : World) : Prop := match i with
 | 0 => v = .slice (some ⟨g, o, none⟩) m cap
 | 1 => v = .int .i64 (k : Int)
 | 2 => v = .pointer (some ⟨g, o + k, none⟩)
 | 3 => v = .int .u8 (p.kind : Int)
 | 4 => v = .int .i64 (p.kind : Int)
 | 5 => v = .slice (some ⟨g, o, none⟩) m cap
 | 6 => v = .int .i64 (k : Int)
 | 7 => v = .int .i64 (k1 : Int)
 | 8 => v = .pointer (some ⟨g, o + k1, none⟩)
 | 9 => v = .int .u8 (p.cls : Int)
 | 10 => v = .int .i64 (p.cls : Int)
 | 11 => v = .slice (some ⟨g, o, none⟩) m cap
 | 12 => v = .int .i64 (k : Int)
 | 13 => v = .int .i64 (k2 : Int)
 | 14 => v = .int .i64 (k : Int)
 | 15 => v = .int .i64 (k4 : Int)
 | 16 => v = .slice (some ⟨g, subO o cap k2, none⟩) (k4 - k2) (cap - k2)
 | 17 => v = .int .u64 (p.run : Int)
 | 18 => v = .int .i64 (p.run : Int)
 | 19 => v = .slice (some ⟨g, o, none⟩) m cap
 | 20 => v = .int .i64 (k : Int)
 | 21 => v = .int .i64 (k4 : Int)
 | 22 => v = .int .i64 (k : Int)
 | 23 => v = .int .i64 (k8 : Int)
 | 24 => v = .slice (some ⟨g, subO o cap k4, none⟩) (k8 - k4) (cap - k4)
 | 25 => v = .int .u64 (p.size : Int)
 | 26 => v = .int .i64 (p.size : Int)
 | 27 => v = .slice (some ⟨g, o, none⟩) m cap
 | 28 => v = .int .i64 (k : Int)
 | 29 => v = .int .i64 (k8 : Int)
 | 30 => v = .int .i64 (k : Int)
 | 31 => v = .int .i64 (k16 : Int)
 | 32 => v = .slice (some ⟨g, subO o cap k8, none⟩) (k16 - k8) (cap - k8)
 | 33 => v = .int .u64 (p.ser : Int)
 | 34 => v = .agg (pgA p)
 | 35 => ∃ b, v = .pointer (some ⟨b, 0, none⟩) /\ B <= b /\ w.heap[b]? = some (.cells #[.int .i64 0, .int .i64 0, .int .i64 0, .int .i64 0, .int .u64 0] 78 (0, 0))
 | _ => True
theorem stQP_0 (g o m cap k k1 k2 k4 k8 k16 : Nat) (b : List Nat) (p : Pg) (B : Nat) (a0 : Act) (g90 : a0.tmps.getD 0 undef = .slice (some ⟨g, o, none⟩) m cap) (w0 : World) (hm : m = 256) (h1 : k1 = k + 1) (h2 : k2 = k + 2) (h4 : k4 = k + 4) (h8 : k8 = k + 8) (h16 : k16 = k + 16) (hk : k16 <= 256) (hcap : 256 <= cap) (hlen : b.length = 256) (hb : BytesAt w0 (some ⟨g, o, none⟩) cap b) (hp0 : p.kind = b.getD k 0) (hp1 : p.cls = b.getD k1 0) (hp2 : p.run = leN ((b.drop k2).take (k4 - k2))) (hp3 : p.size = leN ((b.drop k4).take (k8 - k4))) (hp4 : p.ser = leN ((b.drop k8).take (k16 - k8))) (hB : B <= w0.heap.size) : Fre.StepB Tryz.prog opsQP.1 a0 w0 (VQP g o m cap k k1 k2 k4 k8 k16 b p B) Fre.Kept 0 := by
 intro E w hc hf hE hV hN hS o ho
 obtain rfl := Option.some.inj ho
 clear ho
 simp only [opsQP, List.getElem_toArray, List.getElem_cons_succ, List.getElem_cons_zero]
 have b0 : E (.tmp 0) = .slice (some ⟨g, o, none⟩) m cap := (hE 0 (by kernel_rfl)).trans g90
 clear g90
 clear hp0 hp1 hp2 hp3 hp4 h1 h2 h4 h8 h16
 refine Fre.Does.value (v := .slice (some ⟨g, o, none⟩) m cap) (w' := w) ?_ ⟨rfl, Fre.Kept.refl _⟩
 go_simp
theorem stQP_1 (g o m cap k k1 k2 k4 k8 k16 : Nat) (b : List Nat) (p : Pg) (B : Nat) (a0 : Act) (g95 : a0.tmps.getD 5 undef = .int .i64 (k : Int)) (w0 : World) (hm : m = 256) (h1 : k1 = k + 1) (h2 : k2 = k + 2) (h4 : k4 = k + 4) (h8 : k8 = k + 8) (h16 : k16 = k + 16) (hk : k16 <= 256) (hcap : 256 <= cap) (hlen : b.length = 256) (hb : BytesAt w0 (some ⟨g, o, none⟩) cap b) (hp0 : p.kind = b.getD k 0) (hp1 : p.cls = b.getD k1 0) (hp2 : p.run = leN ((b.drop k2).take (k4 - k2))) (hp3 : p.size = leN ((b.drop k4).take (k8 - k4))) (hp4 : p.ser = leN ((b.drop k8).take (k16 - k8))) (hB : B <= w0.heap.size) : Fre.StepB Tryz.prog opsQP.1 a0 w0 (VQP g o m cap k k1 k2 k4 k8 k16 b p B) Fre.Kept 1 := by
 intro E w hc hf hE hV hN hS o ho
 obtain rfl := Option.some.inj ho
 clear ho
 simp only [opsQP, List.getElem_toArray, List.getElem_cons_succ, List.getElem_cons_zero]
 have b5 : E (.tmp 5) = .int .i64 (k : Int) := (hE 5 (by kernel_rfl)).trans g95
 clear g95
 clear hp0 hp1 hp2 hp3 hp4 h1 h2 h4 h8 h16
 refine Fre.Does.value (v := .int .i64 (k : Int)) (w' := w) ?_ ⟨rfl, Fre.Kept.refl _⟩
 go_simp
theorem stQP_2 (g o m cap k k1 k2 k4 k8 k16 : Nat) (b : List Nat) (p : Pg) (B : Nat) (a0 : Act)  (w0 : World) (hm : m = 256) (h1 : k1 = k + 1) (h2 : k2 = k + 2) (h4 : k4 = k + 4) (h8 : k8 = k + 8) (h16 : k16 = k + 16) (hk : k16 <= 256) (hcap : 256 <= cap) (hlen : b.length = 256) (hb : BytesAt w0 (some ⟨g, o, none⟩) cap b) (hp0 : p.kind = b.getD k 0) (hp1 : p.cls = b.getD k1 0) (hp2 : p.run = leN ((b.drop k2).take (k4 - k2))) (hp3 : p.size = leN ((b.drop k4).take (k8 - k4))) (hp4 : p.ser = leN ((b.drop k8).take (k16 - k8))) (hB : B <= w0.heap.size) : Fre.StepB Tryz.prog opsQP.1 a0 w0 (VQP g o m cap k k1 k2 k4 k8 k16 b p B) Fre.Kept 2 := by
 intro E w hc hf hE hV hN hS o ho
 obtain rfl := Option.some.inj ho
 clear ho
 simp only [opsQP, List.getElem_toArray, List.getElem_cons_succ, List.getElem_cons_zero]
 have d0 := hV 0 11 (by kernel_rfl) (by kernel_rfl)
 have d0 : E (.tmp 11) = .slice (some ⟨g, o, none⟩) m cap := d0
 have d1 := hV 1 12 (by kernel_rfl) (by kernel_rfl)
 have d1 : E (.tmp 12) = .int .i64 (k : Int) := d1
 have l1 : (k : Int) < 256 := by omega
 have l2 : ¬ (256 : Int) <= (k : Int) := by omega
 have l0 : ¬ (k : Int) < 0 := by omega
 clear hp0 hp1 hp2 hp3 hp4 h1 h2 h4 h8 h16
 refine Fre.Does.value (v := .pointer (some ⟨g, o + k, none⟩)) (w' := w) ?_ ⟨rfl, Fre.Kept.refl _⟩
 go_simp
theorem stQP_3 (g o m cap k k1 k2 k4 k8 k16 : Nat) (b : List Nat) (p : Pg) (B : Nat) (a0 : Act)  (w0 : World) (hm : m = 256) (h1 : k1 = k + 1) (h2 : k2 = k + 2) (h4 : k4 = k + 4) (h8 : k8 = k + 8) (h16 : k16 = k + 16) (hk : k16 <= 256) (hcap : 256 <= cap) (hlen : b.length = 256) (hb : BytesAt w0 (some ⟨g, o, none⟩) cap b) (hp0 : p.kind = b.getD k 0) (hp1 : p.cls = b.getD k1 0) (hp2 : p.run = leN ((b.drop k2).take (k4 - k2))) (hp3 : p.size = leN ((b.drop k4).take (k8 - k4))) (hp4 : p.ser = leN ((b.drop k8).take (k16 - k8))) (hB : B <= w0.heap.size) : Fre.StepB Tryz.prog opsQP.1 a0 w0 (VQP g o m cap k k1 k2 k4 k8 k16 b p B) Fre.Kept 3 := by
 intro E w hc hf hE hV hN hS o ho
 obtain rfl := Option.some.inj ho
 clear ho
 simp only [opsQP, List.getElem_toArray, List.getElem_cons_succ, List.getElem_cons_zero]
 have d2 := hV 2 13 (by kernel_rfl) (by kernel_rfl)
 have d2 : E (.tmp 13) = .pointer (some ⟨g, o + k, none⟩) := d2
 obtain ⟨g', o', ee, hc1, hg, hcell⟩ := hb.2 (by omega)
 cases ee
 have ck := (hS.cell (p := ⟨g, o + k, none⟩) hg).trans (hcell k (by omega))
 rw [<- hp0] at ck
 clear hp0 hp1 hp2 hp3 hp4 h1 h2 h4 h8 h16 hcell
 refine Fre.Does.value (v := .int .u8 (p.kind : Int)) (w' := w) ?_ ⟨rfl, Fre.Kept.refl _⟩
 go_simp
theorem stQP_4 (g o m cap k k1 k2 k4 k8 k16 : Nat) (b : List Nat) (p : Pg) (B : Nat) (a0 : Act)  (w0 : World) (hm : m = 256) (h1 : k1 = k + 1) (h2 : k2 = k + 2) (h4 : k4 = k + 4) (h8 : k8 = k + 8) (h16 : k16 = k + 16) (hk : k16 <= 256) (hcap : 256 <= cap) (hlen : b.length = 256) (hb : BytesAt w0 (some ⟨g, o, none⟩) cap b) (hp0 : p.kind = b.getD k 0) (hp1 : p.cls = b.getD k1 0) (hp2 : p.run = leN ((b.drop k2).take (k4 - k2))) (hp3 : p.size = leN ((b.drop k4).take (k8 - k4))) (hp4 : p.ser = leN ((b.drop k8).take (k16 - k8))) (hB : B <= w0.heap.size) : Fre.StepB Tryz.prog opsQP.1 a0 w0 (VQP g o m cap k k1 k2 k4 k8 k16 b p B) Fre.Kept 4 := by
 intro E w hc hf hE hV hN hS o ho
 obtain rfl := Option.some.inj ho
 clear ho
 simp only [opsQP, List.getElem_toArray, List.getElem_cons_succ, List.getElem_cons_zero]
 have d3 := hV 3 14 (by kernel_rfl) (by kernel_rfl)
 have d3 : E (.tmp 14) = .int .u8 (p.kind : Int) := d3
 have hx : b.getD k 0 < 256 := by rw [List.getD_eq_getElem?_getD, List.getElem?_eq_getElem (by omega)]; exact hb.1 _ (List.getElem_mem _)
 rw [<- hp0] at hx
 have e2 : IntKind.i64.wrap (p.kind : Int) = (p.kind : Int) := IntWalk.i64_in _ (by omega)
 clear hp0 hp1 hp2 hp3 hp4 h1 h2 h4 h8 h16
 refine Fre.Does.value (v := .int .i64 (p.kind : Int)) (w' := w) ?_ ⟨rfl, Fre.Kept.refl _⟩
 go_simp
theorem stQP_5 (g o m cap k k1 k2 k4 k8 k16 : Nat) (b : List Nat) (p : Pg) (B : Nat) (a0 : Act) (g90 : a0.tmps.getD 0 undef = .slice (some ⟨g, o, none⟩) m cap) (w0 : World) (hm : m = 256) (h1 : k1 = k + 1) (h2 : k2 = k + 2) (h4 : k4 = k + 4) (h8 : k8 = k + 8) (h16 : k16 = k + 16) (hk : k16 <= 256) (hcap : 256 <= cap) (hlen : b.length = 256) (hb : BytesAt w0 (some ⟨g, o, none⟩) cap b) (hp0 : p.kind = b.getD k 0) (hp1 : p.cls = b.getD k1 0) (hp2 : p.run = leN ((b.drop k2).take (k4 - k2))) (hp3 : p.size = leN ((b.drop k4).take (k8 - k4))) (hp4 : p.ser = leN ((b.drop k8).take (k16 - k8))) (hB : B <= w0.heap.size) : Fre.StepB Tryz.prog opsQP.1 a0 w0 (VQP g o m cap k k1 k2 k4 k8 k16 b p B) Fre.Kept 5 := by
 intro E w hc hf hE hV hN hS o ho
 obtain rfl := Option.some.inj ho
 clear ho
 simp only [opsQP, List.getElem_toArray, List.getElem_cons_succ, List.getElem_cons_zero]
 have b0 : E (.tmp 0) = .slice (some ⟨g, o, none⟩) m cap := (hE 0 (by kernel_rfl)).trans g90
 clear g90
 clear hp0 hp1 hp2 hp3 hp4 h1 h2 h4 h8 h16
 refine Fre.Does.value (v := .slice (some ⟨g, o, none⟩) m cap) (w' := w) ?_ ⟨rfl, Fre.Kept.refl _⟩
 go_simp
theorem stQP_6 (g o m cap k k1 k2 k4 k8 k16 : Nat) (b : List Nat) (p : Pg) (B : Nat) (a0 : Act) (g95 : a0.tmps.getD 5 undef = .int .i64 (k : Int)) (w0 : World) (hm : m = 256) (h1 : k1 = k + 1) (h2 : k2 = k + 2) (h4 : k4 = k + 4) (h8 : k8 = k + 8) (h16 : k16 = k + 16) (hk : k16 <= 256) (hcap : 256 <= cap) (hlen : b.length = 256) (hb : BytesAt w0 (some ⟨g, o, none⟩) cap b) (hp0 : p.kind = b.getD k 0) (hp1 : p.cls = b.getD k1 0) (hp2 : p.run = leN ((b.drop k2).take (k4 - k2))) (hp3 : p.size = leN ((b.drop k4).take (k8 - k4))) (hp4 : p.ser = leN ((b.drop k8).take (k16 - k8))) (hB : B <= w0.heap.size) : Fre.StepB Tryz.prog opsQP.1 a0 w0 (VQP g o m cap k k1 k2 k4 k8 k16 b p B) Fre.Kept 6 := by
 intro E w hc hf hE hV hN hS o ho
 obtain rfl := Option.some.inj ho
 clear ho
 simp only [opsQP, List.getElem_toArray, List.getElem_cons_succ, List.getElem_cons_zero]
 have b5 : E (.tmp 5) = .int .i64 (k : Int) := (hE 5 (by kernel_rfl)).trans g95
 clear g95
 clear hp0 hp1 hp2 hp3 hp4 h1 h2 h4 h8 h16
 refine Fre.Does.value (v := .int .i64 (k : Int)) (w' := w) ?_ ⟨rfl, Fre.Kept.refl _⟩
 go_simp
theorem stQP_7 (g o m cap k k1 k2 k4 k8 k16 : Nat) (b : List Nat) (p : Pg) (B : Nat) (a0 : Act)  (w0 : World) (hm : m = 256) (h1 : k1 = k + 1) (h2 : k2 = k + 2) (h4 : k4 = k + 4) (h8 : k8 = k + 8) (h16 : k16 = k + 16) (hk : k16 <= 256) (hcap : 256 <= cap) (hlen : b.length = 256) (hb : BytesAt w0 (some ⟨g, o, none⟩) cap b) (hp0 : p.kind = b.getD k 0) (hp1 : p.cls = b.getD k1 0) (hp2 : p.run = leN ((b.drop k2).take (k4 - k2))) (hp3 : p.size = leN ((b.drop k4).take (k8 - k4))) (hp4 : p.ser = leN ((b.drop k8).take (k16 - k8))) (hB : B <= w0.heap.size) : Fre.StepB Tryz.prog opsQP.1 a0 w0 (VQP g o m cap k k1 k2 k4 k8 k16 b p B) Fre.Kept 7 := by
 intro E w hc hf hE hV hN hS o ho
 obtain rfl := Option.some.inj ho
 clear ho
 simp only [opsQP, List.getElem_toArray, List.getElem_cons_succ, List.getElem_cons_zero]
 have d6 := hV 6 17 (by kernel_rfl) (by kernel_rfl)
 have d6 : E (.tmp 17) = .int .i64 (k : Int) := d6
 have e1 : (k : Int) + 1 = (k1 : Int) := by omega
 have e2 : IntKind.i64.wrap (k1 : Int) = (k1 : Int) := IntWalk.i64_in _ (by omega)
 clear hp0 hp1 hp2 hp3 hp4 h1 h2 h4 h8 h16
 refine Fre.Does.value (v := .int .i64 (k1 : Int)) (w' := w) ?_ ⟨rfl, Fre.Kept.refl _⟩
 go_simp
theorem stQP_8 (g o m cap k k1 k2 k4 k8 k16 : Nat) (b : List Nat) (p : Pg) (B : Nat) (a0 : Act)  (w0 : World) (hm : m = 256) (h1 : k1 = k + 1) (h2 : k2 = k + 2) (h4 : k4 = k + 4) (h8 : k8 = k + 8) (h16 : k16 = k + 16) (hk : k16 <= 256) (hcap : 256 <= cap) (hlen : b.length = 256) (hb : BytesAt w0 (some ⟨g, o, none⟩) cap b) (hp0 : p.kind = b.getD k 0) (hp1 : p.cls = b.getD k1 0) (hp2 : p.run = leN ((b.drop k2).take (k4 - k2))) (hp3 : p.size = leN ((b.drop k4).take (k8 - k4))) (hp4 : p.ser = leN ((b.drop k8).take (k16 - k8))) (hB : B <= w0.heap.size) : Fre.StepB Tryz.prog opsQP.1 a0 w0 (VQP g o m cap k k1 k2 k4 k8 k16 b p B) Fre.Kept 8 := by
 intro E w hc hf hE hV hN hS o ho
 obtain rfl := Option.some.inj ho
 clear ho
 simp only [opsQP, List.getElem_toArray, List.getElem_cons_succ, List.getElem_cons_zero]
 have d5 := hV 5 16 (by kernel_rfl) (by kernel_rfl)
 have d5 : E (.tmp 16) = .slice (some ⟨g, o, none⟩) m cap := d5
 have d7 := hV 7 18 (by kernel_rfl) (by kernel_rfl)
 have d7 : E (.tmp 18) = .int .i64 (k1 : Int) := d7
 have l1 : (k1 : Int) < 256 := by omega
 have l2 : ¬ (256 : Int) <= (k1 : Int) := by omega
 have l0 : ¬ (k1 : Int) < 0 := by omega
 clear hp0 hp1 hp2 hp3 hp4 h1 h2 h4 h8 h16
 refine Fre.Does.value (v := .pointer (some ⟨g, o + k1, none⟩)) (w' := w) ?_ ⟨rfl, Fre.Kept.refl _⟩
 go_simp
theorem stQP_9 (g o m cap k k1 k2 k4 k8 k16 : Nat) (b : List Nat) (p : Pg) (B : Nat) (a0 : Act)  (w0 : World) (hm : m = 256) (h1 : k1 = k + 1) (h2 : k2 = k + 2) (h4 : k4 = k + 4) (h8 : k8 = k + 8) (h16 : k16 = k + 16) (hk : k16 <= 256) (hcap : 256 <= cap) (hlen : b.length = 256) (hb : BytesAt w0 (some ⟨g, o, none⟩) cap b) (hp0 : p.kind = b.getD k 0) (hp1 : p.cls = b.getD k1 0) (hp2 : p.run = leN ((b.drop k2).take (k4 - k2))) (hp3 : p.size = leN ((b.drop k4).take (k8 - k4))) (hp4 : p.ser = leN ((b.drop k8).take (k16 - k8))) (hB : B <= w0.heap.size) : Fre.StepB Tryz.prog opsQP.1 a0 w0 (VQP g o m cap k k1 k2 k4 k8 k16 b p B) Fre.Kept 9 := by
 intro E w hc hf hE hV hN hS o ho
 obtain rfl := Option.some.inj ho
 clear ho
 simp only [opsQP, List.getElem_toArray, List.getElem_cons_succ, List.getElem_cons_zero]
 have d8 := hV 8 19 (by kernel_rfl) (by kernel_rfl)
 have d8 : E (.tmp 19) = .pointer (some ⟨g, o + k1, none⟩) := d8
 obtain ⟨g', o', ee, hc1, hg, hcell⟩ := hb.2 (by omega)
 cases ee
 have ck := (hS.cell (p := ⟨g, o + k1, none⟩) hg).trans (hcell k1 (by omega))
 rw [<- hp1] at ck
 clear hp0 hp1 hp2 hp3 hp4 h1 h2 h4 h8 h16 hcell
 refine Fre.Does.value (v := .int .u8 (p.cls : Int)) (w' := w) ?_ ⟨rfl, Fre.Kept.refl _⟩
 go_simp
theorem stQP_10 (g o m cap k k1 k2 k4 k8 k16 : Nat) (b : List Nat) (p : Pg) (B : Nat) (a0 : Act)  (w0 : World) (hm : m = 256) (h1 : k1 = k + 1) (h2 : k2 = k + 2) (h4 : k4 = k + 4) (h8 : k8 = k + 8) (h16 : k16 = k + 16) (hk : k16 <= 256) (hcap : 256 <= cap) (hlen : b.length = 256) (hb : BytesAt w0 (some ⟨g, o, none⟩) cap b) (hp0 : p.kind = b.getD k 0) (hp1 : p.cls = b.getD k1 0) (hp2 : p.run = leN ((b.drop k2).take (k4 - k2))) (hp3 : p.size = leN ((b.drop k4).take (k8 - k4))) (hp4 : p.ser = leN ((b.drop k8).take (k16 - k8))) (hB : B <= w0.heap.size) : Fre.StepB Tryz.prog opsQP.1 a0 w0 (VQP g o m cap k k1 k2 k4 k8 k16 b p B) Fre.Kept 10 := by
 intro E w hc hf hE hV hN hS o ho
 obtain rfl := Option.some.inj ho
 clear ho
 simp only [opsQP, List.getElem_toArray, List.getElem_cons_succ, List.getElem_cons_zero]
 have d9 := hV 9 20 (by kernel_rfl) (by kernel_rfl)
 have d9 : E (.tmp 20) = .int .u8 (p.cls : Int) := d9
 have hx : b.getD k1 0 < 256 := by rw [List.getD_eq_getElem?_getD, List.getElem?_eq_getElem (by omega)]; exact hb.1 _ (List.getElem_mem _)
 rw [<- hp1] at hx
 have e2 : IntKind.i64.wrap (p.cls : Int) = (p.cls : Int) := IntWalk.i64_in _ (by omega)
 clear hp0 hp1 hp2 hp3 hp4 h1 h2 h4 h8 h16
 refine Fre.Does.value (v := .int .i64 (p.cls : Int)) (w' := w) ?_ ⟨rfl, Fre.Kept.refl _⟩
 go_simp
theorem stQP_11 (g o m cap k k1 k2 k4 k8 k16 : Nat) (b : List Nat) (p : Pg) (B : Nat) (a0 : Act) (g90 : a0.tmps.getD 0 undef = .slice (some ⟨g, o, none⟩) m cap) (w0 : World) (hm : m = 256) (h1 : k1 = k + 1) (h2 : k2 = k + 2) (h4 : k4 = k + 4) (h8 : k8 = k + 8) (h16 : k16 = k + 16) (hk : k16 <= 256) (hcap : 256 <= cap) (hlen : b.length = 256) (hb : BytesAt w0 (some ⟨g, o, none⟩) cap b) (hp0 : p.kind = b.getD k 0) (hp1 : p.cls = b.getD k1 0) (hp2 : p.run = leN ((b.drop k2).take (k4 - k2))) (hp3 : p.size = leN ((b.drop k4).take (k8 - k4))) (hp4 : p.ser = leN ((b.drop k8).take (k16 - k8))) (hB : B <= w0.heap.size) : Fre.StepB Tryz.prog opsQP.1 a0 w0 (VQP g o m cap k k1 k2 k4 k8 k16 b p B) Fre.Kept 11 := by
 intro E w hc hf hE hV hN hS o ho
 obtain rfl := Option.some.inj ho
 clear ho
 simp only [opsQP, List.getElem_toArray, List.getElem_cons_succ, List.getElem_cons_zero]
 have b0 : E (.tmp 0) = .slice (some ⟨g, o, none⟩) m cap := (hE 0 (by kernel_rfl)).trans g90
 clear g90
 clear hp0 hp1 hp2 hp3 hp4 h1 h2 h4 h8 h16
 refine Fre.Does.value (v := .slice (some ⟨g, o, none⟩) m cap) (w' := w) ?_ ⟨rfl, Fre.Kept.refl _⟩
 go_simp
theorem stQP_12 (g o m cap k k1 k2 k4 k8 k16 : Nat) (b : List Nat) (p : Pg) (B : Nat) (a0 : Act) (g95 : a0.tmps.getD 5 undef = .int .i64 (k : Int)) (w0 : World) (hm : m = 256) (h1 : k1 = k + 1) (h2 : k2 = k + 2) (h4 : k4 = k + 4) (h8 : k8 = k + 8) (h16 : k16 = k + 16) (hk : k16 <= 256) (hcap : 256 <= cap) (hlen : b.length = 256) (hb : BytesAt w0 (some ⟨g, o, none⟩) cap b) (hp0 : p.kind = b.getD k 0) (hp1 : p.cls = b.getD k1 0) (hp2 : p.run = leN ((b.drop k2).take (k4 - k2))) (hp3 : p.size = leN ((b.drop k4).take (k8 - k4))) (hp4 : p.ser = leN ((b.drop k8).take (k16 - k8))) (hB : B <= w0.heap.size) : Fre.StepB Tryz.prog opsQP.1 a0 w0 (VQP g o m cap k k1 k2 k4 k8 k16 b p B) Fre.Kept 12 := by
 intro E w hc hf hE hV hN hS o ho
 obtain rfl := Option.some.inj ho
 clear ho
 simp only [opsQP, List.getElem_toArray, List.getElem_cons_succ, List.getElem_cons_zero]
 have b5 : E (.tmp 5) = .int .i64 (k : Int) := (hE 5 (by kernel_rfl)).trans g95
 clear g95
 clear hp0 hp1 hp2 hp3 hp4 h1 h2 h4 h8 h16
 refine Fre.Does.value (v := .int .i64 (k : Int)) (w' := w) ?_ ⟨rfl, Fre.Kept.refl _⟩
 go_simp
theorem stQP_13 (g o m cap k k1 k2 k4 k8 k16 : Nat) (b : List Nat) (p : Pg) (B : Nat) (a0 : Act)  (w0 : World) (hm : m = 256) (h1 : k1 = k + 1) (h2 : k2 = k + 2) (h4 : k4 = k + 4) (h8 : k8 = k + 8) (h16 : k16 = k + 16) (hk : k16 <= 256) (hcap : 256 <= cap) (hlen : b.length = 256) (hb : BytesAt w0 (some ⟨g, o, none⟩) cap b) (hp0 : p.kind = b.getD k 0) (hp1 : p.cls = b.getD k1 0) (hp2 : p.run = leN ((b.drop k2).take (k4 - k2))) (hp3 : p.size = leN ((b.drop k4).take (k8 - k4))) (hp4 : p.ser = leN ((b.drop k8).take (k16 - k8))) (hB : B <= w0.heap.size) : Fre.StepB Tryz.prog opsQP.1 a0 w0 (VQP g o m cap k k1 k2 k4 k8 k16 b p B) Fre.Kept 13 := by
 intro E w hc hf hE hV hN hS o ho
 obtain rfl := Option.some.inj ho
 clear ho
 simp only [opsQP, List.getElem_toArray, List.getElem_cons_succ, List.getElem_cons_zero]
 have d12 := hV 12 23 (by kernel_rfl) (by kernel_rfl)
 have d12 : E (.tmp 23) = .int .i64 (k : Int) := d12
 have e1 : (k : Int) + 2 = (k2 : Int) := by omega
 have e2 : IntKind.i64.wrap (k2 : Int) = (k2 : Int) := IntWalk.i64_in _ (by omega)
 clear hp0 hp1 hp2 hp3 hp4 h1 h2 h4 h8 h16
 refine Fre.Does.value (v := .int .i64 (k2 : Int)) (w' := w) ?_ ⟨rfl, Fre.Kept.refl _⟩
 go_simp
theorem stQP_14 (g o m cap k k1 k2 k4 k8 k16 : Nat) (b : List Nat) (p : Pg) (B : Nat) (a0 : Act) (g95 : a0.tmps.getD 5 undef = .int .i64 (k : Int)) (w0 : World) (hm : m = 256) (h1 : k1 = k + 1) (h2 : k2 = k + 2) (h4 : k4 = k + 4) (h8 : k8 = k + 8) (h16 : k16 = k + 16) (hk : k16 <= 256) (hcap : 256 <= cap) (hlen : b.length = 256) (hb : BytesAt w0 (some ⟨g, o, none⟩) cap b) (hp0 : p.kind = b.getD k 0) (hp1 : p.cls = b.getD k1 0) (hp2 : p.run = leN ((b.drop k2).take (k4 - k2))) (hp3 : p.size = leN ((b.drop k4).take (k8 - k4))) (hp4 : p.ser = leN ((b.drop k8).take (k16 - k8))) (hB : B <= w0.heap.size) : Fre.StepB Tryz.prog opsQP.1 a0 w0 (VQP g o m cap k k1 k2 k4 k8 k16 b p B) Fre.Kept 14 := by
 intro E w hc hf hE hV hN hS o ho
 obtain rfl := Option.some.inj ho
 clear ho
 simp only [opsQP, List.getElem_toArray, List.getElem_cons_succ, List.getElem_cons_zero]
 have b5 : E (.tmp 5) = .int .i64 (k : Int) := (hE 5 (by kernel_rfl)).trans g95
 clear g95
 clear hp0 hp1 hp2 hp3 hp4 h1 h2 h4 h8 h16
 refine Fre.Does.value (v := .int .i64 (k : Int)) (w' := w) ?_ ⟨rfl, Fre.Kept.refl _⟩
 go_simp
theorem stQP_15 (g o m cap k k1 k2 k4 k8 k16 : Nat) (b : List Nat) (p : Pg) (B : Nat) (a0 : Act)  (w0 : World) (hm : m = 256) (h1 : k1 = k + 1) (h2 : k2 = k + 2) (h4 : k4 = k + 4) (h8 : k8 = k + 8) (h16 : k16 = k + 16) (hk : k16 <= 256) (hcap : 256 <= cap) (hlen : b.length = 256) (hb : BytesAt w0 (some ⟨g, o, none⟩) cap b) (hp0 : p.kind = b.getD k 0) (hp1 : p.cls = b.getD k1 0) (hp2 : p.run = leN ((b.drop k2).take (k4 - k2))) (hp3 : p.size = leN ((b.drop k4).take (k8 - k4))) (hp4 : p.ser = leN ((b.drop k8).take (k16 - k8))) (hB : B <= w0.heap.size) : Fre.StepB Tryz.prog opsQP.1 a0 w0 (VQP g o m cap k k1 k2 k4 k8 k16 b p B) Fre.Kept 15 := by
 intro E w hc hf hE hV hN hS o ho
 obtain rfl := Option.some.inj ho
 clear ho
 simp only [opsQP, List.getElem_toArray, List.getElem_cons_succ, List.getElem_cons_zero]
 have d14 := hV 14 25 (by kernel_rfl) (by kernel_rfl)
 have d14 : E (.tmp 25) = .int .i64 (k : Int) := d14
 have e1 : (k : Int) + 4 = (k4 : Int) := by omega
 have e2 : IntKind.i64.wrap (k4 : Int) = (k4 : Int) := IntWalk.i64_in _ (by omega)
 clear hp0 hp1 hp2 hp3 hp4 h1 h2 h4 h8 h16
 refine Fre.Does.value (v := .int .i64 (k4 : Int)) (w' := w) ?_ ⟨rfl, Fre.Kept.refl _⟩
 go_simp
theorem stQP_16 (g o m cap k k1 k2 k4 k8 k16 : Nat) (b : List Nat) (p : Pg) (B : Nat) (a0 : Act)  (w0 : World) (hm : m = 256) (h1 : k1 = k + 1) (h2 : k2 = k + 2) (h4 : k4 = k + 4) (h8 : k8 = k + 8) (h16 : k16 = k + 16) (hk : k16 <= 256) (hcap : 256 <= cap) (hlen : b.length = 256) (hb : BytesAt w0 (some ⟨g, o, none⟩) cap b) (hp0 : p.kind = b.getD k 0) (hp1 : p.cls = b.getD k1 0) (hp2 : p.run = leN ((b.drop k2).take (k4 - k2))) (hp3 : p.size = leN ((b.drop k4).take (k8 - k4))) (hp4 : p.ser = leN ((b.drop k8).take (k16 - k8))) (hB : B <= w0.heap.size) : Fre.StepB Tryz.prog opsQP.1 a0 w0 (VQP g o m cap k k1 k2 k4 k8 k16 b p B) Fre.Kept 16 := by
 intro E w hc hf hE hV hN hS o ho
 obtain rfl := Option.some.inj ho
 clear ho
 simp only [opsQP, List.getElem_toArray, List.getElem_cons_succ, List.getElem_cons_zero]
 have d11 := hV 11 22 (by kernel_rfl) (by kernel_rfl)
 have d11 : E (.tmp 22) = .slice (some ⟨g, o, none⟩) m cap := d11
 have d13 := hV 13 24 (by kernel_rfl) (by kernel_rfl)
 have d13 : E (.tmp 24) = .int .i64 (k2 : Int) := d13
 have d15 := hV 15 26 (by kernel_rfl) (by kernel_rfl)
 have d15 : E (.tmp 26) = .int .i64 (k4 : Int) := d15
 have hr := run_sub g o m cap k2 k4 (by omega) (by omega) w
 refine Fre.Does.value (v := .slice (some ⟨g, subO o cap k2, none⟩) (k4 - k2) (cap - k2)) (w' := w) ?_ ⟨rfl, Fre.Kept.refl _⟩
 unfold execOp
 simp only [d11, d13, d15, Option.map_some, Option.map_none, Sem.run_bind, hr, Result.andThen_ok]
 rfl
theorem stQP_17 (g o m cap k k1 k2 k4 k8 k16 : Nat) (b : List Nat) (p : Pg) (B : Nat) (a0 : Act)  (w0 : World) (hm : m = 256) (h1 : k1 = k + 1) (h2 : k2 = k + 2) (h4 : k4 = k + 4) (h8 : k8 = k + 8) (h16 : k16 = k + 16) (hk : k16 <= 256) (hcap : 256 <= cap) (hlen : b.length = 256) (hb : BytesAt w0 (some ⟨g, o, none⟩) cap b) (hp0 : p.kind = b.getD k 0) (hp1 : p.cls = b.getD k1 0) (hp2 : p.run = leN ((b.drop k2).take (k4 - k2))) (hp3 : p.size = leN ((b.drop k4).take (k8 - k4))) (hp4 : p.ser = leN ((b.drop k8).take (k16 - k8))) (hB : B <= w0.heap.size) : Fre.StepB Tryz.prog opsQP.1 a0 w0 (VQP g o m cap k k1 k2 k4 k8 k16 b p B) Fre.Kept 17 := by
 intro E w hc hf hE hV hN hS o ho
 obtain rfl := Option.some.inj ho
 clear ho
 simp only [opsQP, List.getElem_toArray, List.getElem_cons_succ, List.getElem_cons_zero]
 have d16 := hV 16 27 (by kernel_rfl) (by kernel_rfl)
 have d16 : E (.tmp 27) = .slice (some ⟨g, subO o cap k2, none⟩) (k4 - k2) (cap - k2) := d16
 refine Fre.Does.enter (f := 58) (args := #[.slice (some ⟨g, subO o cap k2, none⟩) (k4 - k2) (cap - k2)]) (w' := w) ?_ ((rget_c (k4 - k2) (by omega) _ _ ((b.drop k2).take (k4 - k2)) (by rw [List.length_take, List.length_drop]; omega) w ((hb.sub (by omega) (by omega)).up hS (Nat.le_refl _))).mono ?_)
 ·clear hp0 hp1 hp2 hp3 hp4 h1 h2 h4 h8 h16; go_simp
 ·rintro e w' ⟨rfl, rfl⟩
  exact ⟨_, rfl, by show (_ : Value) = _; rw [hp2], Fre.Kept.refl _⟩
theorem stQP_18 (g o m cap k k1 k2 k4 k8 k16 : Nat) (b : List Nat) (p : Pg) (B : Nat) (a0 : Act)  (w0 : World) (hm : m = 256) (h1 : k1 = k + 1) (h2 : k2 = k + 2) (h4 : k4 = k + 4) (h8 : k8 = k + 8) (h16 : k16 = k + 16) (hk : k16 <= 256) (hcap : 256 <= cap) (hlen : b.length = 256) (hb : BytesAt w0 (some ⟨g, o, none⟩) cap b) (hp0 : p.kind = b.getD k 0) (hp1 : p.cls = b.getD k1 0) (hp2 : p.run = leN ((b.drop k2).take (k4 - k2))) (hp3 : p.size = leN ((b.drop k4).take (k8 - k4))) (hp4 : p.ser = leN ((b.drop k8).take (k16 - k8))) (hB : B <= w0.heap.size) : Fre.StepB Tryz.prog opsQP.1 a0 w0 (VQP g o m cap k k1 k2 k4 k8 k16 b p B) Fre.Kept 18 := by
 intro E w hc hf hE hV hN hS o ho
 obtain rfl := Option.some.inj ho
 clear ho
 simp only [opsQP, List.getElem_toArray, List.getElem_cons_succ, List.getElem_cons_zero]
 have d17 := hV 17 28 (by kernel_rfl) (by kernel_rfl)
 have d17 : E (.tmp 28) = .int .u64 (p.run : Int) := d17
 have hx : p.run < 18446744073709551616 / 4294967296 := by
  have h9 := leN_lt ((b.drop k2).take (k4 - k2)) (fun x hx => hb.1 x (List.mem_of_mem_drop (List.mem_of_mem_take hx)))
  have h8' : (2:Nat) ^ (8 * ((b.drop k2).take (k4 - k2)).length) <= 2 ^ 32 := Nat.pow_le_pow_right (by omega) (by rw [List.length_take]; omega)
  rw [hp2]; omega
 have e2 : IntKind.i64.wrap (p.run : Int) = (p.run : Int) := IntWalk.i64_in _ (by omega)
 clear hp0 hp1 hp2 hp3 hp4 h1 h2 h4 h8 h16
 refine Fre.Does.value (v := .int .i64 (p.run : Int)) (w' := w) ?_ ⟨rfl, Fre.Kept.refl _⟩
 go_simp
theorem stQP_19 (g o m cap k k1 k2 k4 k8 k16 : Nat) (b : List Nat) (p : Pg) (B : Nat) (a0 : Act) (g90 : a0.tmps.getD 0 undef = .slice (some ⟨g, o, none⟩) m cap) (w0 : World) (hm : m = 256) (h1 : k1 = k + 1) (h2 : k2 = k + 2) (h4 : k4 = k + 4) (h8 : k8 = k + 8) (h16 : k16 = k + 16) (hk : k16 <= 256) (hcap : 256 <= cap) (hlen : b.length = 256) (hb : BytesAt w0 (some ⟨g, o, none⟩) cap b) (hp0 : p.kind = b.getD k 0) (hp1 : p.cls = b.getD k1 0) (hp2 : p.run = leN ((b.drop k2).take (k4 - k2))) (hp3 : p.size = leN ((b.drop k4).take (k8 - k4))) (hp4 : p.ser = leN ((b.drop k8).take (k16 - k8))) (hB : B <= w0.heap.size) : Fre.StepB Tryz.prog opsQP.1 a0 w0 (VQP g o m cap k k1 k2 k4 k8 k16 b p B) Fre.Kept 19 := by
 intro E w hc hf hE hV hN hS o ho
 obtain rfl := Option.some.inj ho
 clear ho
 simp only [opsQP, List.getElem_toArray, List.getElem_cons_succ, List.getElem_cons_zero]
 have b0 : E (.tmp 0) = .slice (some ⟨g, o, none⟩) m cap := (hE 0 (by kernel_rfl)).trans g90
 clear g90
 clear hp0 hp1 hp2 hp3 hp4 h1 h2 h4 h8 h16
 refine Fre.Does.value (v := .slice (some ⟨g, o, none⟩) m cap) (w' := w) ?_ ⟨rfl, Fre.Kept.refl _⟩
 go_simp
theorem stQP_20 (g o m cap k k1 k2 k4 k8 k16 : Nat) (b : List Nat) (p : Pg) (B : Nat) (a0 : Act) (g95 : a0.tmps.getD 5 undef = .int .i64 (k : Int)) (w0 : World) (hm : m = 256) (h1 : k1 = k + 1) (h2 : k2 = k + 2) (h4 : k4 = k + 4) (h8 : k8 = k + 8) (h16 : k16 = k + 16) (hk : k16 <= 256) (hcap : 256 <= cap) (hlen : b.length = 256) (hb : BytesAt w0 (some ⟨g, o, none⟩) cap b) (hp0 : p.kind = b.getD k 0) (hp1 : p.cls = b.getD k1 0) (hp2 : p.run = leN ((b.drop k2).take (k4 - k2))) (hp3 : p.size = leN ((b.drop k4).take (k8 - k4))) (hp4 : p.ser = leN ((b.drop k8).take (k16 - k8))) (hB : B <= w0.heap.size) : Fre.StepB Tryz.prog opsQP.1 a0 w0 (VQP g o m cap k k1 k2 k4 k8 k16 b p B) Fre.Kept 20 := by
 intro E w hc hf hE hV hN hS o ho
 obtain rfl := Option.some.inj ho
 clear ho
 simp only [opsQP, List.getElem_toArray, List.getElem_cons_succ, List.getElem_cons_zero]
 have b5 : E (.tmp 5) = .int .i64 (k : Int) := (hE 5 (by kernel_rfl)).trans g95
 clear g95
 clear hp0 hp1 hp2 hp3 hp4 h1 h2 h4 h8 h16
 refine Fre.Does.value (v := .int .i64 (k : Int)) (w' := w) ?_ ⟨rfl, Fre.Kept.refl _⟩
 go_simp
theorem stQP_21 (g o m cap k k1 k2 k4 k8 k16 : Nat) (b : List Nat) (p : Pg) (B : Nat) (a0 : Act)  (w0 : World) (hm : m = 256) (h1 : k1 = k + 1) (h2 : k2 = k + 2) (h4 : k4 = k + 4) (h8 : k8 = k + 8) (h16 : k16 = k + 16) (hk : k16 <= 256) (hcap : 256 <= cap) (hlen : b.length = 256) (hb : BytesAt w0 (some ⟨g, o, none⟩) cap b) (hp0 : p.kind = b.getD k 0) (hp1 : p.cls = b.getD k1 0) (hp2 : p.run = leN ((b.drop k2).take (k4 - k2))) (hp3 : p.size = leN ((b.drop k4).take (k8 - k4))) (hp4 : p.ser = leN ((b.drop k8).take (k16 - k8))) (hB : B <= w0.heap.size) : Fre.StepB Tryz.prog opsQP.1 a0 w0 (VQP g o m cap k k1 k2 k4 k8 k16 b p B) Fre.Kept 21 := by
 intro E w hc hf hE hV hN hS o ho
 obtain rfl := Option.some.inj ho
 clear ho
 simp only [opsQP, List.getElem_toArray, List.getElem_cons_succ, List.getElem_cons_zero]
 have d20 := hV 20 31 (by kernel_rfl) (by kernel_rfl)
 have d20 : E (.tmp 31) = .int .i64 (k : Int) := d20
 have e1 : (k : Int) + 4 = (k4 : Int) := by omega
 have e2 : IntKind.i64.wrap (k4 : Int) = (k4 : Int) := IntWalk.i64_in _ (by omega)
 clear hp0 hp1 hp2 hp3 hp4 h1 h2 h4 h8 h16
 refine Fre.Does.value (v := .int .i64 (k4 : Int)) (w' := w) ?_ ⟨rfl, Fre.Kept.refl _⟩
 go_simp
theorem stQP_22 (g o m cap k k1 k2 k4 k8 k16 : Nat) (b : List Nat) (p : Pg) (B : Nat) (a0 : Act) (g95 : a0.tmps.getD 5 undef = .int .i64 (k : Int)) (w0 : World) (hm : m = 256) (h1 : k1 = k + 1) (h2 : k2 = k + 2) (h4 : k4 = k + 4) (h8 : k8 = k + 8) (h16 : k16 = k + 16) (hk : k16 <= 256) (hcap : 256 <= cap) (hlen : b.length = 256) (hb : BytesAt w0 (some ⟨g, o, none⟩) cap b) (hp0 : p.kind = b.getD k 0) (hp1 : p.cls = b.getD k1 0) (hp2 : p.run = leN ((b.drop k2).take (k4 - k2))) (hp3 : p.size = leN ((b.drop k4).take (k8 - k4))) (hp4 : p.ser = leN ((b.drop k8).take (k16 - k8))) (hB : B <= w0.heap.size) : Fre.StepB Tryz.prog opsQP.1 a0 w0 (VQP g o m cap k k1 k2 k4 k8 k16 b p B) Fre.Kept 22 := by
 intro E w hc hf hE hV hN hS o ho
 obtain rfl := Option.some.inj ho
 clear ho
 simp only [opsQP, List.getElem_toArray, List.getElem_cons_succ, List.getElem_cons_zero]
 have b5 : E (.tmp 5) = .int .i64 (k : Int) := (hE 5 (by kernel_rfl)).trans g95
 clear g95
 clear hp0 hp1 hp2 hp3 hp4 h1 h2 h4 h8 h16
 refine Fre.Does.value (v := .int .i64 (k : Int)) (w' := w) ?_ ⟨rfl, Fre.Kept.refl _⟩
 go_simp
theorem stQP_23 (g o m cap k k1 k2 k4 k8 k16 : Nat) (b : List Nat) (p : Pg) (B : Nat) (a0 : Act)  (w0 : World) (hm : m = 256) (h1 : k1 = k + 1) (h2 : k2 = k + 2) (h4 : k4 = k + 4) (h8 : k8 = k + 8) (h16 : k16 = k + 16) (hk : k16 <= 256) (hcap : 256 <= cap) (hlen : b.length = 256) (hb : BytesAt w0 (some ⟨g, o, none⟩) cap b) (hp0 : p.kind = b.getD k 0) (hp1 : p.cls = b.getD k1 0) (hp2 : p.run = leN ((b.drop k2).take (k4 - k2))) (hp3 : p.size = leN ((b.drop k4).take (k8 - k4))) (hp4 : p.ser = leN ((b.drop k8).take (k16 - k8))) (hB : B <= w0.heap.size) : Fre.StepB Tryz.prog opsQP.1 a0 w0 (VQP g o m cap k k1 k2 k4 k8 k16 b p B) Fre.Kept 23 := by
 intro E w hc hf hE hV hN hS o ho
 obtain rfl := Option.some.inj ho
 clear ho
 simp only [opsQP, List.getElem_toArray, List.getElem_cons_succ, List.getElem_cons_zero]
 have d22 := hV 22 33 (by kernel_rfl) (by kernel_rfl)
 have d22 : E (.tmp 33) = .int .i64 (k : Int) := d22
 have e1 : (k : Int) + 8 = (k8 : Int) := by omega
 have e2 : IntKind.i64.wrap (k8 : Int) = (k8 : Int) := IntWalk.i64_in _ (by omega)
 clear hp0 hp1 hp2 hp3 hp4 h1 h2 h4 h8 h16
 refine Fre.Does.value (v := .int .i64 (k8 : Int)) (w' := w) ?_ ⟨rfl, Fre.Kept.refl _⟩
 go_simp
theorem stQP_24 (g o m cap k k1 k2 k4 k8 k16 : Nat) (b : List Nat) (p : Pg) (B : Nat) (a0 : Act)  (w0 : World) (hm : m = 256) (h1 : k1 = k + 1) (h2 : k2 = k + 2) (h4 : k4 = k + 4) (h8 : k8 = k + 8) (h16 : k16 = k + 16) (hk : k16 <= 256) (hcap : 256 <= cap) (hlen : b.length = 256) (hb : BytesAt w0 (some ⟨g, o, none⟩) cap b) (hp0 : p.kind = b.getD k 0) (hp1 : p.cls = b.getD k1 0) (hp2 : p.run = leN ((b.drop k2).take (k4 - k2))) (hp3 : p.size = leN ((b.drop k4).take (k8 - k4))) (hp4 : p.ser = leN ((b.drop k8).take (k16 - k8))) (hB : B <= w0.heap.size) : Fre.StepB Tryz.prog opsQP.1 a0 w0 (VQP g o m cap k k1 k2 k4 k8 k16 b p B) Fre.Kept 24 := by
 intro E w hc hf hE hV hN hS o ho
 obtain rfl := Option.some.inj ho
 clear ho
 simp only [opsQP, List.getElem_toArray, List.getElem_cons_succ, List.getElem_cons_zero]
 have d19 := hV 19 30 (by kernel_rfl) (by kernel_rfl)
 have d19 : E (.tmp 30) = .slice (some ⟨g, o, none⟩) m cap := d19
 have d21 := hV 21 32 (by kernel_rfl) (by kernel_rfl)
 have d21 : E (.tmp 32) = .int .i64 (k4 : Int) := d21
 have d23 := hV 23 34 (by kernel_rfl) (by kernel_rfl)
 have d23 : E (.tmp 34) = .int .i64 (k8 : Int) := d23
 have hr := run_sub g o m cap k4 k8 (by omega) (by omega) w
 refine Fre.Does.value (v := .slice (some ⟨g, subO o cap k4, none⟩) (k8 - k4) (cap - k4)) (w' := w) ?_ ⟨rfl, Fre.Kept.refl _⟩
 unfold execOp
 simp only [d19, d21, d23, Option.map_some, Option.map_none, Sem.run_bind, hr, Result.andThen_ok]
 rfl
theorem stQP_25 (g o m cap k k1 k2 k4 k8 k16 : Nat) (b : List Nat) (p : Pg) (B : Nat) (a0 : Act)  (w0 : World) (hm : m = 256) (h1 : k1 = k + 1) (h2 : k2 = k + 2) (h4 : k4 = k + 4) (h8 : k8 = k + 8) (h16 : k16 = k + 16) (hk : k16 <= 256) (hcap : 256 <= cap) (hlen : b.length = 256) (hb : BytesAt w0 (some ⟨g, o, none⟩) cap b) (hp0 : p.kind = b.getD k 0) (hp1 : p.cls = b.getD k1 0) (hp2 : p.run = leN ((b.drop k2).take (k4 - k2))) (hp3 : p.size = leN ((b.drop k4).take (k8 - k4))) (hp4 : p.ser = leN ((b.drop k8).take (k16 - k8))) (hB : B <= w0.heap.size) : Fre.StepB Tryz.prog opsQP.1 a0 w0 (VQP g o m cap k k1 k2 k4 k8 k16 b p B) Fre.Kept 25 := by
 intro E w hc hf hE hV hN hS o ho
 obtain rfl := Option.some.inj ho
 clear ho
 simp only [opsQP, List.getElem_toArray, List.getElem_cons_succ, List.getElem_cons_zero]
 have d24 := hV 24 35 (by kernel_rfl) (by kernel_rfl)
 have d24 : E (.tmp 35) = .slice (some ⟨g, subO o cap k4, none⟩) (k8 - k4) (cap - k4) := d24
 refine Fre.Does.enter (f := 58) (args := #[.slice (some ⟨g, subO o cap k4, none⟩) (k8 - k4) (cap - k4)]) (w' := w) ?_ ((rget_c (k8 - k4) (by omega) _ _ ((b.drop k4).take (k8 - k4)) (by rw [List.length_take, List.length_drop]; omega) w ((hb.sub (by omega) (by omega)).up hS (Nat.le_refl _))).mono ?_)
 ·clear hp0 hp1 hp2 hp3 hp4 h1 h2 h4 h8 h16; go_simp
 ·rintro e w' ⟨rfl, rfl⟩
  exact ⟨_, rfl, by show (_ : Value) = _; rw [hp3], Fre.Kept.refl _⟩
theorem stQP_26 (g o m cap k k1 k2 k4 k8 k16 : Nat) (b : List Nat) (p : Pg) (B : Nat) (a0 : Act)  (w0 : World) (hm : m = 256) (h1 : k1 = k + 1) (h2 : k2 = k + 2) (h4 : k4 = k + 4) (h8 : k8 = k + 8) (h16 : k16 = k + 16) (hk : k16 <= 256) (hcap : 256 <= cap) (hlen : b.length = 256) (hb : BytesAt w0 (some ⟨g, o, none⟩) cap b) (hp0 : p.kind = b.getD k 0) (hp1 : p.cls = b.getD k1 0) (hp2 : p.run = leN ((b.drop k2).take (k4 - k2))) (hp3 : p.size = leN ((b.drop k4).take (k8 - k4))) (hp4 : p.ser = leN ((b.drop k8).take (k16 - k8))) (hB : B <= w0.heap.size) : Fre.StepB Tryz.prog opsQP.1 a0 w0 (VQP g o m cap k k1 k2 k4 k8 k16 b p B) Fre.Kept 26 := by
 intro E w hc hf hE hV hN hS o ho
 obtain rfl := Option.some.inj ho
 clear ho
 simp only [opsQP, List.getElem_toArray, List.getElem_cons_succ, List.getElem_cons_zero]
 have d25 := hV 25 36 (by kernel_rfl) (by kernel_rfl)
 have d25 : E (.tmp 36) = .int .u64 (p.size : Int) := d25
 have hx : p.size < 18446744073709551616 / 4294967296 := by
  have h9 := leN_lt ((b.drop k4).take (k8 - k4)) (fun x hx => hb.1 x (List.mem_of_mem_drop (List.mem_of_mem_take hx)))
  have h8' : (2:Nat) ^ (8 * ((b.drop k4).take (k8 - k4)).length) <= 2 ^ 32 := Nat.pow_le_pow_right (by omega) (by rw [List.length_take]; omega)
  rw [hp3]; omega
 have e2 : IntKind.i64.wrap (p.size : Int) = (p.size : Int) := IntWalk.i64_in _ (by omega)
 clear hp0 hp1 hp2 hp3 hp4 h1 h2 h4 h8 h16
 refine Fre.Does.value (v := .int .i64 (p.size : Int)) (w' := w) ?_ ⟨rfl, Fre.Kept.refl _⟩
 go_simp
theorem stQP_27 (g o m cap k k1 k2 k4 k8 k16 : Nat) (b : List Nat) (p : Pg) (B : Nat) (a0 : Act) (g90 : a0.tmps.getD 0 undef = .slice (some ⟨g, o, none⟩) m cap) (w0 : World) (hm : m = 256) (h1 : k1 = k + 1) (h2 : k2 = k + 2) (h4 : k4 = k + 4) (h8 : k8 = k + 8) (h16 : k16 = k + 16) (hk : k16 <= 256) (hcap : 256 <= cap) (hlen : b.length = 256) (hb : BytesAt w0 (some ⟨g, o, none⟩) cap b) (hp0 : p.kind = b.getD k 0) (hp1 : p.cls = b.getD k1 0) (hp2 : p.run = leN ((b.drop k2).take (k4 - k2))) (hp3 : p.size = leN ((b.drop k4).take (k8 - k4))) (hp4 : p.ser = leN ((b.drop k8).take (k16 - k8))) (hB : B <= w0.heap.size) : Fre.StepB Tryz.prog opsQP.1 a0 w0 (VQP g o m cap k k1 k2 k4 k8 k16 b p B) Fre.Kept 27 := by
 intro E w hc hf hE hV hN hS o ho
 obtain rfl := Option.some.inj ho
 clear ho
 simp only [opsQP, List.getElem_toArray, List.getElem_cons_succ, List.getElem_cons_zero]
 have b0 : E (.tmp 0) = .slice (some ⟨g, o, none⟩) m cap := (hE 0 (by kernel_rfl)).trans g90
 clear g90
 clear hp0 hp1 hp2 hp3 hp4 h1 h2 h4 h8 h16
 refine Fre.Does.value (v := .slice (some ⟨g, o, none⟩) m cap) (w' := w) ?_ ⟨rfl, Fre.Kept.refl _⟩
 go_simp
theorem stQP_28 (g o m cap k k1 k2 k4 k8 k16 : Nat) (b : List Nat) (p : Pg) (B : Nat) (a0 : Act) (g95 : a0.tmps.getD 5 undef = .int .i64 (k : Int)) (w0 : World) (hm : m = 256) (h1 : k1 = k + 1) (h2 : k2 = k + 2) (h4 : k4 = k + 4) (h8 : k8 = k + 8) (h16 : k16 = k + 16) (hk : k16 <= 256) (hcap : 256 <= cap) (hlen : b.length = 256) (hb : BytesAt w0 (some ⟨g, o, none⟩) cap b) (hp0 : p.kind = b.getD k 0) (hp1 : p.cls = b.getD k1 0) (hp2 : p.run = leN ((b.drop k2).take (k4 - k2))) (hp3 : p.size = leN ((b.drop k4).take (k8 - k4))) (hp4 : p.ser = leN ((b.drop k8).take (k16 - k8))) (hB : B <= w0.heap.size) : Fre.StepB Tryz.prog opsQP.1 a0 w0 (VQP g o m cap k k1 k2 k4 k8 k16 b p B) Fre.Kept 28 := by
 intro E w hc hf hE hV hN hS o ho
 obtain rfl := Option.some.inj ho
 clear ho
 simp only [opsQP, List.getElem_toArray, List.getElem_cons_succ, List.getElem_cons_zero]
 have b5 : E (.tmp 5) = .int .i64 (k : Int) := (hE 5 (by kernel_rfl)).trans g95
 clear g95
 clear hp0 hp1 hp2 hp3 hp4 h1 h2 h4 h8 h16
 refine Fre.Does.value (v := .int .i64 (k : Int)) (w' := w) ?_ ⟨rfl, Fre.Kept.refl _⟩
 go_simp
theorem stQP_29 (g o m cap k k1 k2 k4 k8 k16 : Nat) (b : List Nat) (p : Pg) (B : Nat) (a0 : Act)  (w0 : World) (hm : m = 256) (h1 : k1 = k + 1) (h2 : k2 = k + 2) (h4 : k4 = k + 4) (h8 : k8 = k + 8) (h16 : k16 = k + 16) (hk : k16 <= 256) (hcap : 256 <= cap) (hlen : b.length = 256) (hb : BytesAt w0 (some ⟨g, o, none⟩) cap b) (hp0 : p.kind = b.getD k 0) (hp1 : p.cls = b.getD k1 0) (hp2 : p.run = leN ((b.drop k2).take (k4 - k2))) (hp3 : p.size = leN ((b.drop k4).take (k8 - k4))) (hp4 : p.ser = leN ((b.drop k8).take (k16 - k8))) (hB : B <= w0.heap.size) : Fre.StepB Tryz.prog opsQP.1 a0 w0 (VQP g o m cap k k1 k2 k4 k8 k16 b p B) Fre.Kept 29 := by
 intro E w hc hf hE hV hN hS o ho
 obtain rfl := Option.some.inj ho
 clear ho
 simp only [opsQP, List.getElem_toArray, List.getElem_cons_succ, List.getElem_cons_zero]
 have d28 := hV 28 39 (by kernel_rfl) (by kernel_rfl)
 have d28 : E (.tmp 39) = .int .i64 (k : Int) := d28
 have e1 : (k : Int) + 8 = (k8 : Int) := by omega
 have e2 : IntKind.i64.wrap (k8 : Int) = (k8 : Int) := IntWalk.i64_in _ (by omega)
 clear hp0 hp1 hp2 hp3 hp4 h1 h2 h4 h8 h16
 refine Fre.Does.value (v := .int .i64 (k8 : Int)) (w' := w) ?_ ⟨rfl, Fre.Kept.refl _⟩
 go_simp
theorem stQP_30 (g o m cap k k1 k2 k4 k8 k16 : Nat) (b : List Nat) (p : Pg) (B : Nat) (a0 : Act) (g95 : a0.tmps.getD 5 undef = .int .i64 (k : Int)) (w0 : World) (hm : m = 256) (h1 : k1 = k + 1) (h2 : k2 = k + 2) (h4 : k4 = k + 4) (h8 : k8 = k + 8) (h16 : k16 = k + 16) (hk : k16 <= 256) (hcap : 256 <= cap) (hlen : b.length = 256) (hb : BytesAt w0 (some ⟨g, o, none⟩) cap b) (hp0 : p.kind = b.getD k 0) (hp1 : p.cls = b.getD k1 0) (hp2 : p.run = leN ((b.drop k2).take (k4 - k2))) (hp3 : p.size = leN ((b.drop k4).take (k8 - k4))) (hp4 : p.ser = leN ((b.drop k8).take (k16 - k8))) (hB : B <= w0.heap.size) : Fre.StepB Tryz.prog opsQP.1 a0 w0 (VQP g o m cap k k1 k2 k4 k8 k16 b p B) Fre.Kept 30 := by
 intro E w hc hf hE hV hN hS o ho
 obtain rfl := Option.some.inj ho
 clear ho
 simp only [opsQP, List.getElem_toArray, List.getElem_cons_succ, List.getElem_cons_zero]
 have b5 : E (.tmp 5) = .int .i64 (k : Int) := (hE 5 (by kernel_rfl)).trans g95
 clear g95
 clear hp0 hp1 hp2 hp3 hp4 h1 h2 h4 h8 h16
 refine Fre.Does.value (v := .int .i64 (k : Int)) (w' := w) ?_ ⟨rfl, Fre.Kept.refl _⟩
 go_simp
theorem stQP_31 (g o m cap k k1 k2 k4 k8 k16 : Nat) (b : List Nat) (p : Pg) (B : Nat) (a0 : Act)  (w0 : World) (hm : m = 256) (h1 : k1 = k + 1) (h2 : k2 = k + 2) (h4 : k4 = k + 4) (h8 : k8 = k + 8) (h16 : k16 = k + 16) (hk : k16 <= 256) (hcap : 256 <= cap) (hlen : b.length = 256) (hb : BytesAt w0 (some ⟨g, o, none⟩) cap b) (hp0 : p.kind = b.getD k 0) (hp1 : p.cls = b.getD k1 0) (hp2 : p.run = leN ((b.drop k2).take (k4 - k2))) (hp3 : p.size = leN ((b.drop k4).take (k8 - k4))) (hp4 : p.ser = leN ((b.drop k8).take (k16 - k8))) (hB : B <= w0.heap.size) : Fre.StepB Tryz.prog opsQP.1 a0 w0 (VQP g o m cap k k1 k2 k4 k8 k16 b p B) Fre.Kept 31 := by
 intro E w hc hf hE hV hN hS o ho
 obtain rfl := Option.some.inj ho
 clear ho
 simp only [opsQP, List.getElem_toArray, List.getElem_cons_succ, List.getElem_cons_zero]
 have d30 := hV 30 41 (by kernel_rfl) (by kernel_rfl)
 have d30 : E (.tmp 41) = .int .i64 (k : Int) := d30
 have e1 : (k : Int) + 16 = (k16 : Int) := by omega
 have e2 : IntKind.i64.wrap (k16 : Int) = (k16 : Int) := IntWalk.i64_in _ (by omega)
 clear hp0 hp1 hp2 hp3 hp4 h1 h2 h4 h8 h16
 refine Fre.Does.value (v := .int .i64 (k16 : Int)) (w' := w) ?_ ⟨rfl, Fre.Kept.refl _⟩
 go_simp
theorem stQP_32 (g o m cap k k1 k2 k4 k8 k16 : Nat) (b : List Nat) (p : Pg) (B : Nat) (a0 : Act)  (w0 : World) (hm : m = 256) (h1 : k1 = k + 1) (h2 : k2 = k + 2) (h4 : k4 = k + 4) (h8 : k8 = k + 8) (h16 : k16 = k + 16) (hk : k16 <= 256) (hcap : 256 <= cap) (hlen : b.length = 256) (hb : BytesAt w0 (some ⟨g, o, none⟩) cap b) (hp0 : p.kind = b.getD k 0) (hp1 : p.cls = b.getD k1 0) (hp2 : p.run = leN ((b.drop k2).take (k4 - k2))) (hp3 : p.size = leN ((b.drop k4).take (k8 - k4))) (hp4 : p.ser = leN ((b.drop k8).take (k16 - k8))) (hB : B <= w0.heap.size) : Fre.StepB Tryz.prog opsQP.1 a0 w0 (VQP g o m cap k k1 k2 k4 k8 k16 b p B) Fre.Kept 32 := by
 intro E w hc hf hE hV hN hS o ho
 obtain rfl := Option.some.inj ho
 clear ho
 simp only [opsQP, List.getElem_toArray, List.getElem_cons_succ, List.getElem_cons_zero]
 have d27 := hV 27 38 (by kernel_rfl) (by kernel_rfl)
 have d27 : E (.tmp 38) = .slice (some ⟨g, o, none⟩) m cap := d27
 have d29 := hV 29 40 (by kernel_rfl) (by kernel_rfl)
 have d29 : E (.tmp 40) = .int .i64 (k8 : Int) := d29
 have d31 := hV 31 42 (by kernel_rfl) (by kernel_rfl)
 have d31 : E (.tmp 42) = .int .i64 (k16 : Int) := d31
 have hr := run_sub g o m cap k8 k16 (by omega) (by omega) w
 refine Fre.Does.value (v := .slice (some ⟨g, subO o cap k8, none⟩) (k16 - k8) (cap - k8)) (w' := w) ?_ ⟨rfl, Fre.Kept.refl _⟩
 unfold execOp
 simp only [d27, d29, d31, Option.map_some, Option.map_none, Sem.run_bind, hr, Result.andThen_ok]
 rfl
theorem stQP_33 (g o m cap k k1 k2 k4 k8 k16 : Nat) (b : List Nat) (p : Pg) (B : Nat) (a0 : Act)  (w0 : World) (hm : m = 256) (h1 : k1 = k + 1) (h2 : k2 = k + 2) (h4 : k4 = k + 4) (h8 : k8 = k + 8) (h16 : k16 = k + 16) (hk : k16 <= 256) (hcap : 256 <= cap) (hlen : b.length = 256) (hb : BytesAt w0 (some ⟨g, o, none⟩) cap b) (hp0 : p.kind = b.getD k 0) (hp1 : p.cls = b.getD k1 0) (hp2 : p.run = leN ((b.drop k2).take (k4 - k2))) (hp3 : p.size = leN ((b.drop k4).take (k8 - k4))) (hp4 : p.ser = leN ((b.drop k8).take (k16 - k8))) (hB : B <= w0.heap.size) : Fre.StepB Tryz.prog opsQP.1 a0 w0 (VQP g o m cap k k1 k2 k4 k8 k16 b p B) Fre.Kept 33 := by
 intro E w hc hf hE hV hN hS o ho
 obtain rfl := Option.some.inj ho
 clear ho
 simp only [opsQP, List.getElem_toArray, List.getElem_cons_succ, List.getElem_cons_zero]
 have d32 := hV 32 43 (by kernel_rfl) (by kernel_rfl)
 have d32 : E (.tmp 43) = .slice (some ⟨g, subO o cap k8, none⟩) (k16 - k8) (cap - k8) := d32
 refine Fre.Does.enter (f := 58) (args := #[.slice (some ⟨g, subO o cap k8, none⟩) (k16 - k8) (cap - k8)]) (w' := w) ?_ ((rget_c (k16 - k8) (by omega) _ _ ((b.drop k8).take (k16 - k8)) (by rw [List.length_take, List.length_drop]; omega) w ((hb.sub (by omega) (by omega)).up hS (Nat.le_refl _))).mono ?_)
 ·clear hp0 hp1 hp2 hp3 hp4 h1 h2 h4 h8 h16; go_simp
 ·rintro e w' ⟨rfl, rfl⟩
  exact ⟨_, rfl, by show (_ : Value) = _; rw [hp4], Fre.Kept.refl _⟩
theorem stQP_34 (g o m cap k k1 k2 k4 k8 k16 : Nat) (b : List Nat) (p : Pg) (B : Nat) (a0 : Act)  (w0 : World) (hm : m = 256) (h1 : k1 = k + 1) (h2 : k2 = k + 2) (h4 : k4 = k + 4) (h8 : k8 = k + 8) (h16 : k16 = k + 16) (hk : k16 <= 256) (hcap : 256 <= cap) (hlen : b.length = 256) (hb : BytesAt w0 (some ⟨g, o, none⟩) cap b) (hp0 : p.kind = b.getD k 0) (hp1 : p.cls = b.getD k1 0) (hp2 : p.run = leN ((b.drop k2).take (k4 - k2))) (hp3 : p.size = leN ((b.drop k4).take (k8 - k4))) (hp4 : p.ser = leN ((b.drop k8).take (k16 - k8))) (hB : B <= w0.heap.size) : Fre.StepB Tryz.prog opsQP.1 a0 w0 (VQP g o m cap k k1 k2 k4 k8 k16 b p B) Fre.Kept 34 := by
 intro E w hc hf hE hV hN hS o ho
 obtain rfl := Option.some.inj ho
 clear ho
 simp only [opsQP, List.getElem_toArray, List.getElem_cons_succ, List.getElem_cons_zero]
 have d4 := hV 4 15 (by kernel_rfl) (by kernel_rfl)
 have d4 : E (.tmp 15) = .int .i64 (p.kind : Int) := d4
 have d10 := hV 10 21 (by kernel_rfl) (by kernel_rfl)
 have d10 : E (.tmp 21) = .int .i64 (p.cls : Int) := d10
 have d18 := hV 18 29 (by kernel_rfl) (by kernel_rfl)
 have d18 : E (.tmp 29) = .int .i64 (p.run : Int) := d18
 have d26 := hV 26 37 (by kernel_rfl) (by kernel_rfl)
 have d26 : E (.tmp 37) = .int .i64 (p.size : Int) := d26
 have d33 := hV 33 44 (by kernel_rfl) (by kernel_rfl)
 have d33 : E (.tmp 44) = .int .u64 (p.ser : Int) := d33
 clear hp0 hp1 hp2 hp3 hp4 h1 h2 h4 h8 h16
 refine Fre.Does.value (v := .agg (pgA p)) (w' := w) ?_ ⟨rfl, Fre.Kept.refl _⟩
 unfold pgA
 go_simp
theorem stQP_35 (g o m cap k k1 k2 k4 k8 k16 : Nat) (b : List Nat) (p : Pg) (B : Nat) (a0 : Act)  (w0 : World) (hm : m = 256) (h1 : k1 = k + 1) (h2 : k2 = k + 2) (h4 : k4 = k + 4) (h8 : k8 = k + 8) (h16 : k16 = k + 16) (hk : k16 <= 256) (hcap : 256 <= cap) (hlen : b.length = 256) (hb : BytesAt w0 (some ⟨g, o, none⟩) cap b) (hp0 : p.kind = b.getD k 0) (hp1 : p.cls = b.getD k1 0) (hp2 : p.run = leN ((b.drop k2).take (k4 - k2))) (hp3 : p.size = leN ((b.drop k4).take (k8 - k4))) (hp4 : p.ser = leN ((b.drop k8).take (k16 - k8))) (hB : B <= w0.heap.size) : Fre.StepB Tryz.prog opsQP.1 a0 w0 (VQP g o m cap k k1 k2 k4 k8 k16 b p B) Fre.Kept 35 := by
 intro E w hc hf hE hV hN hS o ho
 obtain rfl := Option.some.inj ho
 clear ho
 simp only [opsQP, List.getElem_toArray, List.getElem_cons_succ, List.getElem_cons_zero]
 refine Fre.Does.value (v := .pointer (some ⟨w.heap.size, 0, none⟩)) (w' := w.alloc (.cells #[.int .i64 0, .int .i64 0, .int .i64 0, .int .i64 0, .int .u64 0] 78)) ?_ ⟨⟨_, rfl, Nat.le_trans hB hS.size, heap_new' _ _⟩, below_box _ _⟩
 go_simp
theorem kpQP (g o m cap k k1 k2 k4 k8 k16 : Nat) (b : List Nat) (p : Pg) (B : Nat) : ∀ j v w w', j < 36 -> VQP g o m cap k k1 k2 k4 k8 k16 b p B j v w -> Fre.Kept w w' -> VQP g o m cap k k1 k2 k4 k8 k16 b p B j v w' := by
 intro j v w w' hj h hs
 have hc : j = 0 \/ j = 1 \/ j = 2 \/ j = 3 \/ j = 4 \/ j = 5 \/ j = 6 \/ j = 7 \/ j = 8 \/ j = 9 \/ j = 10 \/ j = 11 \/ j = 12 \/ j = 13 \/ j = 14 \/ j = 15 \/ j = 16 \/ j = 17 \/ j = 18 \/ j = 19 \/ j = 20 \/ j = 21 \/ j = 22 \/ j = 23 \/ j = 24 \/ j = 25 \/ j = 26 \/ j = 27 \/ j = 28 \/ j = 29 \/ j = 30 \/ j = 31 \/ j = 32 \/ j = 33 \/ j = 34 \/ j = 35 := by omega
 rcases hc with rfl | rfl | rfl | rfl | rfl | rfl | rfl | rfl | rfl | rfl | rfl | rfl | rfl | rfl | rfl | rfl | rfl | rfl | rfl | rfl | rfl | rfl | rfl | rfl | rfl | rfl | rfl | rfl | rfl | rfl | rfl | rfl | rfl | rfl | rfl | rfl
 ·exact h
 ·exact h
 ·exact h
 ·exact h
 ·exact h
 ·exact h
 ·exact h
 ·exact h
 ·exact h
 ·exact h
 ·exact h
 ·exact h
 ·exact h
 ·exact h
 ·exact h
 ·exact h
 ·exact h
 ·exact h
 ·exact h
 ·exact h
 ·exact h
 ·exact h
 ·exact h
 ·exact h
 ·exact h
 ·exact h
 ·exact h
 ·exact h
 ·exact h
 ·exact h
 ·exact h
 ·exact h
 ·exact h
 ·exact h
 ·exact h
 ·change ∃ b, v = .pointer (some ⟨b, 0, none⟩) /\ B <= b /\ w.heap[b]? = some (.cells #[.int .i64 0, .int .i64 0, .int .i64 0, .int .i64 0, .int .u64 0] 78 (0, 0)) at h
  obtain ⟨b, h1, h2, h3⟩ := h
  exact ⟨b, h1, h2, (hs.block _ (lt_of_block h3)).trans h3⟩
section
variable {u1 u2 u3 u4 u6 u7 u8 u9 u10 u11 u12 u13 u14 u15 u16 u17 u18 u19 u20 u21 u22 u23 u24 u25 u26 u27 u28 u29 u30 u31 u32 u33 u34 u35 u36 u37 u38 u39 u40 u41 u42 u43 u44 u45 u46 u47 u48 u49 u50 u51 u52 u53 : Value}
theorem finQP (g o m cap k k1 k2 k4 k8 k16 : Nat) (b : List Nat) (p : Pg) (B : Nat) (vs : Nat -> Value) : Fre.finT opsQP.1 vs #[.slice (some ⟨g, o, none⟩) m cap, u1, u2, u3, u4, .int .i64 (k : Int), u6, u7, u8, u9, u10, u11, u12, u13, u14, u15, u16, u17, u18, u19, u20, u21, u22, u23, u24, u25, u26, u27, u28, u29, u30, u31, u32, u33, u34, u35, u36, u37, u38, u39, u40, u41, u42, u43, u44, u45, u46, u47, u48, u49, u50, u51, u52, u53] 36 = #[.slice (some ⟨g, o, none⟩) m cap, u1, u2, u3, u4, .int .i64 (k : Int), vs 35, u7, u8, u9, u10, vs 0, vs 1, vs 2, vs 3, vs 4, vs 5, vs 6, vs 7, vs 8, vs 9, vs 10, vs 11, vs 12, vs 13, vs 14, vs 15, vs 16, vs 17, vs 18, vs 19, vs 20, vs 21, vs 22, vs 23, vs 24, vs 25, vs 26, vs 27, vs 28, vs 29, vs 30, vs 31, vs 32, vs 33, vs 34, u46, u47, u48, u49, u50, u51, u52, u53] := by kernel_rfl
theorem regionQP (g o m cap k k1 k2 k4 k8 k16 : Nat) (b : List Nat) (p : Pg) (B : Nat) (w0 : World) (hm : m = 256) (h1 : k1 = k + 1) (h2 : k2 = k + 2) (h4 : k4 = k + 4) (h8 : k8 = k + 8) (h16 : k16 = k + 16) (hk : k16 <= 256) (hcap : 256 <= cap) (hlen : b.length = 256) (hb : BytesAt w0 (some ⟨g, o, none⟩) cap b) (hp0 : p.kind = b.getD k 0) (hp1 : p.cls = b.getD k1 0) (hp2 : p.run = leN ((b.drop k2).take (k4 - k2))) (hp3 : p.size = leN ((b.drop k4).take (k8 - k4))) (hp4 : p.ser = leN ((b.drop k8).take (k16 - k8))) (hB : B <= w0.heap.size) {QQ : Exit -> Act -> World -> Prop} (hQ : ∀ (vs : Nat -> Value) w, (∀ j, j < 36 -> VQP g o m cap k k1 k2 k4 k8 k16 b p B j (vs j) w) -> Fre.Kept w0 w -> wpList Tryz.prog opsQP.1 QQ (opsQP.1.toList.drop 36) ⟨#[.slice (some ⟨g, o, none⟩) m cap, u1, u2, u3, u4, .int .i64 (k : Int), vs 35, u7, u8, u9, u10, vs 0, vs 1, vs 2, vs 3, vs 4, vs 5, vs 6, vs 7, vs 8, vs 9, vs 10, vs 11, vs 12, vs 13, vs 14, vs 15, vs 16, vs 17, vs 18, vs 19, vs 20, vs 21, vs 22, vs 23, vs 24, vs 25, vs 26, vs 27, vs 28, vs 29, vs 30, vs 31, vs 32, vs 33, vs 34, u46, u47, u48, u49, u50, u51, u52, u53], []⟩ w) : (Code.region 5 opsQP.1 true).wp Tryz.prog QQ ⟨#[.slice (some ⟨g, o, none⟩) m cap, u1, u2, u3, u4, .int .i64 (k : Int), u6, u7, u8, u9, u10, u11, u12, u13, u14, u15, u16, u17, u18, u19, u20, u21, u22, u23, u24, u25, u26, u27, u28, u29, u30, u31, u32, u33, u34, u35, u36, u37, u38, u39, u40, u41, u42, u43, u44, u45, u46, u47, u48, u49, u50, u51, u52, u53], []⟩ w0 := by
 refine Fre.region_tail 54 36 (by kernel_rfl) fitQP rfl tailQP (by rw [sizeQP]; omega) (VQP g o m cap k k1 k2 k4 k8 k16 b p B) (kpQP g o m cap k k1 k2 k4 k8 k16 b p B) (fun i hi => ?_) (fun vs w h1 h2 => ?_)
 case refine_2 =>
  have e9 := @finQP u1 u2 u3 u4 u6 u7 u8 u9 u10 u11 u12 u13 u14 u15 u16 u17 u18 u19 u20 u21 u22 u23 u24 u25 u26 u27 u28 u29 u30 u31 u32 u33 u34 u35 u36 u37 u38 u39 u40 u41 u42 u43 u44 u45 u46 u47 u48 u49 u50 u51 u52 u53 g o m cap k k1 k2 k4 k8 k16 b p B vs
  have h9 := hQ vs w h1 h2
  rw [<- e9] at h9
  exact h9
 have hc : i = 0 \/ i = 1 \/ i = 2 \/ i = 3 \/ i = 4 \/ i = 5 \/ i = 6 \/ i = 7 \/ i = 8 \/ i = 9 \/ i = 10 \/ i = 11 \/ i = 12 \/ i = 13 \/ i = 14 \/ i = 15 \/ i = 16 \/ i = 17 \/ i = 18 \/ i = 19 \/ i = 20 \/ i = 21 \/ i = 22 \/ i = 23 \/ i = 24 \/ i = 25 \/ i = 26 \/ i = 27 \/ i = 28 \/ i = 29 \/ i = 30 \/ i = 31 \/ i = 32 \/ i = 33 \/ i = 34 \/ i = 35 := by omega
 rcases hc with rfl | rfl | rfl | rfl | rfl | rfl | rfl | rfl | rfl | rfl | rfl | rfl | rfl | rfl | rfl | rfl | rfl | rfl | rfl | rfl | rfl | rfl | rfl | rfl | rfl | rfl | rfl | rfl | rfl | rfl | rfl | rfl | rfl | rfl | rfl | rfl
 ·exact stQP_0 g o m cap k k1 k2 k4 k8 k16 b p B _ rfl w0 hm h1 h2 h4 h8 h16 hk hcap hlen hb hp0 hp1 hp2 hp3 hp4 hB
 ·exact stQP_1 g o m cap k k1 k2 k4 k8 k16 b p B _ rfl w0 hm h1 h2 h4 h8 h16 hk hcap hlen hb hp0 hp1 hp2 hp3 hp4 hB
 ·exact stQP_2 g o m cap k k1 k2 k4 k8 k16 b p B _  w0 hm h1 h2 h4 h8 h16 hk hcap hlen hb hp0 hp1 hp2 hp3 hp4 hB
 ·exact stQP_3 g o m cap k k1 k2 k4 k8 k16 b p B _  w0 hm h1 h2 h4 h8 h16 hk hcap hlen hb hp0 hp1 hp2 hp3 hp4 hB
 ·exact stQP_4 g o m cap k k1 k2 k4 k8 k16 b p B _  w0 hm h1 h2 h4 h8 h16 hk hcap hlen hb hp0 hp1 hp2 hp3 hp4 hB
 ·exact stQP_5 g o m cap k k1 k2 k4 k8 k16 b p B _ rfl w0 hm h1 h2 h4 h8 h16 hk hcap hlen hb hp0 hp1 hp2 hp3 hp4 hB
 ·exact stQP_6 g o m cap k k1 k2 k4 k8 k16 b p B _ rfl w0 hm h1 h2 h4 h8 h16 hk hcap hlen hb hp0 hp1 hp2 hp3 hp4 hB
 ·exact stQP_7 g o m cap k k1 k2 k4 k8 k16 b p B _  w0 hm h1 h2 h4 h8 h16 hk hcap hlen hb hp0 hp1 hp2 hp3 hp4 hB
 ·exact stQP_8 g o m cap k k1 k2 k4 k8 k16 b p B _  w0 hm h1 h2 h4 h8 h16 hk hcap hlen hb hp0 hp1 hp2 hp3 hp4 hB
 ·exact stQP_9 g o m cap k k1 k2 k4 k8 k16 b p B _  w0 hm h1 h2 h4 h8 h16 hk hcap hlen hb hp0 hp1 hp2 hp3 hp4 hB
 ·exact stQP_10 g o m cap k k1 k2 k4 k8 k16 b p B _  w0 hm h1 h2 h4 h8 h16 hk hcap hlen hb hp0 hp1 hp2 hp3 hp4 hB
 ·exact stQP_11 g o m cap k k1 k2 k4 k8 k16 b p B _ rfl w0 hm h1 h2 h4 h8 h16 hk hcap hlen hb hp0 hp1 hp2 hp3 hp4 hB
 ·exact stQP_12 g o m cap k k1 k2 k4 k8 k16 b p B _ rfl w0 hm h1 h2 h4 h8 h16 hk hcap hlen hb hp0 hp1 hp2 hp3 hp4 hB
 ·exact stQP_13 g o m cap k k1 k2 k4 k8 k16 b p B _  w0 hm h1 h2 h4 h8 h16 hk hcap hlen hb hp0 hp1 hp2 hp3 hp4 hB
 ·exact stQP_14 g o m cap k k1 k2 k4 k8 k16 b p B _ rfl w0 hm h1 h2 h4 h8 h16 hk hcap hlen hb hp0 hp1 hp2 hp3 hp4 hB
 ·exact stQP_15 g o m cap k k1 k2 k4 k8 k16 b p B _  w0 hm h1 h2 h4 h8 h16 hk hcap hlen hb hp0 hp1 hp2 hp3 hp4 hB
 ·exact stQP_16 g o m cap k k1 k2 k4 k8 k16 b p B _  w0 hm h1 h2 h4 h8 h16 hk hcap hlen hb hp0 hp1 hp2 hp3 hp4 hB
 ·exact stQP_17 g o m cap k k1 k2 k4 k8 k16 b p B _  w0 hm h1 h2 h4 h8 h16 hk hcap hlen hb hp0 hp1 hp2 hp3 hp4 hB
 ·exact stQP_18 g o m cap k k1 k2 k4 k8 k16 b p B _  w0 hm h1 h2 h4 h8 h16 hk hcap hlen hb hp0 hp1 hp2 hp3 hp4 hB
 ·exact stQP_19 g o m cap k k1 k2 k4 k8 k16 b p B _ rfl w0 hm h1 h2 h4 h8 h16 hk hcap hlen hb hp0 hp1 hp2 hp3 hp4 hB
 ·exact stQP_20 g o m cap k k1 k2 k4 k8 k16 b p B _ rfl w0 hm h1 h2 h4 h8 h16 hk hcap hlen hb hp0 hp1 hp2 hp3 hp4 hB
 ·exact stQP_21 g o m cap k k1 k2 k4 k8 k16 b p B _  w0 hm h1 h2 h4 h8 h16 hk hcap hlen hb hp0 hp1 hp2 hp3 hp4 hB
 ·exact stQP_22 g o m cap k k1 k2 k4 k8 k16 b p B _ rfl w0 hm h1 h2 h4 h8 h16 hk hcap hlen hb hp0 hp1 hp2 hp3 hp4 hB
 ·exact stQP_23 g o m cap k k1 k2 k4 k8 k16 b p B _  w0 hm h1 h2 h4 h8 h16 hk hcap hlen hb hp0 hp1 hp2 hp3 hp4 hB
 ·exact stQP_24 g o m cap k k1 k2 k4 k8 k16 b p B _  w0 hm h1 h2 h4 h8 h16 hk hcap hlen hb hp0 hp1 hp2 hp3 hp4 hB
 ·exact stQP_25 g o m cap k k1 k2 k4 k8 k16 b p B _  w0 hm h1 h2 h4 h8 h16 hk hcap hlen hb hp0 hp1 hp2 hp3 hp4 hB
 ·exact stQP_26 g o m cap k k1 k2 k4 k8 k16 b p B _  w0 hm h1 h2 h4 h8 h16 hk hcap hlen hb hp0 hp1 hp2 hp3 hp4 hB
 ·exact stQP_27 g o m cap k k1 k2 k4 k8 k16 b p B _ rfl w0 hm h1 h2 h4 h8 h16 hk hcap hlen hb hp0 hp1 hp2 hp3 hp4 hB
 ·exact stQP_28 g o m cap k k1 k2 k4 k8 k16 b p B _ rfl w0 hm h1 h2 h4 h8 h16 hk hcap hlen hb hp0 hp1 hp2 hp3 hp4 hB
 ·exact stQP_29 g o m cap k k1 k2 k4 k8 k16 b p B _  w0 hm h1 h2 h4 h8 h16 hk hcap hlen hb hp0 hp1 hp2 hp3 hp4 hB
 ·exact stQP_30 g o m cap k k1 k2 k4 k8 k16 b p B _ rfl w0 hm h1 h2 h4 h8 h16 hk hcap hlen hb hp0 hp1 hp2 hp3 hp4 hB
 ·exact stQP_31 g o m cap k k1 k2 k4 k8 k16 b p B _  w0 hm h1 h2 h4 h8 h16 hk hcap hlen hb hp0 hp1 hp2 hp3 hp4 hB
 ·exact stQP_32 g o m cap k k1 k2 k4 k8 k16 b p B _  w0 hm h1 h2 h4 h8 h16 hk hcap hlen hb hp0 hp1 hp2 hp3 hp4 hB
 ·exact stQP_33 g o m cap k k1 k2 k4 k8 k16 b p B _  w0 hm h1 h2 h4 h8 h16 hk hcap hlen hb hp0 hp1 hp2 hp3 hp4 hB
 ·exact stQP_34 g o m cap k k1 k2 k4 k8 k16 b p B _  w0 hm h1 h2 h4 h8 h16 hk hcap hlen hb hp0 hp1 hp2 hp3 hp4 hB
 ·exact stQP_35 g o m cap k k1 k2 k4 k8 k16 b p B _  w0 hm h1 h2 h4 h8 h16 hk hcap hlen hb hp0 hp1 hp2 hp3 hp4 hB
end
/-- what Parse answers -/
def RParsePg (B : Nat) (w' : World) (e : Ending) (b : List Nat) : Prop := match parseP b with
 | none => e = .returned (.tuple #[.slice none 0 0, .bool false])
 | some L => ∃ v, e = .returned (.tuple #[v, .bool true]) /\ w'.ownsRow B 78 5 v 16 (cellsP L)
def pgsK (b : List Nat) : Nat -> List Pg
 | 0 => []
 | k + 1 => pgsK b k ++ [pgOf (pcOf b k)]
theorem pgsK_eq (b : List Nat) : ∀ k, pgsK b k = (List.range k).map fun j => pgOf (pcOf b j)
 | 0 => rfl
 | k + 1 => by unfold pgsK; rw [pgsK_eq b k, List.range_succ, List.map_append]; rfl
theorem rpparse_c (g o cap m : Nat) (b : List Nat) (hlen : b.length = 256) (hm : m = 256) (hcap : 256 <= cap) (w : World) (hv : BytesAt w (some ⟨g, o, none⟩) cap b) :
  Calls Tryz.prog 54 #[.slice (some ⟨g, o, none⟩) m cap] w fun e w' => RParsePg w.heap.size w' e b /\ Below w.heap.size w w' := by
 have HV := Lib.hid hv
 have HLN := Lib.hid hlen
 have HM := Lib.hid hm
 have HC := Lib.hid hcap
 clear hv hlen hm hcap
 go_enter Tryz.func54, Tryz.ntmps54
 go_wp2
 go_loopw [4, 5, 6] (fun vb vi vp wr => ∃ j : Nat, Hid (j <= 16) /\ ∃ k : Nat, Hid (k = 16 * j) /\ vi = .int .i64 (k : Int) /\ ∃ a c, vb = .slice a j c /\ Hid (wr.ownsRow w.heap.size 78 5 (.slice a j c) j (cellsP (pgsK b j))) /\ Hid ((pgsK b j).all oneP = true) /\ Hid (Below w.heap.size w wr)) (fun _ vi _ _ => 256 - (intOf vi).toNat)
 case atStart => exact ⟨0, Nat.zero_le _, 0, rfl, rfl, none, 0, rfl, World.ownsRow_nil _ _ _ _, rfl, Below.refl _ _⟩
 case round =>
  obtain ⟨j, hj, k, hk, rfl, a, c, rfl, hown, hall, hbel⟩ := hrel
  have hj16 : j <= 16 := hj
  have hk16 : k = 16 * j := hk
  by_cases hlt : j < 16
  ·have hd : decide ((k : Int) < 256) = true := by simp; omega
   have dl : (k : Int) < 256 := by omega
   obtain ⟨k1, h1⟩ : ∃ k1, k1 = k + 1 := ⟨_, rfl⟩
   obtain ⟨k2, h2⟩ : ∃ k2, k2 = k + 2 := ⟨_, rfl⟩
   obtain ⟨k4, h4⟩ : ∃ k4, k4 = k + 4 := ⟨_, rfl⟩
   obtain ⟨k8, h8⟩ : ∃ k8, k8 = k + 8 := ⟨_, rfl⟩
   obtain ⟨k16, h16⟩ : ∃ k16, k16 = k + 16 := ⟨_, rfl⟩
   have hpg := pc_page b HLN.out j k k1 k2 k4 k8 k16 hlt hk16 h1 h2 h4 h8 h16
   obtain ⟨p, hp⟩ : ∃ p, p = pgOf (pcOf b j) := ⟨_, rfl⟩
   rw [<- hp] at hpg
   have hsz : p.size < 4611686018427387904 := by
    rw [hp]
    have := (pgOf_lt (pcOf b j) (fun x hx => HV.out.1 x (List.mem_of_mem_drop (List.mem_of_mem_take hx)))).2.2.2.1
    omega
   have e16 : (k : Int) + 16 = (k16 : Int) := by omega
   have w16 : IntKind.i64.wrap (k16 : Int) = (k16 : Int) := IntWalk.i64_in _ (by omega)
   have HO := Lib.hid (rone_c p hsz)
   have HPK : Hid (pgsK b (j + 1) = pgsK b j ++ [p]) := by show _ = _; rw [hp]; rfl
   have HKK : Hid (k16 = 16 * (j + 1) /\ j + 1 <= 16 /\ k < k16) := ⟨by omega, by omega, by omega⟩
   have HVR : Hid (BytesAt wr (some ⟨g, o, none⟩) cap b) := HV.out.up hbel.out (Nat.le_refl _)
   have HRG := Lib.hid (And.intro h1 (And.intro h2 (And.intro h4 (And.intro h8 (And.intro h16 (show k16 <= 256 by omega))))))
   have HPG := Lib.hid hpg
   have HPP := Lib.hid (show p = pgOf (pcOf b j) from hp)
   have HJ := Lib.hid hlt
   clear h1 h2 h4 h8 h16 hpg hp hsz hk16 hj16 hj hk hlt
   go_wp2
   refine regionQP g o m cap k k1 k2 k4 k8 k16 b p wr.heap.size wr HM.out HRG.out.1 HRG.out.2.1 HRG.out.2.2.1 HRG.out.2.2.2.1 HRG.out.2.2.2.2.1 HRG.out.2.2.2.2.2 HC.out HLN.out HVR.out (by rw [HPG.out]) (by rw [HPG.out]) (by rw [HPG.out]) (by rw [HPG.out]) (by rw [HPG.out]) (Nat.le_refl _) ?_
   intro vs w5 hv hkk
   have v34 : vs 34 = .agg (pgA p) := hv 34 (by omega)
   obtain ⟨pb, v35, hpb, f35⟩ := hv 35 (by omega)
   rw [v34, v35]
   clear hv v34 v35
   refine wpList_store_row rfl 78 (.tmp 6) (.tmp 45) rfl pb (pgA p) rfl rfl 78 _ f35 (by rw [page5R]; rfl) rfl (pgA_one _) ?_
   have hM6 : (w5.setRow pb (pgA p)).heap[pb]? = some (.cells (pgA p) 78 (0, 0)) := setRow_heap _ _ _ _ _ _ f35
   have h46 : Below wr.heap.size wr (w5.setRow pb (pgA p)) := below_setRow hkk hpb _
   generalize w5.setRow pb (pgA p) = w6 at *
   have HM6 := Lib.hid hM6
   have HO6 := Lib.hid (own_up hown.out h46)
   have HE6 : Hid (Below w.heap.size w w6) := hbel.out.trans (h46.mono hbel.out.size)
   clear hM6 h46 f35 hkk hpb
   go_wp2_with (first
    | (refine wpList_load_row rfl 78 (.tmp 6) rfl pb rfl _ _ _ _ HM6.out Tryz.underlying78 rfl (by rw [page5R]; rfl) ?_)
    | fail)
   refine (HO.out _).mono ?_
   rintro e w7 ⟨rfl, hb7⟩
   have HM7 := Lib.hid ((hb7.block _ (lt_of_block HM6.out)).trans HM6.out)
   have HO7 := Lib.hid (own_up HO6.out hb7)
   have HE7 : Hid (Below w.heap.size w w7) := HE6.out.trans (hb7.mono HE6.out.size)
   clear hb7 HM6 HO6 HE6
   obtain ⟨q, hq⟩ : ∃ q, q = oneP p := ⟨_, rfl⟩
   rw [<- hq]
   cases q with
   | false =>
    have HN : Hid (parseP b = none) := by
     show _ = _
     unfold parseP
     rw [if_neg]
     intro h9
     rw [List.all_eq_true] at h9
     have h8 := h9 p (by unfold pgsN; rw [List.mem_map]; exact ⟨j, List.mem_range.2 HJ.out, HPP.out.symm⟩)
     rw [<- hq] at h8; cases h8
    clear hq
    go_wp2
    go_ret2
    refine ⟨?_, HE7.out⟩
    unfold RParsePg; rw [HN.out]; rfl
   | true =>
    have HAL : Hid ((pgsK b (j + 1)).all oneP = true) := by show _ = _; rw [HPK.out, List.all_append, hall.out, List.all_cons, <- hq]; rfl
    have HOA : Hid ((w7.alloc (.cells (pgA p) 78)).ownsRow w.heap.size 78 5 (.slice a j c) j (cellsP (pgsK b j))) := World.ownsRow.alloc HO7.out _
    have HEA : Hid (Below w.heap.size w (w7.alloc (.cells (pgA p) 78))) := HE7.out.alloc HE7.out.size _
    have HPA : Hid (PgsAt (w7.alloc (.cells (pgA p) 78)) (some ⟨w7.heap.size, 0, none⟩) [p]) := pgs_blk (heap_new' _ _)
    clear hq
    go_wp2_with (first
     | (refine wpList_load_row rfl 78 (.tmp 6) rfl pb rfl _ _ _ _ HM7.out Tryz.underlying78 rfl (by rw [page5R]; rfl) ?_)
     | (refine wpList_build_pgR rfl (.tmp 50) rfl rfl ?_)
     | (refine wpList_append_pgsR (v := .slice a j c) (base := w.heap.size) (n := j) (m := 1) (M := [p]) rfl (.tmp 49) (.tmp 51) rfl rfl HOA.out rfl rfl HPA.out (fun h => by cases h) (fun q h => by cases h; rfl) (by have := HJ.out; omega) HEA.out.size ?_; intro v3 w3 hown3 hgr3; rw [<- HPK.out] at hown3; have HO3 := Lib.hid hown3; have HE3 : Hid (Below w.heap.size w w3) := HEA.out.grown hgr3 HEA.out.size (fun q h => own_base HOA.out q h); obtain ⟨a3, c3, hv3⟩ := own_sliceR hown3; subst hv3; clear hown3 hgr3)
     | fail)
    go_roundw
    case rel => exact ⟨j + 1, HKK.out.2.1, k16, HKK.out.1, rfl, a3, c3, rfl, HO3.out, HAL.out, HE3.out⟩
    case measure => simp [intOf]; have := HKK.out; have := HJ.out; omega
  ·have hj2 : j = 16 := by omega
   have hd : decide ((k : Int) < 256) = false := by simp; omega
   have dl : ¬ (k : Int) < 256 := by omega
   have HN : Hid (parseP b = some (pgsK b j)) := by
    show _ = _
    have h1 : pgsN b = pgsK b j := by rw [pgsK_eq, hj2]; rfl
    unfold parseP
    rw [h1, if_pos hall.out]
   have HJ2 := Lib.hid hj2
   clear hj2 hj16 hk16 hlt hj hk
   go_wp2
   go_ret2
   refine ⟨?_, hbel.out⟩
   unfold RParsePg
   rw [HN.out]
   have h1 := HJ2.out
   subst h1
   exact ⟨_, rfl, hown.out⟩
namespace Fre
section
variable {P : Program} {ops : Array Oper}
/-- waiting, also through others -/
def waitsT (md : Region.Mode) (ops : Array Oper) : Nat -> Nat -> Nat -> Bool
 | 0, i, j => waits md ops i j
 | f + 1, i, j => waits md ops i j || (List.range i).any fun k => waits md ops i k && waitsT md ops f k j
theorem waits_lt {md : Region.Mode} {N : Nat} (hf : Fits md ops N) {i j : Nat} (h : waits md ops i j = true) : j < i := by
 unfold waits at h
 cases ho : ops[i]? with
 | none => rw [ho] at h; cases h
 | some o =>
  rw [ho] at h
  simp only [Option.map_some, Option.getD_some, Array.any_eq_true', Bool.and_eq_true, beq_iff_eq] at h
  obtain ⟨e, he, hb, rfl⟩ := h
  exact hf.back i o e ho he hb
theorem waitsT_closed {md : Region.Mode} {S : Nat -> Prop} (hcl : ∀ a, S a -> ∀ j, waits md ops a j = true -> S j) : ∀ (f i j : Nat), (∀ j, waits md ops i j = true -> S j) -> waitsT md ops f i j = true -> S j
 | 0, i, j, h, hw => h j hw
 | f + 1, i, j, h, hw => by
  unfold waitsT at hw
  simp only [Bool.or_eq_true, List.any_eq_true, Bool.and_eq_true] at hw
  rcases hw with hw | ⟨k, _, h1, h2⟩
  ·exact h j hw
  ·exact waitsT_closed hcl f k j (hcl k (h k h1)) h2
def tailFitT (md : Region.Mode) (ops : Array Oper) (n0 : Nat) : Bool :=
 (List.range ops.size).all fun i => decide (i < n0) || (List.range i).all fun j => waitsT md ops 4 i j
theorem tailFitT_spec {md : Region.Mode} {n0 : Nat} (h : tailFitT md ops n0 = true) : ∀ i j, i < ops.size -> n0 <= i -> j < i -> waitsT md ops 4 i j = true := by
 intro i j hi hn hj
 unfold tailFitT at h
 rw [List.all_eq_true] at h
 have := h i (List.mem_range.2 hi)
 simp only [Bool.or_eq_true, decide_eq_true_eq, List.all_eq_true] at this
 rcases this with h1 | h1
 ·omega
 ·exact h1 j (List.mem_range.2 hj)
theorem any_tail1T {md : Region.Mode} {Q : Exit -> Act -> World -> Prop} {N n0 : Nat} (hf : Fits md ops N) (ht : tailFitT md ops n0 = true) :
  ∀ (fuel k : Nat) (listed : Array Bool) (a : Act) (w : World), listed.size = ops.size -> n0 <= k + 1 -> ops.size - k <= fuel -> (∀ j, j < ops.size -> listed.getD j true = decide (j < k)) ->
   wpList P ops Q (ops.toList.drop k) a w -> wpAny P md ops Q fuel listed a w := by
 have hw := tailFitT_spec ht
 have hrd : ∀ (k : Nat) (listed : Array Bool), listed.size = ops.size -> n0 <= k + 1 -> (∀ j, j < ops.size -> listed.getD j true = decide (j < k)) -> ∀ i, i ∈ Region.ready md ops listed ↔ i = k /\ k < ops.size := by
  intro k listed hl hk hls i
  constructor
  ·intro hi
   obtain ⟨hun, o, ho, hdep⟩ := mem_ready.1 hi
   have hlt : i < ops.size := (Array.getElem?_eq_some_iff.1 ho).1
   have hik : k <= i := by have := hls i hlt; rw [hun] at this; simpa using this.symm
   rcases Nat.eq_or_lt_of_le hik with h | h
   ·subst h; exact ⟨rfl, hlt⟩
   ·exfalso
    have hwi := hw i k hlt (by omega) h
    have hdir : ∀ j, waits md ops i j = true -> j < k := by
     intro j hj
     unfold waits at hj
     rw [ho] at hj
     simp only [Option.map_some, Option.getD_some, Array.any_eq_true', Bool.and_eq_true, beq_iff_eq] at hj
     obtain ⟨e, he, hb, rfl⟩ := hj
     have h1 := hdep e he hb
     have hsz : e.on < ops.size := by have := hf.back i o e ho he hb; omega
     have h2 := hls e.on hsz
     rw [Array.getD_eq_getD_getElem?, Array.getElem?_eq_getElem (by omega)] at h1 h2
     simp only [Option.getD_some] at h1 h2
     rw [h1] at h2
     exact of_decide_eq_true h2.symm
    have := waitsT_closed (S := fun j => j < k) (fun a ha j hj => by have := waits_lt hf hj; omega) 4 i k hdir hwi
    omega
  ·rintro ⟨rfl, hlt⟩
   refine mem_ready.2 ⟨by rw [hls i hlt]; simp, ops[i], Array.getElem?_eq_getElem hlt, fun e he hb => ?_⟩
   have hbk := hf.back i ops[i] e (Array.getElem?_eq_getElem hlt) he hb
   have h2 := hls e.on (by omega)
   rw [decide_eq_true hbk] at h2
   rw [Array.getD_eq_getD_getElem?, Array.getElem?_eq_getElem (by omega)] at h2 ⊢
   exact h2
 intro fuel
 induction fuel with
 | zero =>
  intro k listed a w hl hk hfu hls h
  have hke : ops.size <= k := by omega
  have hr : Region.ready md ops listed = [] := by
   cases hrr : Region.ready md ops listed with
   | nil => rfl
   | cons x xs =>
    have := (hrd k listed hl hk hls x).1 (by rw [hrr]; simp)
    omega
  rw [List.drop_of_length_le (by simpa using hke)] at h
  exact ⟨hr, h⟩
 | succ fuel ih =>
  intro k listed a w hl hk hfu hls h
  refine ⟨fun hr => ?_, fun i hi => ?_⟩
  ·have hke : ops.size <= k := by
    rcases Nat.lt_or_ge k ops.size with h' | h'
    ·have := (hrd k listed hl hk hls k).2 ⟨rfl, h'⟩
     rw [hr] at this; cases this
    ·exact h'
   rw [List.drop_of_length_le (by simpa using hke)] at h
   exact h
  ·obtain ⟨rfl, hlt⟩ := (hrd k listed hl hk hls i).1 hi
   have hdr : ops.toList.drop i = ops[i] :: ops.toList.drop (i + 1) := by
    rw [List.drop_eq_getElem_cons (by simpa using hlt)]; simp
   rw [hdr] at h
   unfold wpOp
   rw [Array.getElem?_eq_getElem hlt]
   simp only
   have hls' : ∀ j, j < ops.size -> (listed.setIfInBounds i true).getD j true = decide (j < i + 1) := by
    intro j hj
    by_cases hji : j = i
    ·subst hji
     simp [Array.getD_eq_getD_getElem?, Array.getElem?_setIfInBounds, hl, hlt]
    ·have := hls j hj
     have e1 : (listed.setIfInBounds i true).getD j true = listed.getD j true := by
      simp [Array.getD_eq_getD_getElem?, Array.getElem?_setIfInBounds, Ne.symm hji]
     rw [e1, this, decide_eq_decide]; omega
   have hmn : ∀ a w, wpList P ops Q (ops.toList.drop (i + 1)) a w -> wpAny P md ops Q fuel (listed.setIfInBounds i true) a w := fun a w h => ih (i + 1) _ a w (by simp [hl]) (by omega) (by omega) hls' h
   unfold wpList at h
   split
   ·rename_i hwn
    rw [if_pos hwn] at h
    exact h.imp (Oper.wp_mono hmn) id
   ·rename_i hwn
    rw [if_neg hwn] at h
    exact hmn _ _ h
/-- from number n0 on each operation waits for all before it; but n0 need not wait for ℓ -/
def lateFitT (md : Region.Mode) (ops : Array Oper) (n0 ℓ : Nat) : Bool :=
 ((List.range (n0 + 1)).all fun a => !waits md ops a ℓ) && (List.range ops.size).all fun i => decide (i < n0) || (List.range i).all fun j => waitsT md ops 4 i j || (i == n0 && j == ℓ)
theorem lateFitT_spec {md : Region.Mode} {n0 ℓ : Nat} (h : lateFitT md ops n0 ℓ = true) : ∀ i j, i < ops.size -> n0 <= i -> j < i -> waitsT md ops 4 i j = true \/ (i = n0 /\ j = ℓ) := by
 intro i j hi hn hj
 unfold lateFitT at h
 rw [Bool.and_eq_true] at h
 replace h := h.2
 rw [List.all_eq_true] at h
 have := h i (List.mem_range.2 hi)
 simp only [Bool.or_eq_true, decide_eq_true_eq, List.all_eq_true, Bool.and_eq_true, beq_iff_eq] at this
 rcases this with h1 | h1
 ·omega
 ·exact h1 j (List.mem_range.2 hj)
theorem lateFitT_tail {md : Region.Mode} {n0 ℓ : Nat} (h : lateFitT md ops n0 ℓ = true) : tailFitT md ops (n0 + 1) = true := by
 unfold tailFitT
 rw [List.all_eq_true]
 intro i hi
 have hi := List.mem_range.1 hi
 rcases Nat.lt_or_ge i (n0 + 1) with h1 | h1
 ·simp [h1]
 ·simp only [Bool.or_eq_true, decide_eq_true_eq, List.all_eq_true]
  right
  intro j hj
  rcases lateFitT_spec h i j hi (by omega) (List.mem_range.1 hj) with h2 | h2
  ·exact h2
  ·omega
theorem lateFitT_not {md : Region.Mode} {n0 ℓ : Nat} (h : lateFitT md ops n0 ℓ = true) : ∀ a, a < n0 + 1 -> waits md ops a ℓ = false := by
 intro a ha
 unfold lateFitT at h
 rw [Bool.and_eq_true] at h
 have := (List.all_eq_true.1 h.1) a (List.mem_range.2 ha)
 simpa using this
theorem any_late1T {md : Region.Mode} {Q : Exit -> Act -> World -> Prop} {N n0 ℓ : Nat} (hf : Fits md ops N) (ht1 : tailFitT md ops (n0 + 1) = true) (hℓ : ℓ < n0) (hst : ∀ a, a < n0 + 1 -> waits md ops a ℓ = false) :
  ∀ (fuel : Nat) (listed : Array Bool) (a : Act) (w : World), listed.size = ops.size -> (hn9 : n0 < ops.size) -> ops.size - n0 <= fuel -> (∀ j, j < ops.size -> listed.getD j true = decide (j < n0 + 1 /\ j ≠ ℓ)) ->
   wpList P ops Q (ops[ℓ] :: ops.toList.drop (n0 + 1)) a w -> wpAny P md ops Q fuel listed a w := by
 have hw := tailFitT_spec ht1
 intro fuel listed a w hl hn9 hfu hls h
 have hlt9 : ℓ < ops.size := by omega
 have hgf : ∀ j, j < ops.size -> listed.getD j false = listed.getD j true := fun j hj => by
  simp [Array.getD_eq_getD_getElem?, hl, hj]
 have hrd : ∀ i, i ∈ Region.ready md ops listed -> i = ℓ := by
  intro i hi
  obtain ⟨hun, o, ho, hdep⟩ := mem_ready.1 hi
  have hlt : i < ops.size := (Array.getElem?_eq_some_iff.1 ho).1
  have h1 := hls i hlt
  rw [hun] at h1
  have h2 : ¬ (i < n0 + 1 /\ i ≠ ℓ) := of_decide_eq_false h1.symm
  apply Classical.byContradiction
  intro hne
  have hge : n0 + 1 <= i := by
   rcases Nat.lt_or_ge i (n0 + 1) with h3 | h3
   ·exact absurd ⟨h3, hne⟩ h2
   ·exact h3
  have hwi := hw i ℓ hlt hge (by omega)
  have hdir : ∀ j, waits md ops i j = true -> j < n0 + 1 /\ j ≠ ℓ := by
   intro j hj
   unfold waits at hj
   rw [ho] at hj
   simp only [Option.map_some, Option.getD_some, Array.any_eq_true', Bool.and_eq_true, beq_iff_eq] at hj
   obtain ⟨e, he, hb, rfl⟩ := hj
   have h5 := hdep e he hb
   have hsz : e.on < ops.size := by have := hf.back i o e ho he hb; omega
   rw [hgf e.on hsz, hls e.on hsz] at h5
   exact of_decide_eq_true h5
  have := waitsT_closed (S := fun j => j < n0 + 1 /\ j ≠ ℓ) (fun a ha j hj => ⟨by have := waits_lt hf hj; omega, by
   rintro rfl
   rw [hst a ha.1] at hj; cases hj⟩) 4 i ℓ hdir hwi
  exact this.2 rfl
 have hmem : ℓ ∈ Region.ready md ops listed := by
  refine mem_ready.2 ⟨by rw [hls ℓ hlt9]; simp, ops[ℓ], Array.getElem?_eq_getElem hlt9, fun e he hb => ?_⟩
  have hbk := hf.back ℓ ops[ℓ] e (Array.getElem?_eq_getElem hlt9) he hb
  rw [hgf e.on (by omega), hls e.on (by omega)]
  simp; omega
 cases fuel with
 | zero => omega
 | succ fuel =>
  refine ⟨fun hr => by { rw [hr] at hmem; cases hmem }, fun i hi => ?_⟩
  obtain rfl := hrd i hi
  have hmn : ∀ a w, wpList P ops Q (ops.toList.drop (n0 + 1)) a w -> wpAny P md ops Q fuel (listed.setIfInBounds i true) a w := fun a w h =>
   any_tail1T hf ht1 fuel (n0 + 1) _ a w (by simp [hl]) (by omega) (by omega) (fun j hj => by
    by_cases hji : j = i
    ·subst hji
     simp [Array.getD_eq_getD_getElem?, Array.getElem?_setIfInBounds, hl, hlt9]; omega
    ·have e1 : (listed.setIfInBounds i true).getD j true = listed.getD j true := by
      simp [Array.getD_eq_getD_getElem?, Array.getElem?_setIfInBounds, Ne.symm hji]
     rw [e1, hls j hj, decide_eq_decide]; omega) h
  unfold wpOp
  rw [Array.getElem?_eq_getElem hlt9]
  simp only
  unfold wpList at h
  split
  ·rename_i hwn
   rw [if_pos hwn] at h
   exact h.imp (Oper.wp_mono hmn) id
  ·rename_i hwn
   rw [if_neg hwn] at h
   exact hmn _ _ h
/-- the law, where operation ℓ may come up behind the first of the tail -/
theorem region_lateT {id : Nat} {Q : Exit -> Act -> World -> Prop} {a0 : Act} {w0 : World} (N n0 ℓ : Nat) (hℓ : ℓ < n0) (hn9 : n0 < ops.size) (hm : P.follows .mixedOrders = true) (hf : fit .any ops N = true) (hN : a0.tmps.size = N) (ht : lateFitT .any ops n0 ℓ = true) (hn0 : n0 <= ops.size) (V : Nat -> Value -> World -> Prop)
  (hst : ∀ j v w w', j < n0 -> V j v w -> Kept w w' -> V j v w') (hop : ∀ i, i < n0 -> StepB P ops a0 w0 V Kept i)
  (hQ : ∀ (vs : Nat -> Value) w, (∀ j, j < n0 -> V j (vs j) w) -> Kept w0 w -> wpList P ops Q (ops.toList.drop n0) ⟨finT ops vs a0.tmps n0, a0.defers⟩ w) 
  (hQ2 : ∀ (vs : Nat -> Value) w, (∀ j, j < n0 -> j ≠ ℓ -> V j (vs j) w) -> (∀ t, dstOf ops ℓ = some t -> a0.tmps[t]? = some (vs ℓ)) -> Kept w0 w -> wpList P ops Q (ops[n0] :: ops[ℓ] :: ops.toList.drop (n0 + 1)) ⟨finT ops vs a0.tmps n0, a0.defers⟩ w) : (Code.region id ops true).wp P Q a0 w0 := by
 refine wp_region_any hm ?_
 have hfs := fits_of (md := .any) hf
 have hw := lateFitT_spec ht
 have ht1 := lateFitT_tail ht
 have hgf : ∀ (listed : Array Bool), listed.size = ops.size -> ∀ j, j < ops.size -> listed.getD j false = listed.getD j true := fun listed hl j hj => by
  simp [Array.getD_eq_getD_getElem?, hl, hj]
 have main : ∀ (fuel : Nat) (listed : Array Bool) (a : Act) (w : World) (vs : Nat -> Value), listed.size = ops.size -> ((List.range ops.size).filter fun j => !listed.getD j true).length <= fuel ->
   (∀ j, j < ops.size -> n0 <= j -> listed.getD j true = false) -> Agree ops a0 a listed vs -> (∀ j, j < n0 -> listed.getD j false = true -> V j (vs j) w) -> Kept w0 w -> (∀ b, listed.getD b false = true -> ∀ j, waits .any ops b j = true -> listed.getD j false = true) -> wpAny P .any ops Q fuel listed a w := by
  have hend : ∀ (fuel : Nat) (listed : Array Bool) (a : Act) (w : World) (vs : Nat -> Value), listed.size = ops.size -> ((List.range ops.size).filter fun j => !listed.getD j true).length <= fuel -> (∀ j, j < ops.size -> n0 <= j -> listed.getD j true = false) -> Agree ops a0 a listed vs -> (∀ j, j < n0 -> listed.getD j false = true -> V j (vs j) w) -> Kept w0 w -> (∀ j, j < n0 -> listed.getD j true = true) -> wpAny P .any ops Q fuel listed a w := by
   intro fuel listed a w vs hl hc htl hA hV hS hall
   have hcnt : ops.size - n0 <= fuel := by
    refine Nat.le_trans ?_ hc
    have : ((List.range ops.size).filter fun j => !listed.getD j true).length = ((List.range ops.size).filter fun j => decide (n0 <= j)).length := by
     congr 1
     apply List.filter_congr
     intro j hj
     have hj' := List.mem_range.1 hj
     rcases Nat.lt_or_ge j n0 with h | h
     ·rw [hall j h]; simp; omega
     ·rw [htl j hj' h]; simp; omega
    rw [this]
    have h2 : (List.range ops.size).filter (fun j => decide (n0 <= j)) = List.range' n0 (ops.size - n0) := by
     have : List.range ops.size = List.range n0 ++ List.range' n0 (ops.size - n0) := by
      rw [List.range_eq_range', List.range_eq_range', show ops.size = n0 + (ops.size - n0) by omega, <- List.range'_append_1]; simp
     rw [this, List.filter_append]
     rw [List.filter_eq_nil_iff.2 (fun x hx => by have := List.mem_range.1 hx; simp; omega), List.nil_append]
     exact List.filter_eq_self.2 (fun x hx => by have := (List.mem_range'_1.1 hx).1; simpa using this)
    rw [h2, List.length_range']; exact Nat.le_refl _
   refine any_tail1T hfs ht1 fuel n0 listed a w hl (Nat.le_refl _) hcnt (fun j hj => ?_) ?_
   ·rcases Nat.lt_or_ge j n0 with h | h
    ·rw [hall j h]; simp [h]
    ·rw [htl j hj h]; simp; omega
   ·have ha : a = ⟨finT ops vs a0.tmps n0, a0.defers⟩ := by
     obtain ⟨h1, h2, h3, h4⟩ := hA
     obtain ⟨T, D⟩ := a
     simp only at h1 h2 h3 h4
     subst h1
     congr 1
     apply Array.ext_getElem?
     intro t
     obtain ⟨k1, k2⟩ := finT_get hfs vs a0.tmps hN n0 hn0 t
     by_cases hx : ∃ j, j < n0 /\ dstOf ops j = some t
     ·obtain ⟨j, hj, hd⟩ := hx
      rw [k1 j hj hd, h3 j t (by omega) hd (by rw [hgf listed hl j (by omega)]; exact hall j hj)]
     ·rw [k2 (fun j hj hd => hx ⟨j, hj, hd⟩)]
      refine h4 t fun j hj hd => ?_
      rcases Nat.lt_or_ge j n0 with h | h
      ·exact absurd ⟨j, h, hd⟩ hx
      ·rw [hgf listed hl j hj]; exact htl j hj h
    rw [ha]
    exact hQ vs w (fun j hj => hV j hj (by rw [hgf listed hl j (by omega)]; exact hall j hj)) hS
  intro fuel
  induction fuel with
  | zero =>
   intro listed a w vs hl hc htl hA hV hS hcl
   refine hend 0 listed a w vs hl hc htl hA hV hS fun j hj => ?_
   cases hc2 : listed.getD j true with
   | true => rfl
   | false =>
    have : j ∈ (List.range ops.size).filter fun j => !listed.getD j true := List.mem_filter.2 ⟨List.mem_range.2 (by omega), by rw [hc2]; rfl⟩
    rw [List.eq_nil_of_length_eq_zero (Nat.le_zero.1 hc)] at this
    cases this
  | succ fuel ih =>
   intro listed a w vs hl hc htl hA hV hS hcl
   by_cases hall : ∀ j, j < n0 -> listed.getD j true = true
   ·exact hend (fuel + 1) listed a w vs hl hc htl hA hV hS hall
   ·have hunl : ∃ j, j < n0 /\ listed.getD j true = false := by
     apply Classical.byContradiction
     intro h
     exact hall fun j hj => by
      cases hc2 : listed.getD j true with
      | true => rfl
      | false => exact absurd ⟨j, hj, hc2⟩ h
    have hni : ∀ i, i ∈ Region.ready .any ops listed -> i < n0 \/ (i = n0 /\ ∀ j, j < n0 -> j ≠ ℓ -> listed.getD j true = true) := by
     intro i hi
     obtain ⟨hun, o, ho, hdep⟩ := mem_ready.1 hi
     have hlt : i < ops.size := (Array.getElem?_eq_some_iff.1 ho).1
     have hwd : ∀ j, waits .any ops i j = true -> listed.getD j false = true := by
      intro j hwi
      unfold waits at hwi
      rw [ho] at hwi
      simp only [Option.map_some, Option.getD_some, Array.any_eq_true', Bool.and_eq_true, beq_iff_eq] at hwi
      obtain ⟨e, he, hb, hek⟩ := hwi
      have h1 := hdep e he hb
      rw [hek] at h1
      exact h1
     rcases Nat.lt_or_ge i n0 with h | h
     ·exact .inl h
     ·right
      rcases Nat.eq_or_lt_of_le h with h9 | h9
      ·subst h9
       refine ⟨rfl, fun j hj hjl => ?_⟩
       rcases hw n0 j hlt (Nat.le_refl _) hj with h1 | h1
       ·rw [<- hgf listed hl j (by omega)]
        exact waitsT_closed (S := fun j => listed.getD j false = true) hcl 4 n0 j hwd h1
       ·exact absurd h1.2 hjl
      ·exfalso
       rcases hw i n0 hlt h h9 with h1 | h1
       ·have := waitsT_closed (S := fun j => listed.getD j false = true) hcl 4 i n0 hwd h1
        rw [hgf listed hl n0 hn9] at this
        rw [htl n0 hn9 (Nat.le_refl _)] at this; cases this
       ·omega
    refine ⟨fun hr => ?_, fun i hi => ?_⟩
    ·exfalso
     -- the least operation that has not come up is ready
     have hex : ∀ j, j < n0 -> listed.getD j true = true := by
      intro j
      induction j using Nat.strongRecOn with
      | ind j ihj =>
       intro hj
       cases hc2 : listed.getD j true with
       | true => rfl
       | false =>
        have : j ∈ Region.ready .any ops listed := by
         refine mem_ready.2 ⟨hc2, ops[j], Array.getElem?_eq_getElem (by omega), fun e he hbi => ?_⟩
         have hb := hfs.back j ops[j] e (Array.getElem?_eq_getElem (by omega)) he hbi
         rw [hgf listed hl e.on (by omega)]
         exact ihj e.on hb (by omega)
        rw [hr] at this; cases this
     exact hall hex
    ·rcases hni i hi with hin | ⟨rfl, hall2⟩
     case inr =>
      have hunl2 : listed.getD ℓ true = false := by
       obtain ⟨j, hj, hjf⟩ := hunl
       by_cases hjl : j = ℓ
       ·rw [<- hjl]; exact hjf
       ·rw [hall2 j hj hjl] at hjf; cases hjf
      -- the state
      have hcnt : ops.size - i + 1 <= fuel + 1 := by
       refine Nat.le_trans ?_ hc
       have hmem : ℓ ∈ (List.range ops.size).filter fun j => !listed.getD j true := List.mem_filter.2 ⟨List.mem_range.2 (by omega), by rw [hunl2]; rfl⟩
       have hlt2 : (((List.range ops.size).filter fun j => !listed.getD j true).filter fun j => j != ℓ).length < ((List.range ops.size).filter fun j => !listed.getD j true).length := by
        apply List.length_filter_lt_length_iff_exists.2
        exact ⟨ℓ, hmem, by simp⟩
       have heq : (((List.range ops.size).filter fun j => !listed.getD j true).filter fun j => j != ℓ) = (List.range ops.size).filter (fun j => decide (i <= j)) := by
        rw [List.filter_filter]
        apply List.filter_congr
        intro j hj
        have hj' := List.mem_range.1 hj
        by_cases hjl : j = ℓ
        ·subst hjl; simp; omega
        ·rcases Nat.lt_or_ge j i with h | h
         ·rw [hall2 j h hjl]; simp; omega
         ·rw [htl j hj' h]; simp [h, hjl]
       have h2 : (List.range ops.size).filter (fun j => decide (i <= j)) = List.range' i (ops.size - i) := by
        have : List.range ops.size = List.range i ++ List.range' i (ops.size - i) := by
         rw [List.range_eq_range', List.range_eq_range', show ops.size = i + (ops.size - i) by omega, <- List.range'_append_1]; simp
        rw [this, List.filter_append]
        rw [List.filter_eq_nil_iff.2 (fun x hx => by have := List.mem_range.1 hx; simp; omega), List.nil_append]
        exact List.filter_eq_self.2 (fun x hx => by have := (List.mem_range'_1.1 hx).1; simpa using this)
       rw [heq, h2, List.length_range'] at hlt2
       omega
      have hq := hQ2 (fun j => if j = ℓ then a0.tmps.getD ((dstOf ops ℓ).getD 0) undef else vs j) w (fun j hj hjl => by
        simp only [if_neg hjl]
        exact hV j hj (by rw [hgf listed hl j (by omega)]; exact hall2 j hj hjl)) (fun t htl2 => by
        simp only [if_true]
        rw [htl2, Option.getD_some]
        have h1 := hfs.inb ℓ t htl2
        rw [Array.getD_eq_getD_getElem?, Array.getElem?_eq_getElem (by rw [hN]; exact h1)]; rfl) hS
      have ha : a = ⟨finT ops (fun j => if j = ℓ then a0.tmps.getD ((dstOf ops ℓ).getD 0) undef else vs j) a0.tmps i, a0.defers⟩ := by
       obtain ⟨h1, h2, h3, h4⟩ := hA
       obtain ⟨T, D⟩ := a
       simp only at h1 h2 h3 h4
       subst h1
       congr 1
       apply Array.ext_getElem?
       intro t
       obtain ⟨k1, k2⟩ := finT_get hfs (fun j => if j = ℓ then a0.tmps.getD ((dstOf ops ℓ).getD 0) undef else vs j) a0.tmps hN i hn0 t
       by_cases hx : ∃ j, j < i /\ dstOf ops j = some t
       ·obtain ⟨j, hj, hd⟩ := hx
        rw [k1 j hj hd]
        by_cases hjl : j = ℓ
        ·subst hjl
         simp only [if_true]
         rw [hd, Option.getD_some]
         have hin := hfs.inb j t hd
         rw [h4 t fun q hq hqd => by rw [hfs.apart q j t hq (by omega) hqd hd, hgf listed hl j (by omega)]; exact hunl2]
         rw [Array.getD_eq_getD_getElem?, Array.getElem?_eq_getElem (by rw [hN]; exact hin)]; rfl
        ·simp only [if_neg hjl]
         exact h3 j t (by omega) hd (by rw [hgf listed hl j (by omega)]; exact hall2 j hj hjl)
       ·rw [k2 (fun j hj hd => hx ⟨j, hj, hd⟩)]
        refine h4 t fun j hj hd => ?_
        rcases Nat.lt_or_ge j i with h | h
        ·exact absurd ⟨j, h, hd⟩ hx
        ·rw [hgf listed hl j hj]; exact htl j hj h
      rw [<- ha] at hq
      have hmn : ∀ a w, wpList P ops Q (ops[ℓ] :: ops.toList.drop (i + 1)) a w -> wpAny P .any ops Q fuel (listed.setIfInBounds i true) a w := fun a w h =>
       any_late1T hfs ht1 hℓ (lateFitT_not ht) fuel _ a w (by simp [hl]) hn9 (by omega) (fun j hj => by
        by_cases hji : j = i
        ·subst hji
         simp [Array.getD_eq_getD_getElem?, Array.getElem?_setIfInBounds, hl, hn9]; omega
        ·have e1 : (listed.setIfInBounds i true).getD j true = listed.getD j true := by
          simp [Array.getD_eq_getD_getElem?, Array.getElem?_setIfInBounds, Ne.symm hji]
         rw [e1]
         rcases Nat.lt_or_ge j i with h5 | h5
         ·by_cases hjl : j = ℓ
          ·rw [hjl, hunl2]; simp
          ·rw [hall2 j h5 hjl]; simp [hjl]; omega
         ·rw [htl j hj h5]; simp; omega) h
      unfold wpOp
      rw [Array.getElem?_eq_getElem hn9]
      simp only
      unfold wpList at hq
      split
      ·rename_i hwn
       rw [if_pos hwn] at hq
       exact hq.imp (Oper.wp_mono hmn) (fun x => x)
      ·rename_i hwn
       rw [if_neg hwn] at hq
       exact hmn _ _ hq
     obtain ⟨hun, o, ho, hdep⟩ := mem_ready.1 hi
     have hlt : i < ops.size := (Array.getElem?_eq_some_iff.1 ho).1
     unfold wpOp
     simp only [ho]
     rw [if_pos (by unfold Region.wanted; rw [hfs.guard i o ho])]
     refine .inl ?_
     have hdo : dstOf ops i = o.dst := by unfold dstOf; rw [ho]; rfl
     have hwl : ∀ j, waits .any ops i j = true -> listed.getD j false = true /\ j < n0 := by
      intro j hwj
      unfold waits at hwj
      rw [ho] at hwj
      simp only [Option.map_some, Option.getD_some, Array.any_eq_true', Bool.and_eq_true, beq_iff_eq] at hwj
      obtain ⟨e, he, hb, rfl⟩ := hwj
      exact ⟨hdep e he hb, by have := hfs.back i o e ho he hb; omega⟩
     have hD := (hop i hin).step a.eval w (fun _ => rfl) (fun _ => rfl) (fun _ => rfl) (fun t ht' => by
       show a.tmps.getD t undef = _
       rw [Array.getD_eq_getD_getElem?, Array.getD_eq_getD_getElem?, hA.2.2.2 t fun j hj hjt => absurd hjt (ht' j hj)])
      (fun j t hwj hjt => by
       obtain ⟨h1, h1n⟩ := hwl j hwj
       have h2 := hA.2.2.1 j t (by omega) hjt h1
       show V j (a.tmps.getD t undef) w
       rw [Array.getD_eq_getD_getElem?, h2]
       exact hV j h1n h1) (fun j hwj _ => ⟨vs j, hV j (hwl j hwj).2 (hwl j hwj).1⟩) hS o ho
     refine Does.wp hD ?_
     rintro v w' ⟨hv, hs⟩
     rw [<- hdo]
     have hfl : (List.range ops.size).filter (fun j => !(listed.setIfInBounds i true).getD j true) = ((List.range ops.size).filter fun j => !listed.getD j true).filter fun j => j != i := by
      rw [List.filter_filter]
      apply List.filter_congr
      intro j hj
      by_cases hji : j = i
      ·subst hji
       simp [Array.getD_eq_getD_getElem?, Array.getElem?_setIfInBounds, hl, hlt]
      ·simp [Array.getD_eq_getD_getElem?, Array.getElem?_setIfInBounds, Ne.symm hji, hji]
     refine ih (listed.setIfInBounds i true) (a.put (dstOf ops i) v) w' _ (by simp [hl]) ?_ (fun j hj hjn => ?_) (hA.step hfs hN hlt hl hun v) (fun j hj hlj' => ?_) (hS.trans hs) (fun b hb j hj => ?_)
     ·rw [hfl]
      have hmem : i ∈ (List.range ops.size).filter fun j => !listed.getD j true := List.mem_filter.2 ⟨List.mem_range.2 hlt, by rw [hun]; rfl⟩
      have hlt2 : (((List.range ops.size).filter fun j => !listed.getD j true).filter fun j => j != i).length < ((List.range ops.size).filter fun j => !listed.getD j true).length := by
       apply List.length_filter_lt_length_iff_exists.2
       exact ⟨i, hmem, by simp⟩
      omega
     ·have hji : j ≠ i := by omega
      rw [Array.getD_eq_getD_getElem?, Array.getElem?_setIfInBounds, if_neg (Ne.symm hji), <- Array.getD_eq_getD_getElem?]
      exact htl j hj hjn
     ·by_cases hji : j = i
      ·subst hji; simp only [if_true]; exact hv
      ·simp only [if_neg hji]
       refine hst j _ w w' hj (hV j hj ?_) hs
       rw [Array.getD_eq_getD_getElem?, Array.getElem?_setIfInBounds] at hlj'
       rw [Array.getD_eq_getD_getElem?]
       simpa [Ne.symm hji] using hlj'
     ·have hkeep : ∀ q, listed.getD q false = true -> (listed.setIfInBounds i true).getD q false = true := by
       intro q hq
       by_cases hqi : q = i
       ·subst hqi; simp [Array.getD_eq_getD_getElem?, Array.getElem?_setIfInBounds, hl, hlt]
       ·rw [Array.getD_eq_getD_getElem?, Array.getElem?_setIfInBounds, if_neg (Ne.symm hqi), <- Array.getD_eq_getD_getElem?]; exact hq
      by_cases hbi : b = i
      ·subst hbi; exact hkeep j (hwl j hj).1
      ·rw [Array.getD_eq_getD_getElem?, Array.getElem?_setIfInBounds, if_neg (Ne.symm hbi), <- Array.getD_eq_getD_getElem?] at hb
       exact hkeep j (hcl b hb j hj)
 refine main ops.size _ a0 _ (fun _ => undef) (by simp) (by have := List.length_filter_le (fun j => !(Array.replicate ops.size false).getD j true) (List.range ops.size); rw [List.length_range] at this; exact this) (fun j hj _ => ?_) ⟨rfl, rfl, fun j t hj _ h => ?_, fun t _ => rfl⟩ (fun j hj h => ?_) (Kept.drew _) (fun b hb => ?_)
 ·simp [Array.getD_eq_getD_getElem?, hj]
 ·simp [Array.getD_eq_getD_getElem?, hj] at h
 ·simp [Array.getD_eq_getD_getElem?, (show j < ops.size by omega)] at h
 ·exfalso
  rw [Array.getD_eq_getD_getElem?] at hb
  rcases Nat.lt_or_ge b ops.size with h | h
  ·rw [Array.getElem?_replicate, if_pos h] at hb; cases hb
  ·rw [Array.getElem?_replicate, if_neg (by omega)] at hb; cases hb
end
end Fre
end Go.Proofs.YtpbmjfjnmcpieaaGreat
