/- Lemmas for the proof. -/
import Derived.Test.YtnmdjggdgakeoaaGreatPXm
set_option maxRecDepth 100000
set_option maxHeartbeats 16000000
set_option linter.unusedVariables false
set_option linter.unusedSimpArgs false
set_option linter.unusedSectionVars false
namespace Go.Proofs.YtnmdjggdgakeoaaGreat
open Go Go.RowKit Sha
theorem BaseAt.lines {w : World} {X : BaseR} (h : BaseAt w X) : X.D.n = 32 * totalN X.n X.x := by have := h.len; omega
theorem stPut_c {X : BaseR} (k n : Nat) (a : Option Addr) (cap : Nat) (l : List Nat) (hl : l.length = n) (h0 : 0 < n) (hk : 256 * k + n <= 256 * totalN X.n X.x) (w : World) (h : BaseAt w X) (hB : BytesAt w a cap l) (ha : ∀ q, a = some q -> ¬ X.dS q.block) :
  Calls Tryz.prog 260 #[.agg (baseV X), .int .i64 (k : Int), .slice a n cap] w fun r w' => r = .returned (.int .i64 0) /\ ∃ av', BaseTo w w' X { X with av := av', N := splL X.N (256 * k) l } := by
 obtain ⟨g, o, rfl, _, hgl, _⟩ := hB.2 (by omega)
 have ht : totalN X.n X.x <= 98 := by
  have h1 := geo_ok h.geo
  have h2 := leavesN_le X.n h1.2.1
  unfold totalN; omega
 have hlen := h.len
 have hb1 : Below w.heap.size w (w.alloc (.cells (baseV X) 90)) := below_al (Below.refl _ _) _
 obtain ⟨w1, hw1⟩ : ∃ w1, w1 = w.alloc (.cells (baseV X) 90) := ⟨_, rfl⟩
 have hx1 : w1.heap[w.heap.size]? = some (.cells (baseV X) 90 (0, 0)) := by rw [hw1]; exact heap_new' _ _
 rw [<- hw1] at hb1;have hat1 := (h.on.below hb1).holds
 have hbs1 := hB.up hb1 (Nat.le_refl _)
 have cx0 : w1.cell? ⟨w.heap.size, 0, none⟩ = some (.pointer (some ⟨X.D.d, 0, none⟩)) := (cells_at hx1 0).trans rfl
 have hst := devStore_c (256 * k) n (some ⟨g, o, none⟩) cap l hl (by rw [hlen]; exact hk) w1 hat1.dev hbs1 (fun q hq => ⟨ha q hq, by injection hq with hq; rw [<- hq]; exact Nat.lt_of_lt_of_le hgl hb1.size⟩)
 have HGB := Lib.hid (fun w => gBytes_c k (by omega) w)
 have HST := Lib.hid hst;have H := Lib.hid h;have HAT1 := Lib.hid hat1;have HB1 := Lib.hid hb1;have HX1 := Lib.hid hx1;have HK := Lib.hid hk;have HLEN := Lib.hid hlen;have HLS := Lib.hid h.lt;clear h hB ha hl hk hgl ht hlen hb1 hx1 hat1 hbs1 hst
 go_enter Tryz.func260, Tryz.ntmps260
 go_upto_region 1 with fail
 rw [<- hw1];clear hw1;go_wp2_with fail
 refine (HGB.out _).mono ?_
 rintro r wq ⟨rfl, rfl⟩
 go_wp2_with fail
 refine HST.out.mono ?_
 rintro r w2 ⟨rfl, av2, hd2, hc2, hn2⟩
 have hto := HAT1.out.dev_to hd2 hc2 hn2
 have hx2 := (hc2.block _ (lt_blk HX1.out) (fun e => by have := HLS.out _ (.inl e); omega)).trans HX1.out
 have cx2 : w2.cell? ⟨w.heap.size, 0, none⟩ = some (.pointer (some ⟨X.D.d, 0, none⟩)) := (cells_at hx2 0).trans rfl
 have hfl := devFlush_c (256 * k) n (by rw [HLEN.out]; exact HK.out) (by have := H.out.lines; omega) w2 hd2
 have HFL := Lib.hid hfl;have HTO := Lib.hid hto;clear hd2 hc2 hn2 hx2 hfl hto cx0;go_wp2_with fail
 refine HFL.out.mono ?_
 rintro r w3 ⟨rfl, av3, hd3, hc3, hn3⟩
 have hto3 := (BaseTo.below H.out HB1.out).trans (HTO.out.trans (HTO.out.at'.dev_to hd3 hc3 hn3))
 have HT3 := Lib.hid hto3;clear hd3 hc3 hn3 hto3;go_wp2
 go_ret
 exact ⟨rfl, av3, HT3.out⟩
theorem load_base {w0 w : World} {gb : Nat} {X : BaseR} (h0 : w0.heap[gb]? = some (.cells (baseV X) 90 (0, 0))) (hS : Fre.Kept w0 w) : (loadVar 90 ⟨gb, 0, none⟩).run Tryz.prog w = .ok (.agg (baseV X)) w :=
 run_loadVar_row w gb _ 90 (baseV X) _ _ ((hS.block gb (lt_blk h0)).trans h0) Tryz.underlying90 rfl (by rw [base6]; rfl)
theorem load_bgeo {w0 w : World} {gb : Nat} {X : BaseR} (h0 : w0.heap[gb]? = some (.cells (baseV X) 90 (0, 0))) (hS : Fre.Kept w0 w) : (loadVar 44 ⟨gb, 4, none⟩).run Tryz.prog w = .ok (.agg #[.int .i64 (X.n : Int), .int .i64 (X.x : Int)]) w :=
 run_loadVar_mid (P := Tryz.prog) w gb 4 44 [.int .i64 (X.n : Int), .int .i64 (X.x : Int)] _ (fun j v hv => by
  rw [cells_at ((hS.block gb (lt_blk h0)).trans h0) (4 + j)]
  rcases j with _ | _ | j
  ·exact hv
  ·exact hv
  ·simp at hv) Tryz.underlying44 rfl (by rw [geo2]; rfl)
def opsScr : {o : Array Oper // some o = (Tryz.f205.body.bind (Fre.findR 1))} := ⟨_, rfl⟩
theorem fitScr : Fre.fit .any opsScr.1 20 = true := by kernel_rfl
theorem sizeScr : opsScr.1.size = 9 := by kernel_rfl
theorem tailScr : Fre.tailFitT .any opsScr.1 7 = true := by kernel_rfl
def VScr (X : BaseR) (gb n B : Nat) (i : Nat) (v : Value) (w : World) : Prop := match i with
 | 0 => v = .agg (baseV X)
 | 1 => v = .pointer (some ⟨gb, 4, none⟩)
 | 2 => v = .agg #[.int .i64 (X.n : Int), .int .i64 (X.x : Int)]
 | 3 => v = .int .i64 (leavesN X.n : Int)
 | 4 => v = .int .i64 (n : Int)
 | 5 => v = .int .i64 ((256 * n : Nat) : Int)
 | 6 => ∃ q, v = .slice (some ⟨q, 0, none⟩) (256 * n) (256 * n) /\ B <= q /\ w.heap[q]? = some (.cells (bA (List.replicate (256 * n) 0)) 5 (0, 0))
 | _ => True
section
variable {u0 u3 u4 u5 u6 u7 u8 u9 u10 u11 u12 u13 u14 u15 u16 u17 u18 u19 : Value}
theorem kpScr (X : BaseR) (gb n B : Nat) : ∀ j v w w', j < 7 -> VScr X gb n B j v w -> Fre.Kept w w' -> VScr X gb n B j v w' := by
 intro j v w w' hj h hs
 rcases cs7 hj with rfl | rfl | rfl | rfl | rfl | rfl | rfl
 any_goals exact h
 ·change ∃ q, v = .slice (some ⟨q, 0, none⟩) (256 * n) (256 * n) /\ B <= q /\ w.heap[q]? = some (.cells (bA (List.replicate (256 * n) 0)) 5 (0, 0)) at h
  obtain ⟨q, h1, h2, h3⟩ := h
  exact ⟨q, h1, h2, (hs.block _ (lt_blk h3)).trans h3⟩
variable {X : BaseR} {gb n B : Nat} {a0 : Act} {w0 : World} (h0 : w0.heap[gb]? = some (.cells (baseV X) 90 (0, 0))) (hg : geoB X.n X.x = true) (hn : n <= 100) (hB : B <= w0.heap.size)
include h0 hg hn hB
theorem stScr_0 (g92 : a0.tmps.getD 2 undef = .pointer (some ⟨gb, 0, none⟩)) : Fre.StepB Tryz.prog opsScr.1 a0 w0 (VScr X gb n B) Fre.Kept 0 := by
 rintro E w hc hf hE hV hN hS _ ⟨⟩
 simp only [opsScr, gA, gS, gZ]
 have b2 : E (.tmp 2) = .pointer (some ⟨gb, 0, none⟩) := (hE 2 (by kernel_rfl)).trans g92
 clear g92;have hr := load_base h0 hS
 refine Fre.dv (v := .agg (baseV X)) ?_
 unfold execOp;simp only [b2, Instr.loadAt, Instr.sureAddr, Sem.run_bind, Sem.run_pure, Result.andThen_ok, hr]
theorem stScr_1 (g92 : a0.tmps.getD 2 undef = .pointer (some ⟨gb, 0, none⟩)) : Fre.StepB Tryz.prog opsScr.1 a0 w0 (VScr X gb n B) Fre.Kept 1 := by
 rintro E w hc hf hE hV hN hS _ ⟨⟩
 simp only [opsScr, gA, gS, gZ]
 have b2 : E (.tmp 2) = .pointer (some ⟨gb, 0, none⟩) := (hE 2 (by kernel_rfl)).trans g92
 clear g92;refine Fre.dv (v := .pointer (some ⟨gb, 4, none⟩)) ?_
 go_simp
theorem stScr_2 : Fre.StepB Tryz.prog opsScr.1 a0 w0 (VScr X gb n B) Fre.Kept 2 := by
 rintro E w hc hf hE hV hN hS _ ⟨⟩
 simp only [opsScr, gA, gS, gZ]
 have d1 : E (.tmp 7) = .pointer (some ⟨gb, 4, none⟩) := hV 1 7 (by kernel_rfl) (by kernel_rfl)
 have hr := load_bgeo h0 hS
 refine Fre.dv (v := .agg #[.int .i64 (X.n : Int), .int .i64 (X.x : Int)]) ?_
 unfold execOp;simp only [d1, Instr.loadAt, Instr.sureAddr, Sem.run_bind, Sem.run_pure, Result.andThen_ok, hr]
theorem stScr_3 : Fre.StepB Tryz.prog opsScr.1 a0 w0 (VScr X gb n B) Fre.Kept 3 := by
 rintro E w hc hf hE hV hN hS _ ⟨⟩
 simp only [opsScr, gA, gS, gZ]
 have d2 : E (.tmp 8) = .agg #[.int .i64 (X.n : Int), .int .i64 (X.x : Int)] := hV 2 8 (by kernel_rfl) (by kernel_rfl)
 refine Fre.Does.enter (f := 221) (args := #[.agg #[.int .i64 (X.n : Int), .int .i64 (X.x : Int)], .int .i64 0]) (w' := w) ?_ ((gLogAt_c hg 0 (by omega) w).mono ?_)
 ·go_simp
 ·rintro e w' ⟨rfl, hk'⟩
  rw [if_pos (by omega)]
  exact ⟨_, rfl, rfl, hk'⟩
theorem stScr_4 (g91 : a0.tmps.getD 1 undef = .int .i64 (n : Int)) : Fre.StepB Tryz.prog opsScr.1 a0 w0 (VScr X gb n B) Fre.Kept 4 := by
 rintro E w hc hf hE hV hN hS _ ⟨⟩
 simp only [opsScr, gA, gS, gZ]
 have b1 : E (.tmp 1) = .int .i64 (n : Int) := (hE 1 (by kernel_rfl)).trans g91
 clear g91;refine Fre.dv (v := .int .i64 (n : Int)) ?_
 go_simp
theorem stScr_5 : Fre.StepB Tryz.prog opsScr.1 a0 w0 (VScr X gb n B) Fre.Kept 5 := by
 rintro E w hc hf hE hV hN hS _ ⟨⟩
 simp only [opsScr, gA, gS, gZ]
 have d4 : E (.tmp 10) = .int .i64 (n : Int) := hV 4 10 (by kernel_rfl) (by kernel_rfl)
 refine Fre.Does.enter (f := 47) (args := #[.int .i64 (n : Int)]) (w' := w) ?_ ((gBytes_c n (by omega) w).mono ?_)
 ·go_simp
 ·rintro e w' ⟨rfl, rfl⟩
  exact ⟨_, rfl, rfl, Fre.Kept.refl _⟩
theorem stScr_6 : Fre.StepB Tryz.prog opsScr.1 a0 w0 (VScr X gb n B) Fre.Kept 6 := by
 rintro E w hc hf hE hV hN hS _ ⟨⟩
 simp only [opsScr, gA, gS, gZ]
 have d5 : E (.tmp 11) = .int .i64 ((256 * n : Nat) : Int) := hV 5 11 (by kernel_rfl) (by kernel_rfl)
 have hmk := mk_bytes (256 * n) (by omega) w
 refine Fre.Does.value (v := .slice (some ⟨w.heap.size, 0, none⟩) (256 * n) (256 * n)) (w' := w.alloc (.cells (bA (List.replicate (256 * n) 0)) 5)) ?_ ⟨⟨_, rfl, Nat.le_trans hB hS.size, heap_new' _ _⟩, below_box _ _⟩
 unfold execOp;simp only [d5, Sem.run_bind, hmk, Result.andThen_ok]
 rfl
variable (X gb n B w0)
theorem regionScr {QQ : Exit -> Act -> World -> Prop} (hQ : ∀ (vs : Nat -> Value) w, (∀ j, j < 7 -> VScr X gb n B j (vs j) w) -> Fre.Kept w0 w -> wpList Tryz.prog opsScr.1 QQ (opsScr.1.toList.drop 7) ⟨#[u0, .int .i64 (n : Int), .pointer (some ⟨gb, 0, none⟩), u3, u4, u5, vs 0, vs 1, vs 2, vs 3, vs 4, vs 5, vs 6, u13, u14, u15, u16, u17, u18, u19], []⟩ w) : (Code.region 1 opsScr.1 true).wp Tryz.prog QQ ⟨#[u0, .int .i64 (n : Int), .pointer (some ⟨gb, 0, none⟩), u3, u4, u5, u6, u7, u8, u9, u10, u11, u12, u13, u14, u15, u16, u17, u18, u19], []⟩ w0 := by
 refine Fre.region_tailT 20 7 (by kernel_rfl) fitScr rfl tailScr (by rw [sizeScr]; omega) (VScr X gb n B) (kpScr X gb n B) (fun i hi => ?_) (fun vs w h1 h2 => ?_)
 case refine_2 =>
  have h9 := hQ vs w h1 h2
  exact Fre.fe (p := fun t => wpList Tryz.prog opsScr.1 QQ (opsScr.1.toList.drop 7) ⟨t, []⟩ w) h9 (by kernel_rfl)
 rcases cs7 hi with rfl | rfl | rfl | rfl | rfl | rfl | rfl
 ·exact stScr_0 h0 hg hn hB rfl
 ·exact stScr_1 h0 hg hn hB rfl
 ·exact stScr_2 h0 hg hn hB
 ·exact stScr_3 h0 hg hn hB
 ·exact stScr_4 h0 hg hn hB rfl
 ·exact stScr_5 h0 hg hn hB
 ·exact stScr_6 h0 hg hn hB
end
theorem zeros_lt (n : Nat) : ∀ x ∈ List.replicate n 0, x < 256 := fun x hx => by rw [List.eq_of_mem_replicate hx]; decide
def zerosL (n : Nat) : List Nat := List.replicate n 0
theorem zerosL_len (n : Nat) : (zerosL n).length = n := List.length_replicate
theorem stScrub_c {X : BaseR} (n : Nat) (h1 : 1 <= n) (hn : n <= 1 + X.x) (w : World) (h : BaseAt w X) :
  Calls Tryz.prog 205 #[.agg (baseV X), .int .i64 (n : Int)] w fun r w' => r = .returned (.int .i64 0) /\ ∃ av', BaseTo w w' X { X with av := av', N := splL X.N (256 * leavesN X.n) (zerosL (256 * n)) } := by
 have hgo := geo_ok h.geo
 have hb1 : Below w.heap.size w (w.alloc (.cells (baseV X) 90)) := below_al (Below.refl _ _) _
 obtain ⟨w1, hw1⟩ : ∃ w1, w1 = w.alloc (.cells (baseV X) 90) := ⟨_, rfl⟩
 have hx1 : w1.heap[w.heap.size]? = some (.cells (baseV X) 90 (0, 0)) := by rw [hw1]; exact heap_new' _ _
 rw [<- hw1] at hb1;have H := Lib.hid h;have HB1 := Lib.hid hb1;have HX1 := Lib.hid hx1;have HLS := Lib.hid h.lt;have HN := Lib.hid (And.intro h1 (And.intro hn hgo))
 obtain ⟨z, hz⟩ : ∃ z, z = zerosL (256 * n) := ⟨_, rfl⟩
 rw [<- hz];have HZ := Lib.hid hz;clear h hb1 hx1 hgo h1 hn hz
 go_enter Tryz.func205, Tryz.ntmps205
 go_upto_region 1 with fail
 rw [<- hw1];clear hw1;refine regionScr X w.heap.size n w1.heap.size w1 HX1.out H.out.geo (by have := HN.out; omega) (Nat.le_refl _) ?_
 intro vs w2 hv hk;have v0 : vs 0 = .agg (baseV X) := hv 0 (by omega)
 have v3 : vs 3 = .int .i64 (leavesN X.n : Int) := hv 3 (by omega)
 obtain ⟨q, v6, hq, hqb⟩ := hv 6 (by omega)
 rw [v0, v3, v6]
 have hB2 : Below w.heap.size w w2 := HB1.out.trans (hk.mono HB1.out.size)
 have hat2 := (H.out.on.below hB2).holds
 have hby : BytesAt w2 (some ⟨q, 0, none⟩) (256 * n) z := by
  have e := bytesAt_block (zeros_lt (256 * n)) hqb
  rw [List.length_replicate] at e;rw [HZ.out]; exact e
 have hput := stPut_c (leavesN X.n) (256 * n) (some ⟨q, 0, none⟩) (256 * n) z (by rw [HZ.out]; exact zerosL_len _) (by have := HN.out.1; omega) (by have := HN.out.2.1; unfold totalN; omega) w2 hat2 hby (fun p hp hd => by
  injection hp with hp
  have e2 := HLS.out _ (.inl hd)
  rw [<- hp] at e2;have := HB1.out.size
  simp only at e2
  omega)
 have HPUT := Lib.hid hput;have HB2 := Lib.hid hB2;have HX2 : Hid (w2.heap[w.heap.size]? = some (.cells (baseV X) 90 (0, 0))) := (hk.block _ (lt_blk HX1.out)).trans HX1.out
 simp only [opsScr, List.drop_succ_cons, List.drop_zero]
 clear hv hk v0 v3 v6 hqb hat2 hby hput hB2;go_wp2_with fail
 refine HPUT.out.mono ?_
 rintro r w3 ⟨rfl, av3, hto⟩
 have hx3 := (hto.chg.block _ (lt_blk HX2.out) (fun e => by have := HLS.out _ e; omega)).trans HX2.out
 have cx3 : w3.cell? ⟨w.heap.size, 0, none⟩ = some (.pointer (some ⟨X.D.d, 0, none⟩)) := (cells_at hx3 0).trans rfl
 have hfe := devFence_c w3 hto.at'.dev
 have HFE := Lib.hid hfe;have HTO := Lib.hid hto;clear hto hx3 hfe HPUT;go_wp2_with fail
 refine HFE.out.mono ?_
 rintro r w4 ⟨rfl, av4, hd4, hc4, hn4⟩
 have hto4 := (BaseTo.below H.out HB2.out).trans (HTO.out.trans (HTO.out.at'.dev_to hd4 hc4 hn4))
 have HT4 := Lib.hid hto4;clear hd4 hc4 hn4 hto4;go_wp2
 go_ret
 exact ⟨rfl, av4, HT4.out⟩
theorem padZ_nil (n : Nat) : padZ [] n = zerosL n := by simp [padZ, zerosL]
def blankB (key : List Nat) (e k : Nat) : List Nat := xorL (zerosL 256) (strL key e k 256)
theorem blank_c {X : BaseR} (e k : Nat) (he : e < 18446744073709551616) (hk : k < 65536) (hno : ∀ x ∈ X.M, x.k ≠ (e, k)) (w : World) (h : BaseAt w X) :
  Calls Tryz.prog 201 #[.pointer (some ⟨X.s, 0, none⟩), .int .u64 (e : Int), .int .i64 (k : Int)] w fun r w' =>
   ∃ q, r = .returned (.tuple #[.slice (some ⟨q, 0, none⟩) 256 256, .int .i64 0]) /\ w.heap.size <= q /\ w'.heap[q]? = some (.cells (bA (blankB X.K.key e k)) 5 (0, 0)) /\ ∃ g6 c6, BaseTo w w' X { X with M := X.M ++ [⟨(e, k), g6, c6, zerosL 256⟩] } /\ ¬ ({ X with M := X.M ++ [⟨(e, k), g6, c6, zerosL 256⟩] } : BaseR).S q := by
 have HP := Lib.hid (wpad_c none 0 0 [] rfl (by omega) 256 (by omega) (by omega) 256 rfl w ⟨fun x hx => (by cases hx), fun h0 => absurd h0 (by simp)⟩)
 rw [padZ_nil] at HP;have H := Lib.hid h;have HNO := Lib.hid hno;have HE := Lib.hid (And.intro he hk)
 have HZL := Lib.hid (zerosL_len 256)
 obtain ⟨Z, hZ⟩ : ∃ Z, Z = zerosL 256 := ⟨_, rfl⟩
 have HZ8 : Hid (∀ x ∈ Z, x < 256) := Lib.hid (by rw [hZ]; exact zeros_lt 256)
 obtain ⟨BB, hBB⟩ : ∃ BB, BB = blankB X.K.key e k := ⟨_, rfl⟩
 have HBB : Hid (BB = xorL Z (strL X.K.key e k 256)) := Lib.hid (by rw [hBB, hZ]; rfl)
 rw [<- hBB];rw [<- hZ] at HP HZL ⊢
 clear h hno he hk hZ hBB
 go_enter Tryz.func201, Tryz.ntmps201
 go_wp2_with fail
 refine HP.out.mono ?_
 rintro r w1 ⟨z, rfl, hz1, hz2, hz3, hb1⟩
 have hat1 := (H.out.on.below hb1).holds
 have hby := bytesAt_block HZ8.out hz3
 rw [HZL.out] at hby;have hseal := sealn_c H.out.key e k HE.out.1 HE.out.2 HNO.out (some ⟨z, 0, none⟩) 256 Z HZL.out w1 hat1.sl hby
 have HSE := Lib.hid hseal;have HB1 := Lib.hid hb1;have HAT := Lib.hid hat1;clear hz1 hz2 hz3 hb1 hat1 hby hseal HP;go_wp2_with fail
 refine HSE.out.mono ?_
 rintro r w2 ⟨q, g6, c6, rfl, hq1, hq2, hq3, hsl, hch, hqn⟩
 have hnew : ∀ i, slnS X.s X.m X.K (X.M ++ [⟨(e, k), g6, c6, Z⟩]) i -> X.sS i \/ w1.heap.size <= i := fun i hi => by
  rcases hi with h | h | h | h | h | ⟨y, hy, h⟩
  ·exact .inl (.inl h)
  ·exact .inl (.inr (.inl h))
  ·exact .inl (.inr (.inr (.inl h)))
  ·exact .inl (.inr (.inr (.inr (.inl h))))
  ·exact .inl (.inr (.inr (.inr (.inr (.inl h)))))
  ·rcases List.mem_append.1 hy with hy | hy
   ·exact .inl (.inr (.inr (.inr (.inr (.inr ⟨y, hy, h⟩)))))
   ·obtain rfl : y = ⟨(e, k), g6, c6, Z⟩ := by simpa using hy
    exact .inr (by rw [<- h]; exact hq2)
 have hto := (BaseTo.below H.out HB1.out).trans (HAT.out.sl_to hsl hch hnew)
 have HTO := Lib.hid hto;have HQ := Lib.hid (And.intro (Nat.le_trans HB1.out.size hq1) hq3)
 have HNQ : Hid (¬ ({ X with M := X.M ++ [⟨(e, k), g6, c6, Z⟩] } : BaseR).S q) := Lib.hid (by
  have hlt := H.out.lt
  have hq0 : w.heap.size <= q := Nat.le_trans HB1.out.size hq1
  rintro (h | h | h | h)
  ·have := hlt q (.inl h); omega
  ·have := hlt q (.inr (.inl h)); omega
  ·exact hqn h
  ·have := hlt q (.inr (.inr (.inr h))); omega)
 clear hq1 hq2 hq3 hsl hch hqn hnew hto;go_wp2
 go_ret2
 exact ⟨q, rfl, HQ.out.1, by rw [HBB.out]; exact HQ.out.2, g6, c6, HTO.out, HNQ.out⟩
def blV (q : Nat) : Value := .slice (some ⟨q, 0, none⟩) 256 256
def blE (q : Nat) : List Value := [blV q]
theorem blRT : RowTy Tryz.prog blV blE 1 24 23 22 :=
 ⟨Tryz.underlying23, ⟨.slice none 0 0, by kernel_rfl, rfl⟩, fun x => rfl, fun x => rfl, fun x v hv => by simp [blE] at hv; subst hv; rfl, by decide⟩
def foundA (X : BaseR) (kd : Int) (bv : Value) (rest : Array Value) : Array Value := baseV X ++ (#[.int .i64 kd, bv] ++ rest)
abbrev Bl := Nat × List Nat
structure FndAt (w : World) (f : Nat) (X : BaseR) (kd : Int) (bv : Value) (BL : List Bl) (rest : Array Value) : Prop where
 blk : w.heap[f]? = some (.cells (foundA X kd bv rest) 251 (0, 0))
 own : w.ownsRow 0 22 1 bv BL.length (cellsK blE (BL.map (·.1)))
 rows : ∀ x ∈ BL, w.heap[x.1]? = some (.cells (bA x.2) 5 (0, 0)) /\ x.2.length = 256 /\ ∀ y ∈ x.2, y < 256
 ne : bv.ownBlock ≠ some f /\ ∀ x ∈ BL, x.1 ≠ f /\ bv.ownBlock ≠ some x.1
def fndS (f : Nat) (bv : Value) (BL : List Bl) : BSet := fun k => k = f \/ bv.ownBlock = some k \/ ∃ x ∈ BL, x.1 = k
theorem FndAt.on {w : World} {f : Nat} {X : BaseR} {kd : Int} {bv : Value} {BL : List Bl} {rest : Array Value} (h : FndAt w f X kd bv BL rest) : On (fndS f bv BL) (fun w => FndAt w f X kd bv BL rest) w := by
 have ho := On.own h.own
 refine ⟨h, ?_, fun w' he => ⟨(he f (.inl rfl)).trans h.blk, ho.keep w' fun k hk => he k (.inr (.inl hk)), fun x hx => ⟨(he x.1 (.inr (.inr ⟨x, hx, rfl⟩))).trans (h.rows x hx).1, (h.rows x hx).2⟩, h.ne⟩⟩
 rintro k (rfl | hk | ⟨x, hx, rfl⟩)
 ·exact lt_blk h.blk
 ·exact ho.lt k hk
 ·exact lt_blk (h.rows x hx).1
theorem FndAt.re {w : World} {f : Nat} {X Y : BaseR} {kd : Int} {bv : Value} {BL : List Bl} {rest : Array Value} (h : FndAt w f X kd bv BL rest) (hb : baseV Y = baseV X) : FndAt w f Y kd bv BL rest :=
 ⟨by have h1 := h.blk; unfold foundA at h1 ⊢; rw [hb]; exact h1, h.own, h.rows, h.ne⟩
theorem foundA_base (X : BaseR) (kd : Int) (bv : Value) (rest : Array Value) (j : Nat) (hj : j < 6) : (foundA X kd bv rest)[j]? = (baseV X)[j]? := Array.getElem?_append_left hj
theorem foundA_bv (X : BaseR) (kd : Int) (bv : Value) (rest : Array Value) : (foundA X kd bv rest)[7]? = some bv := by
 unfold foundA; rw [Array.getElem?_append_right (show 6 <= 7 by decide), Array.getElem?_append_left (show 1 < 2 by decide)]; rfl
theorem load_fbase {w : World} {f : Nat} {X : BaseR} {kd : Int} {bv : Value} {rest : Array Value} (h : w.heap[f]? = some (.cells (foundA X kd bv rest) 251 (0, 0))) : (loadVar 90 ⟨f, 0, none⟩).run Tryz.prog w = .ok (.agg (baseV X)) w := by
 have hr := run_loadVar_mid (P := Tryz.prog) w f 0 90 (baseV X).toList _ (fun j v hv => by
  have hj : j < 6 := (List.getElem?_eq_some_iff.1 hv).1
  rw [Nat.zero_add, cells_at h j, foundA_base X kd bv rest j hj, <- Array.getElem?_toList]; exact hv) Tryz.underlying90 rfl (by rw [base6]; rfl)
 exact hr
def opsFpu : {o : Array Oper // some o = (Tryz.f203.body.bind (Fre.findR 1))} := ⟨_, rfl⟩
theorem fitFpu : Fre.fit .any opsFpu.1 18 = true := by kernel_rfl
theorem sizeFpu : opsFpu.1.size = 14 := by kernel_rfl
theorem tailFpu : Fre.tailFitT .any opsFpu.1 12 = true := by kernel_rfl
def VFpu (f k n cp q la : Nat) (X : BaseR) (kd : Int) (bv : Value) (rest : Array Value) (i : Nat) (v : Value) (w : World) : Prop := match i with
 | 0 => v = .pointer (some ⟨f, 0, none⟩)
 | 1 => v = .pointer (some ⟨f, 0, none⟩)
 | 2 => v = .pointer (some ⟨f, 0, none⟩)
 | 3 => v = .agg (baseV X)
 | 4 => v = .int .i64 (k : Int)
 | 5 => v = .pointer (some ⟨f, 0, none⟩)
 | 6 => v = .pointer (some ⟨f, 0, none⟩)
 | 7 => v = .pointer (some ⟨f, 7, none⟩)
 | 8 => v = .slice (some ⟨la, 0, none⟩) n cp
 | 9 => v = .int .i64 (k : Int)
 | 10 => v = .pointer (some ⟨la, k, none⟩)
 | 11 => v = .slice (some ⟨q, 0, none⟩) 256 256
 | _ => True
section
variable {u2 u3 u4 u5 u6 u7 u8 u9 u10 u11 u12 u13 u14 u15 u16 u17 : Value}
theorem kpFpu (f k n cp q la : Nat) (X : BaseR) (kd : Int) (bv : Value) (rest : Array Value) : ∀ j v w w', j < 12 -> VFpu f k n cp q la X kd bv rest j v w -> Fre.Kept w w' -> VFpu f k n cp q la X kd bv rest j v w' := by
 intro j v w w' hj h hs
 rcases cs12 hj with rfl | rfl | rfl | rfl | rfl | rfl | rfl | rfl | rfl | rfl | rfl | rfl <;> exact h
variable {f k n cp q la : Nat} {X : BaseR} {kd : Int} {bv : Value} {rest : Array Value} {a0 : Act} {w0 : World} (h0 : w0.heap[f]? = some (.cells (foundA X kd bv rest) 251 (0, 0))) (hbv : bv = .slice (some ⟨la, 0, none⟩) n cp) (h1 : w0.cell? ⟨la, k, none⟩ = some (.slice (some ⟨q, 0, none⟩) 256 256)) (hk : k < n) (hn : n <= 1000)
include h0 hbv h1 hk hn
theorem stFpu_0 (g90 : a0.tmps.getD 0 undef = .pointer (some ⟨f, 0, none⟩)) : Fre.StepB Tryz.prog opsFpu.1 a0 w0 (VFpu f k n cp q la X kd bv rest) Fre.Kept 0 := by
 rintro E w hc hf hE hV hN hS _ ⟨⟩
 simp only [opsFpu, gA, gS, gZ]
 have b0 : E (.tmp 0) = .pointer (some ⟨f, 0, none⟩) := (hE 0 (by kernel_rfl)).trans g90
 clear g90;refine Fre.dv (v := .pointer (some ⟨f, 0, none⟩)) ?_
 go_simp
theorem stFpu_1 : Fre.StepB Tryz.prog opsFpu.1 a0 w0 (VFpu f k n cp q la X kd bv rest) Fre.Kept 1 := by
 rintro E w hc hf hE hV hN hS _ ⟨⟩
 simp only [opsFpu, gA, gS, gZ]
 have d0 : E (.tmp 5) = .pointer (some ⟨f, 0, none⟩) := hV 0 5 (by kernel_rfl) (by kernel_rfl)
 refine Fre.dv (v := .pointer (some ⟨f, 0, none⟩)) ?_
 go_simp
theorem stFpu_2 : Fre.StepB Tryz.prog opsFpu.1 a0 w0 (VFpu f k n cp q la X kd bv rest) Fre.Kept 2 := by
 rintro E w hc hf hE hV hN hS _ ⟨⟩
 simp only [opsFpu, gA, gS, gZ]
 have d1 : E (.tmp 6) = .pointer (some ⟨f, 0, none⟩) := hV 1 6 (by kernel_rfl) (by kernel_rfl)
 refine Fre.dv (v := .pointer (some ⟨f, 0, none⟩)) ?_
 go_simp
theorem stFpu_3 : Fre.StepB Tryz.prog opsFpu.1 a0 w0 (VFpu f k n cp q la X kd bv rest) Fre.Kept 3 := by
 rintro E w hc hf hE hV hN hS _ ⟨⟩
 simp only [opsFpu, gA, gS, gZ]
 have d2 : E (.tmp 7) = .pointer (some ⟨f, 0, none⟩) := hV 2 7 (by kernel_rfl) (by kernel_rfl)
 have hr := load_fbase ((hS.block f (lt_blk h0)).trans h0)
 refine Fre.dv (v := .agg (baseV X)) ?_
 unfold execOp;simp only [d2, Instr.loadAt, Instr.sureAddr, Sem.run_bind, Sem.run_pure, Result.andThen_ok, hr]
theorem stFpu_4 (g91 : a0.tmps.getD 1 undef = .int .i64 (k : Int)) : Fre.StepB Tryz.prog opsFpu.1 a0 w0 (VFpu f k n cp q la X kd bv rest) Fre.Kept 4 := by
 rintro E w hc hf hE hV hN hS _ ⟨⟩
 simp only [opsFpu, gA, gS, gZ]
 have b1 : E (.tmp 1) = .int .i64 (k : Int) := (hE 1 (by kernel_rfl)).trans g91
 clear g91;refine Fre.dv (v := .int .i64 (k : Int)) ?_
 go_simp
theorem stFpu_5 (g90 : a0.tmps.getD 0 undef = .pointer (some ⟨f, 0, none⟩)) : Fre.StepB Tryz.prog opsFpu.1 a0 w0 (VFpu f k n cp q la X kd bv rest) Fre.Kept 5 := by
 rintro E w hc hf hE hV hN hS _ ⟨⟩
 simp only [opsFpu, gA, gS, gZ]
 have b0 : E (.tmp 0) = .pointer (some ⟨f, 0, none⟩) := (hE 0 (by kernel_rfl)).trans g90
 clear g90;refine Fre.dv (v := .pointer (some ⟨f, 0, none⟩)) ?_
 go_simp
theorem stFpu_6 : Fre.StepB Tryz.prog opsFpu.1 a0 w0 (VFpu f k n cp q la X kd bv rest) Fre.Kept 6 := by
 rintro E w hc hf hE hV hN hS _ ⟨⟩
 simp only [opsFpu, gA, gS, gZ]
 have d5 : E (.tmp 10) = .pointer (some ⟨f, 0, none⟩) := hV 5 10 (by kernel_rfl) (by kernel_rfl)
 refine Fre.dv (v := .pointer (some ⟨f, 0, none⟩)) ?_
 go_simp
theorem stFpu_7 : Fre.StepB Tryz.prog opsFpu.1 a0 w0 (VFpu f k n cp q la X kd bv rest) Fre.Kept 7 := by
 rintro E w hc hf hE hV hN hS _ ⟨⟩
 simp only [opsFpu, gA, gS, gZ]
 have d6 : E (.tmp 11) = .pointer (some ⟨f, 0, none⟩) := hV 6 11 (by kernel_rfl) (by kernel_rfl)
 refine Fre.dv (v := .pointer (some ⟨f, 7, none⟩)) ?_
 go_simp
theorem stFpu_8 : Fre.StepB Tryz.prog opsFpu.1 a0 w0 (VFpu f k n cp q la X kd bv rest) Fre.Kept 8 := by
 rintro E w hc hf hE hV hN hS _ ⟨⟩
 simp only [opsFpu, gA, gS, gZ]
 have d7 : E (.tmp 12) = .pointer (some ⟨f, 7, none⟩) := hV 7 12 (by kernel_rfl) (by kernel_rfl)
 have c0 : w.cell? ⟨f, 7, none⟩ = some (.slice (some ⟨la, 0, none⟩) n cp) := by rw [cells_at ((hS.block f (lt_blk h0)).trans h0) 7, foundA_bv, hbv]
 refine Fre.dv (v := .slice (some ⟨la, 0, none⟩) n cp) ?_
 go_simp
theorem stFpu_9 (g91 : a0.tmps.getD 1 undef = .int .i64 (k : Int)) : Fre.StepB Tryz.prog opsFpu.1 a0 w0 (VFpu f k n cp q la X kd bv rest) Fre.Kept 9 := by
 rintro E w hc hf hE hV hN hS _ ⟨⟩
 simp only [opsFpu, gA, gS, gZ]
 have b1 : E (.tmp 1) = .int .i64 (k : Int) := (hE 1 (by kernel_rfl)).trans g91
 clear g91;refine Fre.dv (v := .int .i64 (k : Int)) ?_
 go_simp
theorem stFpu_10 : Fre.StepB Tryz.prog opsFpu.1 a0 w0 (VFpu f k n cp q la X kd bv rest) Fre.Kept 10 := by
 rintro E w hc hf hE hV hN hS _ ⟨⟩
 simp only [opsFpu, gA, gS, gZ]
 have d8 : E (.tmp 13) = .slice (some ⟨la, 0, none⟩) n cp := hV 8 13 (by kernel_rfl) (by kernel_rfl)
 have d9 : E (.tmp 14) = .int .i64 (k : Int) := hV 9 14 (by kernel_rfl) (by kernel_rfl)
 have l1 : (k : Int) < (n : Int) := by omega
 have l2 : ¬ (k : Int) < 0 := by omega
 refine Fre.dv (v := .pointer (some ⟨la, k, none⟩)) ?_
 go_simp
theorem stFpu_11 : Fre.StepB Tryz.prog opsFpu.1 a0 w0 (VFpu f k n cp q la X kd bv rest) Fre.Kept 11 := by
 rintro E w hc hf hE hV hN hS _ ⟨⟩
 simp only [opsFpu, gA, gS, gZ]
 have d10 : E (.tmp 15) = .pointer (some ⟨la, k, none⟩) := hV 10 15 (by kernel_rfl) (by kernel_rfl)
 have c0 : w.cell? ⟨la, k, none⟩ = some (.slice (some ⟨q, 0, none⟩) 256 256) := by have hlt := cell_lt h1; rw [<- h1]; simp only [World.cell?, hS.block la hlt]
 refine Fre.dv (v := .slice (some ⟨q, 0, none⟩) 256 256) ?_
 go_simp
variable (f k n cp q la X kd bv rest w0)
theorem regionFpu {QQ : Exit -> Act -> World -> Prop} (hQ : ∀ (vs : Nat -> Value) w, (∀ j, j < 12 -> VFpu f k n cp q la X kd bv rest j (vs j) w) -> Fre.Kept w0 w -> wpList Tryz.prog opsFpu.1 QQ (opsFpu.1.toList.drop 12) ⟨#[.pointer (some ⟨f, 0, none⟩), .int .i64 (k : Int), u2, u3, u4, vs 0, vs 1, vs 2, vs 3, vs 4, vs 5, vs 6, vs 7, vs 8, vs 9, vs 10, vs 11, u17], []⟩ w) : (Code.region 1 opsFpu.1 true).wp Tryz.prog QQ ⟨#[.pointer (some ⟨f, 0, none⟩), .int .i64 (k : Int), u2, u3, u4, u5, u6, u7, u8, u9, u10, u11, u12, u13, u14, u15, u16, u17], []⟩ w0 := by
 refine Fre.region_tailT 18 12 (by kernel_rfl) fitFpu rfl tailFpu (by rw [sizeFpu]; omega) (VFpu f k n cp q la X kd bv rest) (kpFpu f k n cp q la X kd bv rest) (fun i hi => ?_) (fun vs w h1 h2 => ?_)
 case refine_2 =>
  have h9 := hQ vs w h1 h2
  exact Fre.fe (p := fun t => wpList Tryz.prog opsFpu.1 QQ (opsFpu.1.toList.drop 12) ⟨t, []⟩ w) h9 (by kernel_rfl)
 rcases cs12 hi with rfl | rfl | rfl | rfl | rfl | rfl | rfl | rfl | rfl | rfl | rfl | rfl
 ·exact stFpu_0 h0 hbv h1 hk hn rfl
 ·exact stFpu_1 h0 hbv h1 hk hn
 ·exact stFpu_2 h0 hbv h1 hk hn
 ·exact stFpu_3 h0 hbv h1 hk hn
 ·exact stFpu_4 h0 hbv h1 hk hn rfl
 ·exact stFpu_5 h0 hbv h1 hk hn rfl
 ·exact stFpu_6 h0 hbv h1 hk hn
 ·exact stFpu_7 h0 hbv h1 hk hn
 ·exact stFpu_8 h0 hbv h1 hk hn
 ·exact stFpu_9 h0 hbv h1 hk hn rfl
 ·exact stFpu_10 h0 hbv h1 hk hn
 ·exact stFpu_11 h0 hbv h1 hk hn
end
def opsFsc : {o : Array Oper // some o = (Tryz.f164.body.bind (Fre.findR 1))} := ⟨_, rfl⟩
theorem fitFsc : Fre.fit .any opsFsc.1 15 = true := by kernel_rfl
theorem sizeFsc : opsFsc.1.size = 13 := by kernel_rfl
theorem tailFsc : Fre.tailFitT .any opsFsc.1 11 = true := by kernel_rfl
def VFsc (f n1 : Nat) (X : BaseR) (kd : Int) (bv : Value) (rest : Array Value) (i : Nat) (v : Value) (w : World) : Prop := match i with
 | 0 => v = .pointer (some ⟨f, 0, none⟩)
 | 1 => v = .pointer (some ⟨f, 0, none⟩)
 | 2 => v = .pointer (some ⟨f, 0, none⟩)
 | 3 => v = .agg (baseV X)
 | 4 => v = .pointer (some ⟨f, 0, none⟩)
 | 5 => v = .pointer (some ⟨f, 0, none⟩)
 | 6 => v = .pointer (some ⟨f, 0, none⟩)
 | 7 => v = .pointer (some ⟨f, 4, none⟩)
 | 8 => v = .pointer (some ⟨f, 5, none⟩)
 | 9 => v = .int .i64 (X.x : Int)
 | 10 => v = .int .i64 (n1 : Int)
 | _ => True
section
variable {u1 u2 u3 u4 u5 u6 u7 u8 u9 u10 u11 u12 u13 u14 : Value}
theorem kpFsc (f n1 : Nat) (X : BaseR) (kd : Int) (bv : Value) (rest : Array Value) : ∀ j v w w', j < 11 -> VFsc f n1 X kd bv rest j v w -> Fre.Kept w w' -> VFsc f n1 X kd bv rest j v w' := by
 intro j v w w' hj h hs
 rcases cs11 hj with rfl | rfl | rfl | rfl | rfl | rfl | rfl | rfl | rfl | rfl | rfl <;> exact h
variable {f n1 : Nat} {X : BaseR} {kd : Int} {bv : Value} {rest : Array Value} {a0 : Act} {w0 : World} (h0 : w0.heap[f]? = some (.cells (foundA X kd bv rest) 251 (0, 0))) (hn1 : n1 = 1 + X.x) (hx : X.x <= 24)
include h0 hn1 hx
theorem stFsc_0 (g90 : a0.tmps.getD 0 undef = .pointer (some ⟨f, 0, none⟩)) : Fre.StepB Tryz.prog opsFsc.1 a0 w0 (VFsc f n1 X kd bv rest) Fre.Kept 0 := by
 rintro E w hc hf hE hV hN hS _ ⟨⟩
 simp only [opsFsc, gA, gS, gZ]
 have b0 : E (.tmp 0) = .pointer (some ⟨f, 0, none⟩) := (hE 0 (by kernel_rfl)).trans g90
 clear g90;refine Fre.dv (v := .pointer (some ⟨f, 0, none⟩)) ?_
 go_simp
theorem stFsc_1 : Fre.StepB Tryz.prog opsFsc.1 a0 w0 (VFsc f n1 X kd bv rest) Fre.Kept 1 := by
 rintro E w hc hf hE hV hN hS _ ⟨⟩
 simp only [opsFsc, gA, gS, gZ]
 have d0 : E (.tmp 3) = .pointer (some ⟨f, 0, none⟩) := hV 0 3 (by kernel_rfl) (by kernel_rfl)
 refine Fre.dv (v := .pointer (some ⟨f, 0, none⟩)) ?_
 go_simp
theorem stFsc_2 : Fre.StepB Tryz.prog opsFsc.1 a0 w0 (VFsc f n1 X kd bv rest) Fre.Kept 2 := by
 rintro E w hc hf hE hV hN hS _ ⟨⟩
 simp only [opsFsc, gA, gS, gZ]
 have d1 : E (.tmp 4) = .pointer (some ⟨f, 0, none⟩) := hV 1 4 (by kernel_rfl) (by kernel_rfl)
 refine Fre.dv (v := .pointer (some ⟨f, 0, none⟩)) ?_
 go_simp
theorem stFsc_3 : Fre.StepB Tryz.prog opsFsc.1 a0 w0 (VFsc f n1 X kd bv rest) Fre.Kept 3 := by
 rintro E w hc hf hE hV hN hS _ ⟨⟩
 simp only [opsFsc, gA, gS, gZ]
 have d2 : E (.tmp 5) = .pointer (some ⟨f, 0, none⟩) := hV 2 5 (by kernel_rfl) (by kernel_rfl)
 have hr := load_fbase ((hS.block f (lt_blk h0)).trans h0)
 refine Fre.dv (v := .agg (baseV X)) ?_
 unfold execOp;simp only [d2, Instr.loadAt, Instr.sureAddr, Sem.run_bind, Sem.run_pure, Result.andThen_ok, hr]
theorem stFsc_4 (g90 : a0.tmps.getD 0 undef = .pointer (some ⟨f, 0, none⟩)) : Fre.StepB Tryz.prog opsFsc.1 a0 w0 (VFsc f n1 X kd bv rest) Fre.Kept 4 := by
 rintro E w hc hf hE hV hN hS _ ⟨⟩
 simp only [opsFsc, gA, gS, gZ]
 have b0 : E (.tmp 0) = .pointer (some ⟨f, 0, none⟩) := (hE 0 (by kernel_rfl)).trans g90
 clear g90;refine Fre.dv (v := .pointer (some ⟨f, 0, none⟩)) ?_
 go_simp
theorem stFsc_5 : Fre.StepB Tryz.prog opsFsc.1 a0 w0 (VFsc f n1 X kd bv rest) Fre.Kept 5 := by
 rintro E w hc hf hE hV hN hS _ ⟨⟩
 simp only [opsFsc, gA, gS, gZ]
 have d4 : E (.tmp 7) = .pointer (some ⟨f, 0, none⟩) := hV 4 7 (by kernel_rfl) (by kernel_rfl)
 refine Fre.dv (v := .pointer (some ⟨f, 0, none⟩)) ?_
 go_simp
theorem stFsc_6 : Fre.StepB Tryz.prog opsFsc.1 a0 w0 (VFsc f n1 X kd bv rest) Fre.Kept 6 := by
 rintro E w hc hf hE hV hN hS _ ⟨⟩
 simp only [opsFsc, gA, gS, gZ]
 have d5 : E (.tmp 8) = .pointer (some ⟨f, 0, none⟩) := hV 5 8 (by kernel_rfl) (by kernel_rfl)
 refine Fre.dv (v := .pointer (some ⟨f, 0, none⟩)) ?_
 go_simp
theorem stFsc_7 : Fre.StepB Tryz.prog opsFsc.1 a0 w0 (VFsc f n1 X kd bv rest) Fre.Kept 7 := by
 rintro E w hc hf hE hV hN hS _ ⟨⟩
 simp only [opsFsc, gA, gS, gZ]
 have d6 : E (.tmp 9) = .pointer (some ⟨f, 0, none⟩) := hV 6 9 (by kernel_rfl) (by kernel_rfl)
 refine Fre.dv (v := .pointer (some ⟨f, 4, none⟩)) ?_
 go_simp
theorem stFsc_8 : Fre.StepB Tryz.prog opsFsc.1 a0 w0 (VFsc f n1 X kd bv rest) Fre.Kept 8 := by
 rintro E w hc hf hE hV hN hS _ ⟨⟩
 simp only [opsFsc, gA, gS, gZ]
 have d7 : E (.tmp 10) = .pointer (some ⟨f, 4, none⟩) := hV 7 10 (by kernel_rfl) (by kernel_rfl)
 refine Fre.dv (v := .pointer (some ⟨f, 5, none⟩)) ?_
 go_simp
theorem stFsc_9 : Fre.StepB Tryz.prog opsFsc.1 a0 w0 (VFsc f n1 X kd bv rest) Fre.Kept 9 := by
 rintro E w hc hf hE hV hN hS _ ⟨⟩
 simp only [opsFsc, gA, gS, gZ]
 have d8 : E (.tmp 11) = .pointer (some ⟨f, 5, none⟩) := hV 8 11 (by kernel_rfl) (by kernel_rfl)
 have c0 : w.cell? ⟨f, 5, none⟩ = some (.int .i64 (X.x : Int)) := by rw [cells_at ((hS.block f (lt_blk h0)).trans h0) 5, foundA_base X kd bv rest 5 (by omega)]; rfl
 refine Fre.dv (v := .int .i64 (X.x : Int)) ?_
 go_simp
theorem stFsc_10 : Fre.StepB Tryz.prog opsFsc.1 a0 w0 (VFsc f n1 X kd bv rest) Fre.Kept 10 := by
 rintro E w hc hf hE hV hN hS _ ⟨⟩
 simp only [opsFsc, gA, gS, gZ]
 have d9 : E (.tmp 12) = .int .i64 (X.x : Int) := hV 9 12 (by kernel_rfl) (by kernel_rfl)
 have e1 : IntKind.i64.wrap (1 + (X.x : Int)) = (n1 : Int) := by rw [IntWalk.i64_in _ (by omega)]; omega
 refine Fre.dv (v := .int .i64 (n1 : Int)) ?_
 go_simp
variable (f n1 X kd bv rest w0)
theorem regionFsc {QQ : Exit -> Act -> World -> Prop} (hQ : ∀ (vs : Nat -> Value) w, (∀ j, j < 11 -> VFsc f n1 X kd bv rest j (vs j) w) -> Fre.Kept w0 w -> wpList Tryz.prog opsFsc.1 QQ (opsFsc.1.toList.drop 11) ⟨#[.pointer (some ⟨f, 0, none⟩), u1, u2, vs 0, vs 1, vs 2, vs 3, vs 4, vs 5, vs 6, vs 7, vs 8, vs 9, vs 10, u14], []⟩ w) : (Code.region 1 opsFsc.1 true).wp Tryz.prog QQ ⟨#[.pointer (some ⟨f, 0, none⟩), u1, u2, u3, u4, u5, u6, u7, u8, u9, u10, u11, u12, u13, u14], []⟩ w0 := by
 refine Fre.region_tailT 15 11 (by kernel_rfl) fitFsc rfl tailFsc (by rw [sizeFsc]; omega) (VFsc f n1 X kd bv rest) (kpFsc f n1 X kd bv rest) (fun i hi => ?_) (fun vs w h1 h2 => ?_)
 case refine_2 =>
  have h9 := hQ vs w h1 h2
  exact Fre.fe (p := fun t => wpList Tryz.prog opsFsc.1 QQ (opsFsc.1.toList.drop 11) ⟨t, []⟩ w) h9 (by kernel_rfl)
 rcases cs11 hi with rfl | rfl | rfl | rfl | rfl | rfl | rfl | rfl | rfl | rfl | rfl
 ·exact stFsc_0 h0 hn1 hx rfl
 ·exact stFsc_1 h0 hn1 hx
 ·exact stFsc_2 h0 hn1 hx
 ·exact stFsc_3 h0 hn1 hx
 ·exact stFsc_4 h0 hn1 hx rfl
 ·exact stFsc_5 h0 hn1 hx
 ·exact stFsc_6 h0 hn1 hx
 ·exact stFsc_7 h0 hn1 hx
 ·exact stFsc_8 h0 hn1 hx
 ·exact stFsc_9 h0 hn1 hx
 ·exact stFsc_10 h0 hn1 hx
end
theorem fput_c {X : BaseR} {f : Nat} {kd : Int} {bv : Value} {BL : List Bl} {rest : Array Value} (k q : Nat) (l : List Nat) (hk : BL[k]? = some (q, l)) (hn : BL.length <= totalN X.n X.x) (w : World) (h : BaseAt w X) (hF : FndAt w f X kd bv BL rest) (hd : ∀ i, fndS f bv BL i -> ¬ X.S i) :
  Calls Tryz.prog 203 #[.pointer (some ⟨f, 0, none⟩), .int .i64 (k : Int)] w fun r w' => r = .returned (.int .i64 0) /\ ∃ av', BaseTo w w' X { X with av := av', N := splL X.N (256 * k) l } := by
 have ht : totalN X.n X.x <= 98 := by
  have h1 := geo_ok h.geo
  have h2 := leavesN_le X.n h1.2.1
  unfold totalN; omega
 have hmem := List.mem_of_getElem? hk
 have hkl : k < BL.length := (List.getElem?_eq_some_iff.1 hk).1
 obtain ⟨hq, hl, hl8⟩ := hF.rows _ hmem
 simp only at hq hl hl8
 obtain ⟨la, cp, hbv, _, _⟩ := own_pos hF.own (by omega)
 have hrk := rowK_own (enc := blE) (k := 1) (fun _ => rfl) Nat.zero_lt_one (hbv ▸ hF.own)
 obtain ⟨_, hcell⟩ := hrk.at (i := k) (x := q) (by rw [List.getElem?_map, hk]; rfl)
 have c1 := hcell 0 (blV q) rfl
 rw [show 0 + (k * 1 + 0) = k by omega] at c1
 have hby := bytesAt_block hl8 hq
 rw [hl] at hby;have H := Lib.hid h;have HF := Lib.hid hF;have HC := Lib.hid c1;have HBV := Lib.hid hbv;have HBY := Lib.hid hby;have HQ := Lib.hid (hd q (.inr (.inr ⟨_, hmem, rfl⟩)))
 have HN := Lib.hid (And.intro hkl (And.intro hn ht))
 have HL := Lib.hid hl;clear h hF hd c1 hbv hrk hcell hby hmem hq hl8 hk hkl hn ht hl
 go_enter Tryz.func203, Tryz.ntmps203
 go_upto_region 1 with fail
 refine regionFpu f k BL.length cp q la X kd bv rest w HF.out.blk HBV.out HC.out HN.out.1 (by have := HN.out; omega) ?_
 intro vs w2 hv hkp;have v3 : vs 3 = .agg (baseV X) := hv 3 (by omega)
 have v4 : vs 4 = .int .i64 (k : Int) := hv 4 (by omega)
 have v11 : vs 11 = .slice (some ⟨q, 0, none⟩) 256 256 := hv 11 (by omega)
 rw [v3, v4, v11]
 have hput := stPut_c k 256 (some ⟨q, 0, none⟩) 256 l HL.out (by omega) (by have := HN.out; omega) w2 (H.out.on.below hkp).holds (HBY.out.up hkp (Nat.le_refl _)) (fun p hp hd => by
  injection hp with hp
  subst hp;exact HQ.out (.inl hd))
 have HPUT := Lib.hid hput;have HKP := Lib.hid hkp;simp only [opsFpu, List.drop_succ_cons, List.drop_zero]
 clear hv hkp v3 v4 v11 hput;go_wp2_with fail
 refine HPUT.out.mono ?_
 rintro r w3 ⟨rfl, av3, hto⟩
 have HTO := Lib.hid ((BaseTo.below H.out HKP.out).trans hto)
 clear hto;go_wp2
 go_ret
 exact ⟨rfl, av3, HTO.out⟩
theorem fscrub_c {X : BaseR} {f : Nat} {kd : Int} {bv : Value} {BL : List Bl} {rest : Array Value} (w : World) (h : BaseAt w X) (hF : FndAt w f X kd bv BL rest) :
  Calls Tryz.prog 164 #[.pointer (some ⟨f, 0, none⟩)] w fun r w' => r = .returned (.int .i64 0) /\ ∃ av', BaseTo w w' X { X with av := av', N := splL X.N (256 * leavesN X.n) (zerosL (256 * (1 + X.x))) } := by
 have H := Lib.hid h;have HF := Lib.hid hF;obtain ⟨z, hz⟩ : ∃ z, z = zerosL (256 * (1 + X.x)) := ⟨_, rfl⟩
 obtain ⟨n1, hn1⟩ : ∃ n1, n1 = 1 + X.x := ⟨_, rfl⟩
 rw [<- hz];have HZ := Lib.hid hz;have HN1 := Lib.hid hn1;clear h hF hz hn1
 go_enter Tryz.func164, Tryz.ntmps164
 go_upto_region 1 with fail
 refine regionFsc f n1 X kd bv rest w HF.out.blk HN1.out (geo_ok H.out.geo).2.2.2 ?_
 intro vs w2 hv hkp;have v3 : vs 3 = .agg (baseV X) := hv 3 (by omega)
 have v10 : vs 10 = .int .i64 (n1 : Int) := hv 10 (by omega)
 rw [v3, v10]
 have hput := stScrub_c n1 (by have := HN1.out; omega) (by have := HN1.out; omega) w2 (H.out.on.below hkp).holds
 rw [HN1.out, <- HZ.out, <- HN1.out] at hput
 have HPUT := Lib.hid hput;have HKP := Lib.hid hkp;simp only [opsFsc, List.drop_succ_cons, List.drop_zero]
 clear hv hkp v3 v10 hput;go_wp2_with fail
 refine HPUT.out.mono ?_
 rintro r w3 ⟨rfl, av3, hto⟩
 have HTO := Lib.hid ((BaseTo.below H.out HKP.out).trans hto)
 clear hto;go_wp2
 go_ret
 exact ⟨rfl, av3, HTO.out⟩
def storeAll (N : List Nat) (BL : List Bl) : Nat -> List Nat
 | 0 => N
 | k + 1 => splL (storeAll N BL k) (256 * k) (BL.getD k (0, [])).2
theorem fwhole_c {X : BaseR} {f : Nat} {kd : Int} {bv : Value} {BL : List Bl} {rest : Array Value} (h0 : 0 < BL.length) (hn : BL.length <= totalN X.n X.x) (w : World) (h : BaseAt w X) (hF : FndAt w f X kd bv BL rest) (hd : ∀ i, fndS f bv BL i -> ¬ X.S i) :
  Calls Tryz.prog 163 #[.pointer (some ⟨f, 0, none⟩)] w fun r w' => r = .returned (.int .i64 0) /\ ∃ av', BaseTo w w' X { X with av := av', N := storeAll X.N BL BL.length } := by
 have ht : totalN X.n X.x <= 98 := by
  have h1 := geo_ok h.geo
  have h2 := leavesN_le X.n h1.2.1
  unfold totalN; omega
 obtain ⟨n, hn2⟩ : ∃ n, n = BL.length := ⟨_, rfl⟩
 obtain ⟨la, cp, hbv, _, _⟩ := own_pos hF.own h0
 rw [<- hn2] at hbv;have c7 : w.cell? ⟨f, 7, none⟩ = some (.slice (some ⟨la, 0, none⟩) n cp) := by rw [cells_at hF.blk 7, foundA_bv, hbv]
 have H := Lib.hid h;have HF := Lib.hid hF;have HD := Lib.hid hd;have HN := Lib.hid (And.intro hn (And.intro ht hn2))
 have hn98 : n <= 98 := by omega
 clear h hF hd hn ht hn2 h0 hbv
 go_enter Tryz.func163, Tryz.ntmps163
 go_wp2_with fail
 go_loopw [10] (fun v10 wr => ∃ i : Nat, i <= n /\ v10 = .int .i64 (i : Int) /\ Hid (∃ av, BaseTo w wr X { X with av := av, N := storeAll X.N BL i })) (fun v10 _ => n - (intOf v10).toNat)
 case atStart => exact ⟨0, Nat.zero_le _, rfl, ⟨X.av, BaseTo.refl H.out⟩⟩
 case round =>
  obtain ⟨i, hi, rfl, hto⟩ := hrel
  by_cases hlt : i < n
  ·have dl : (i : Int) < (n : Int) := by omega
   obtain ⟨av, hto⟩ := hto.out
   obtain ⟨hF2, hd2⟩ := hto.keep HF.out.on HD.out
   have hlt2 : i < BL.length := by have := HN.out.2.2; omega
   have hgi : BL[i]? = some ((BL.getD i (0, [])).1, (BL.getD i (0, [])).2) := by
    rw [List.getD_eq_getElem?_getD, List.getElem?_eq_getElem hlt2]; rfl
   have hput := fput_c (X := { X with av := av, N := storeAll X.N BL i }) i _ _ hgi HN.out.1 wr hto.at' (hF2.holds.re rfl) hd2
   have HPUT := Lib.hid hput;have HTO := Lib.hid hto;clear hto hF2 hd2 hlt2 hgi hput;go_wp2_with fail
   refine HPUT.out.mono ?_
   rintro r w5 ⟨rfl, av5, hto5⟩
   have HT5 : Hid (∃ av, BaseTo w w5 X { X with av := av, N := storeAll X.N BL (i + 1) }) := Lib.hid ⟨av5, HTO.out.trans hto5⟩
   clear hto5 HTO;go_wp2
   go_roundw
   case rel => exact ⟨i + 1, by omega, by go_num, HT5⟩
   case measure => simp [intOf]; omega
  ·have dl : ¬ (i : Int) < (n : Int) := by omega
   obtain ⟨av, hto⟩ := hto.out
   have hin : i = BL.length := by have := HN.out.2.2; omega
   rw [hin] at hto;obtain ⟨hF2, hd2⟩ := hto.keep HF.out.on HD.out
   have c0 : wr.cell? ⟨f, 0, none⟩ = some (.pointer (some ⟨X.D.d, 0, none⟩)) := by rw [cells_at hF2.holds.blk 0, foundA_base _ _ _ _ 0 (by omega)]; rfl
   have hfe := devFence_c wr hto.at'.dev
   have HFE := Lib.hid hfe;have HTO := Lib.hid hto;clear hto hF2 hd2 hin hfe c7;go_wp2_with fail
   refine HFE.out.mono ?_
   rintro r w4 ⟨rfl, av4, hd4, hc4, hn4⟩
   have HT4 := Lib.hid (HTO.out.trans (HTO.out.at'.dev_to hd4 hc4 hn4))
   clear hd4 hc4 hn4;go_wp2
   go_ret
   exact ⟨rfl, av4, HT4.out⟩
theorem regA_set0 (c c' : Nat) (R : List Nat) : (regA c R).setIfInBounds 0 (.int .u64 (c' : Int)) = regA c' R := by
 apply Array.ext_getElem?
 intro j;rw [Array.getElem?_setIfInBounds]
 have hs : 0 < (regA c R).size := by simp [regA]; omega
 by_cases e : 0 = j
 ·subst e
  rw [if_pos rfl, if_pos hs, regA_0]
 ·rw [if_neg e]
  unfold regA;rw [Array.getElem?_append_right (by simp; omega), Array.getElem?_append_right (by simp; omega)]
  rfl
theorem load_reg {w : World} {q c : Nat} {R : List Nat} (hR : R.length = 32) (h : w.heap[q]? = some (.cells (regA c R) 116 (0, 0))) : (loadVar 116 ⟨q, 0, none⟩).run Tryz.prog w = .ok (.agg (regA c R)) w :=
 run_loadVar_row w q _ 116 (regA c R) _ _ h Tryz.underlying116 rfl (by rw [reg33, regA_size hR])
def opsFbu : {o : Array Oper // some o = (Tryz.f162.body.bind (Fre.findR 3))} := ⟨_, rfl⟩
theorem fitFbu : Fre.fit .any opsFbu.1 21 = true := by kernel_rfl
theorem sizeFbu : opsFbu.1.size = 8 := by kernel_rfl
theorem tailFbu : Fre.tailFitT .any opsFbu.1 6 = true := by kernel_rfl
def VFbu (f rq c : Nat) (R : List Nat) (X : BaseR) (kd : Int) (bv : Value) (rest : Array Value) (i : Nat) (v : Value) (w : World) : Prop := match i with
 | 0 => v = .pointer (some ⟨f, 0, none⟩)
 | 1 => v = .pointer (some ⟨f, 0, none⟩)
 | 2 => v = .pointer (some ⟨f, 0, none⟩)
 | 3 => v = .pointer (some ⟨f, 1, none⟩)
 | 4 => v = .pointer (some ⟨X.t, 0, none⟩)
 | 5 => v = .agg (regA c R)
 | _ => True
section
variable {u1 u2 u4 u5 u6 u7 u8 u9 u10 u11 u12 u13 u14 u15 u16 u17 u18 u19 u20 : Value}
theorem kpFbu (f rq c : Nat) (R : List Nat) (X : BaseR) (kd : Int) (bv : Value) (rest : Array Value) : ∀ j v w w', j < 6 -> VFbu f rq c R X kd bv rest j v w -> Fre.Kept w w' -> VFbu f rq c R X kd bv rest j v w' := by
 intro j v w w' hj h hs
 rcases cs6 hj with rfl | rfl | rfl | rfl | rfl | rfl <;> exact h
variable {f rq c : Nat} {R : List Nat} {X : BaseR} {kd : Int} {bv : Value} {rest : Array Value} {a0 : Act} {w0 : World} (h0 : w0.heap[f]? = some (.cells (foundA X kd bv rest) 251 (0, 0))) (h1 : w0.heap[rq]? = some (.cells (regA c R) 116 (0, 0))) (hR : R.length = 32)
include h0 h1 hR
theorem stFbu_0 (g90 : a0.tmps.getD 0 undef = .pointer (some ⟨f, 0, none⟩)) : Fre.StepB Tryz.prog opsFbu.1 a0 w0 (VFbu f rq c R X kd bv rest) Fre.Kept 0 := by
 rintro E w hc hf hE hV hN hS _ ⟨⟩
 simp only [opsFbu, gA, gS, gZ]
 have b0 : E (.tmp 0) = .pointer (some ⟨f, 0, none⟩) := (hE 0 (by kernel_rfl)).trans g90
 clear g90;refine Fre.dv (v := .pointer (some ⟨f, 0, none⟩)) ?_
 go_simp
theorem stFbu_1 : Fre.StepB Tryz.prog opsFbu.1 a0 w0 (VFbu f rq c R X kd bv rest) Fre.Kept 1 := by
 rintro E w hc hf hE hV hN hS _ ⟨⟩
 simp only [opsFbu, gA, gS, gZ]
 have d0 : E (.tmp 14) = .pointer (some ⟨f, 0, none⟩) := hV 0 14 (by kernel_rfl) (by kernel_rfl)
 refine Fre.dv (v := .pointer (some ⟨f, 0, none⟩)) ?_
 go_simp
theorem stFbu_2 : Fre.StepB Tryz.prog opsFbu.1 a0 w0 (VFbu f rq c R X kd bv rest) Fre.Kept 2 := by
 rintro E w hc hf hE hV hN hS _ ⟨⟩
 simp only [opsFbu, gA, gS, gZ]
 have d1 : E (.tmp 15) = .pointer (some ⟨f, 0, none⟩) := hV 1 15 (by kernel_rfl) (by kernel_rfl)
 refine Fre.dv (v := .pointer (some ⟨f, 0, none⟩)) ?_
 go_simp
theorem stFbu_3 : Fre.StepB Tryz.prog opsFbu.1 a0 w0 (VFbu f rq c R X kd bv rest) Fre.Kept 3 := by
 rintro E w hc hf hE hV hN hS _ ⟨⟩
 simp only [opsFbu, gA, gS, gZ]
 have d2 : E (.tmp 16) = .pointer (some ⟨f, 0, none⟩) := hV 2 16 (by kernel_rfl) (by kernel_rfl)
 refine Fre.dv (v := .pointer (some ⟨f, 1, none⟩)) ?_
 go_simp
theorem stFbu_4 : Fre.StepB Tryz.prog opsFbu.1 a0 w0 (VFbu f rq c R X kd bv rest) Fre.Kept 4 := by
 rintro E w hc hf hE hV hN hS _ ⟨⟩
 simp only [opsFbu, gA, gS, gZ]
 have d3 : E (.tmp 17) = .pointer (some ⟨f, 1, none⟩) := hV 3 17 (by kernel_rfl) (by kernel_rfl)
 have c0 : w.cell? ⟨f, 1, none⟩ = some (.pointer (some ⟨X.t, 0, none⟩)) := by rw [cells_at ((hS.block f (lt_blk h0)).trans h0) 1, foundA_base X kd bv rest 1 (by omega)]; rfl
 refine Fre.dv (v := .pointer (some ⟨X.t, 0, none⟩)) ?_
 go_simp
theorem stFbu_5 (g93 : a0.tmps.getD 3 undef = .pointer (some ⟨rq, 0, none⟩)) : Fre.StepB Tryz.prog opsFbu.1 a0 w0 (VFbu f rq c R X kd bv rest) Fre.Kept 5 := by
 rintro E w hc hf hE hV hN hS _ ⟨⟩
 simp only [opsFbu, gA, gS, gZ]
 have b3 : E (.tmp 3) = .pointer (some ⟨rq, 0, none⟩) := (hE 3 (by kernel_rfl)).trans g93
 clear g93;have hr := load_reg hR ((hS.block rq (lt_blk h1)).trans h1)
 refine Fre.dv (v := .agg (regA c R)) ?_
 unfold execOp;simp only [b3, Instr.loadAt, Instr.sureAddr, Sem.run_bind, Sem.run_pure, Result.andThen_ok, hr]
variable (f rq c R X kd bv rest w0)
theorem regionFbu {QQ : Exit -> Act -> World -> Prop} (hQ : ∀ (vs : Nat -> Value) w, (∀ j, j < 6 -> VFbu f rq c R X kd bv rest j (vs j) w) -> Fre.Kept w0 w -> wpList Tryz.prog opsFbu.1 QQ (opsFbu.1.toList.drop 6) ⟨#[.pointer (some ⟨f, 0, none⟩), u1, u2, .pointer (some ⟨rq, 0, none⟩), u4, u5, u6, u7, u8, u9, u10, u11, u12, u13, vs 0, vs 1, vs 2, vs 3, vs 4, vs 5, u20], []⟩ w) : (Code.region 3 opsFbu.1 true).wp Tryz.prog QQ ⟨#[.pointer (some ⟨f, 0, none⟩), u1, u2, .pointer (some ⟨rq, 0, none⟩), u4, u5, u6, u7, u8, u9, u10, u11, u12, u13, u14, u15, u16, u17, u18, u19, u20], []⟩ w0 := by
 refine Fre.region_tailT 21 6 (by kernel_rfl) fitFbu rfl tailFbu (by rw [sizeFbu]; omega) (VFbu f rq c R X kd bv rest) (kpFbu f rq c R X kd bv rest) (fun i hi => ?_) (fun vs w h1 h2 => ?_)
 case refine_2 =>
  have h9 := hQ vs w h1 h2
  exact Fre.fe (p := fun t => wpList Tryz.prog opsFbu.1 QQ (opsFbu.1.toList.drop 6) ⟨t, []⟩ w) h9 (by kernel_rfl)
 rcases cs6 hi with rfl | rfl | rfl | rfl | rfl | rfl
 ·exact stFbu_0 h0 h1 hR rfl
 ·exact stFbu_1 h0 h1 hR
 ·exact stFbu_2 h0 h1 hR
 ·exact stFbu_3 h0 h1 hR
 ·exact stFbu_4 h0 h1 hR
 ·exact stFbu_5 h0 h1 hR rfl
end
theorem fbumped_c {X : BaseR} {f : Nat} {kd : Int} {bv : Value} {BL : List Bl} {rest : Array Value} (hc : X.c + 1 < 18446744073709551616) (w : World) (h : BaseAt w X) (hF : FndAt w f X kd bv BL rest) :
  Calls Tryz.prog 162 #[.pointer (some ⟨f, 0, none⟩)] w fun r w' => r = .returned (.int .i64 0) /\ ∃ av', BaseTo w w' X { X with av := av', c := X.c + 1 } := by
 have c1 : w.cell? ⟨f, 1, none⟩ = some (.pointer (some ⟨X.t, 0, none⟩)) := by rw [cells_at hF.blk 1, foundA_base _ _ _ _ 1 (by omega)]; rfl
 have HRD := Lib.hid (trRead_c h.rl w h.tr)
 have H := Lib.hid h;have HF := Lib.hid hF;have HC := Lib.hid hc;have e1 : IntKind.u64.wrap ((X.c : Int) + 1) = ((X.c + 1 : Nat) : Int) := by rw [IntKind.wrap_u64]; omega
 have HRS : Hid ((regA X.c X.R).size = 33) := regA_size h.rl
 clear h hF hc
 go_enter Tryz.func162, Tryz.ntmps162
 go_wp2_with fail
 refine HRD.out.mono ?_
 rintro r w1 ⟨rfl, hb1⟩
 have HB1 := Lib.hid hb1;clear hb1 HRD
 go_upto_region 2 with (first
  | (refine wpList_store_row rfl 116 (.tmp 3) (.tmp 9) rfl w1.heap.size (regA X.c X.R) rfl rfl 116 (regA 0 (List.replicate 32 0)) (heap_new' _ _) (by rw [reg33, HRS.out]) (by rw [HRS.out]; rfl) regA_one ?_)
  | fail)
 generalize hW2 : World.setRow _ _ _ = w2
 have hb2 : Below w1.heap.size w1 w2 := by rw [<- hW2]; exact below_setRow ((Below.refl _ _).alloc (Nat.le_refl _) _) (Nat.le_refl _) _
 have hr2 : w2.heap[w1.heap.size]? = some (.cells (regA X.c X.R) 116 (0, 0)) := by rw [<- hW2]; exact setRow_heap _ _ _ _ _ _ (heap_new' _ _)
 clear hW2;have cr2 : w2.cell? ⟨w1.heap.size, 0, none⟩ = some (.int .u64 (X.c : Int)) := (cells_at hr2 0).trans (regA_0 X.c X.R)
 have fr2 := free_at hr2 0
 obtain ⟨w3, hw3⟩ : ∃ w3, w3 = w2.setCell ⟨w1.heap.size, 0, none⟩ (.int .u64 ((X.c + 1 : Nat) : Int)) := ⟨_, rfl⟩
 have hr3 : w3.heap[w1.heap.size]? = some (.cells (regA (X.c + 1) X.R) 116 (0, 0)) := by
  have e := block_at hr2 0 (.int .u64 ((X.c + 1 : Nat) : Int))
  rw [regA_set0, <- hw3] at e; exact e
 have hc3 : Chg (fun k => k = w1.heap.size) w2 w3 := by rw [hw3]; exact Chg.setCell (S := fun k => k = w1.heap.size) w2 _ 0 _ rfl
 have hb3 : Below w.heap.size w w3 := by
  have h1 : Below w1.heap.size w1 w3 := ((Chg.of_below hb2).trans hc3 (fun i hi => .inr (Nat.le_of_eq hi.symm))).below (S := fun _ => False) (Nat.le_refl _) (fun _ hk => hk.elim)
  exact HB1.out.trans (h1.mono HB1.out.size)
 have HB3 := Lib.hid hb3;have HR3 := Lib.hid hr3;have hcast : ((X.c + 1 : Nat) : Int) = (X.c : Int) + 1 := by push_cast; rfl
 clear hb2 hr2 hr3 hc3 hb3
 go_upto_region 3 with fail
 have hw3' : w3 = w2.setCell ⟨w1.heap.size, 0, none⟩ (.int .u64 ((X.c : Int) + 1)) := by rw [hw3, hcast]
 clear hw3;rw [<- hw3'];clear hw3';refine regionFbu f w1.heap.size (X.c + 1) X.R X kd bv rest w3 ?_ HR3.out H.out.rl ?_
 ·exact (HB3.out.block f (lt_blk HF.out.blk)).trans HF.out.blk
 intro vs w4 hv hk;have e4 : vs 4 = .pointer (some ⟨X.t, 0, none⟩) := hv 4 (by omega)
 have e5 : vs 5 = .agg (regA (X.c + 1) X.R) := hv 5 (by omega)
 generalize vs 4 = x4 at e4
 generalize vs 5 = x5 at e5
 subst e4 e5
 have hb4 : Below w.heap.size w w4 := HB3.out.trans (Below.mono hk HB3.out.size)
 obtain ⟨B1, hB1⟩ : ∃ B1, B1 = BaseTo.below H.out hb4 := ⟨_, rfl⟩
 have hset := trSet_c (c := X.c) (c' := X.c + 1) (R := X.R) (R' := X.R) H.out.rl H.out.rl (Nat.lt_succ_self _) w4 B1.at'.tr B1.at'.dev B1.at'.dt
 have HSET := Lib.hid hset;have HB4 := Lib.hid B1;clear hset hb4 hB1 B1 hk hv hcast HB3 HR3;go_wp2_with fail
 refine HSET.out.mono ?_
 rintro r w5 ⟨rfl, hT5, av5, hd5, hc5, hn5⟩
 have HT5 := Lib.hid (HB4.out.trans (HB4.out.at'.tr_to hd5 hT5 H.out.rl hc5 hn5))
 clear hT5 hd5 hc5 hn5 HSET HB4;go_wp2
 go_ret
 exact ⟨rfl, av5, HT5.out⟩
def opsMay : {o : Array Oper // some o = (Tryz.f157.body.bind (Fre.findR 3))} := ⟨_, rfl⟩
theorem fitMay : Fre.fit .any (Fre.bare opsMay.1) 37 = true := by kernel_rfl
def GMay (i : Nat) : Bool := #[true, true, true, true, true, true, true, true, true, true, true, true, true, true, true].getD i true
def gvMay (j : Nat) : Bool := match j with
 | 4 => false
 | _ => false
theorem gdMay : Fre.guardsB opsMay.1 gvMay GMay = true := by kernel_rfl
theorem glMay : Fre.guardsL opsMay.1 = [4, 4, 4, 4, 4, 4, 4, 4] := by kernel_rfl
theorem sizeMay : opsMay.1.size = 15 := by kernel_rfl
def VMay (X : BaseR) (gb : Nat) (i : Nat) (v : Value) (w : World) : Prop := match i with
 | 0 => v = .pointer (some ⟨gb, 4, none⟩)
 | 1 => v = .agg #[.int .i64 (X.n : Int), .int .i64 (X.x : Int)]
 | 2 => v = .int .i64 0
 | 3 => v = .bool false
 | 4 => v = .bool false
 | 5 => v = .pointer (some ⟨gb, 0, none⟩)
 | 6 => v = .pointer (some ⟨X.D.d, 0, none⟩)
 | 7 => v = .int .i64 ((8 * X.D.n : Nat) : Int)
 | 8 => v = .pointer (some ⟨gb, 4, none⟩)
 | 9 => v = .agg #[.int .i64 (X.n : Int), .int .i64 (X.x : Int)]
 | 10 => v = .int .i64 (totalN X.n X.x : Int)
 | 11 => v = .int .i64 ((8 * X.D.n : Nat) : Int)
 | 12 => v = .bool false
 | 13 => v = .bool false
 | 14 => v = .bool false
 | _ => True
section
variable {u0 u2 u3 u4 u5 u6 u7 u8 u9 u10 u11 u12 u13 u14 u15 u16 u17 u18 u19 u20 u21 u22 u23 u24 u25 u26 u27 u28 u29 u30 u31 u32 u33 u34 u35 u36 : Value}
theorem kpMay (X : BaseR) (gb : Nat) : ∀ j v w w', j < opsMay.1.size -> VMay X gb j v w -> Fre.Kept w w' -> VMay X gb j v w' := by
 intro j v w w' hj h hs
 rw [sizeMay] at hj;rcases cs15 hj with rfl | rfl | rfl | rfl | rfl | rfl | rfl | rfl | rfl | rfl | rfl | rfl | rfl | rfl | rfl <;> exact h
variable {X : BaseR} {gb : Nat} {a0 : Act} {w0 : World} (h0 : w0.heap[gb]? = some (.cells (baseV X) 90 (0, 0))) (hB : BaseAt w0 X) (ht : totalN X.n X.x < 65536)
include h0 hB ht
theorem stMay_0 (g91 : a0.tmps.getD 1 undef = .pointer (some ⟨gb, 0, none⟩)) : Fre.StepB Tryz.prog opsMay.1 a0 w0 (VMay X gb) Fre.Kept 0 := by
 rintro E w hc hf hE hV hN hS _ ⟨⟩
 simp only [opsMay, gA, gS, gZ]
 have b1 : E (.tmp 1) = .pointer (some ⟨gb, 0, none⟩) := (hE 1 (by kernel_rfl)).trans g91
 clear g91;refine Fre.dv (v := .pointer (some ⟨gb, 4, none⟩)) ?_
 go_simp
theorem stMay_1 : Fre.StepB Tryz.prog opsMay.1 a0 w0 (VMay X gb) Fre.Kept 1 := by
 rintro E w hc hf hE hV hN hS _ ⟨⟩
 simp only [opsMay, gA, gS, gZ]
 have d0 : E (.tmp 23) = .pointer (some ⟨gb, 4, none⟩) := hV 0 23 (by kernel_rfl) (by kernel_rfl)
 have hr := load_bgeo h0 hS
 refine Fre.dv (v := .agg #[.int .i64 (X.n : Int), .int .i64 (X.x : Int)]) ?_
 unfold execOp;simp only [d0, Instr.loadAt, Instr.sureAddr, Sem.run_bind, Sem.run_pure, Result.andThen_ok, hr]
theorem stMay_2 : Fre.StepB Tryz.prog opsMay.1 a0 w0 (VMay X gb) Fre.Kept 2 := by
 rintro E w hc hf hE hV hN hS _ ⟨⟩
 simp only [opsMay, gA, gS, gZ]
 have d1 : E (.tmp 24) = .agg #[.int .i64 (X.n : Int), .int .i64 (X.x : Int)] := hV 1 24 (by kernel_rfl) (by kernel_rfl)
 refine Fre.Does.enter (f := 45) (args := #[.agg #[.int .i64 (X.n : Int), .int .i64 (X.x : Int)]]) (w' := w) ?_ ((gcheck_c X.n X.x w).mono ?_)
 ·go_simp
 ·rintro e w' ⟨rfl, hk'⟩
  rw [geoE_ok hB.geo]
  exact ⟨_, rfl, rfl, hk'⟩
theorem stMay_3 : Fre.StepB Tryz.prog opsMay.1 a0 w0 (VMay X gb) Fre.Kept 3 := by
 rintro E w hc hf hE hV hN hS _ ⟨⟩
 simp only [opsMay, gA, gS, gZ]
 have d2 : E (.tmp 25) = .int .i64 0 := hV 2 25 (by kernel_rfl) (by kernel_rfl)
 refine Fre.dv (v := .bool false) ?_
 go_simp
theorem stMay_4 : Fre.StepB Tryz.prog opsMay.1 a0 w0 (VMay X gb) Fre.Kept 4 := by
 rintro E w hc hf hE hV hN hS _ ⟨⟩
 simp only [opsMay, gA, gS, gZ]
 have d3 : E (.tmp 26) = .bool false := hV 3 26 (by kernel_rfl) (by kernel_rfl)
 refine Fre.dv (v := .bool false) ?_
 go_simp
theorem stMay_5 (g91 : a0.tmps.getD 1 undef = .pointer (some ⟨gb, 0, none⟩)) : Fre.StepB Tryz.prog opsMay.1 a0 w0 (VMay X gb) Fre.Kept 5 := by
 rintro E w hc hf hE hV hN hS _ ⟨⟩
 simp only [opsMay, gA, gS, gZ]
 have b1 : E (.tmp 1) = .pointer (some ⟨gb, 0, none⟩) := (hE 1 (by kernel_rfl)).trans g91
 clear g91;refine Fre.dv (v := .pointer (some ⟨gb, 0, none⟩)) ?_
 go_simp
theorem stMay_6 : Fre.StepB Tryz.prog opsMay.1 a0 w0 (VMay X gb) Fre.Kept 6 := by
 rintro E w hc hf hE hV hN hS _ ⟨⟩
 simp only [opsMay, gA, gS, gZ]
 have d5 : E (.tmp 28) = .pointer (some ⟨gb, 0, none⟩) := hV 5 28 (by kernel_rfl) (by kernel_rfl)
 have c0 : w.cell? ⟨gb, 0, none⟩ = some (.pointer (some ⟨X.D.d, 0, none⟩)) := cells_at ((hS.block gb (lt_blk h0)).trans h0) 0
 refine Fre.dv (v := .pointer (some ⟨X.D.d, 0, none⟩)) ?_
 go_simp
theorem stMay_7 : Fre.StepB Tryz.prog opsMay.1 a0 w0 (VMay X gb) Fre.Kept 7 := by
 rintro E w hc hf hE hV hN hS _ ⟨⟩
 simp only [opsMay, gA, gS, gZ]
 have d6 : E (.tmp 29) = .pointer (some ⟨X.D.d, 0, none⟩) := hV 6 29 (by kernel_rfl) (by kernel_rfl)
 refine Fre.Does.enter (f := 122) (args := #[.pointer (some ⟨X.D.d, 0, none⟩)]) (w' := w) ?_ ((devLen_c w (hB.dev.on.below hS).holds).mono ?_)
 ·go_simp
 ·rintro e w' ⟨rfl, hk'⟩
  exact ⟨_, rfl, rfl, hk'⟩
theorem stMay_8 (g91 : a0.tmps.getD 1 undef = .pointer (some ⟨gb, 0, none⟩)) : Fre.StepB Tryz.prog opsMay.1 a0 w0 (VMay X gb) Fre.Kept 8 := by
 rintro E w hc hf hE hV hN hS _ ⟨⟩
 simp only [opsMay, gA, gS, gZ]
 have b1 : E (.tmp 1) = .pointer (some ⟨gb, 0, none⟩) := (hE 1 (by kernel_rfl)).trans g91
 clear g91;refine Fre.dv (v := .pointer (some ⟨gb, 4, none⟩)) ?_
 go_simp
theorem stMay_9 : Fre.StepB Tryz.prog opsMay.1 a0 w0 (VMay X gb) Fre.Kept 9 := by
 rintro E w hc hf hE hV hN hS _ ⟨⟩
 simp only [opsMay, gA, gS, gZ]
 have d8 : E (.tmp 31) = .pointer (some ⟨gb, 4, none⟩) := hV 8 31 (by kernel_rfl) (by kernel_rfl)
 have hr := load_bgeo h0 hS
 refine Fre.dv (v := .agg #[.int .i64 (X.n : Int), .int .i64 (X.x : Int)]) ?_
 unfold execOp;simp only [d8, Instr.loadAt, Instr.sureAddr, Sem.run_bind, Sem.run_pure, Result.andThen_ok, hr]
theorem stMay_10 : Fre.StepB Tryz.prog opsMay.1 a0 w0 (VMay X gb) Fre.Kept 10 := by
 rintro E w hc hf hE hV hN hS _ ⟨⟩
 simp only [opsMay, gA, gS, gZ]
 have d9 : E (.tmp 32) = .agg #[.int .i64 (X.n : Int), .int .i64 (X.x : Int)] := hV 9 32 (by kernel_rfl) (by kernel_rfl)
 refine Fre.Does.enter (f := 48) (args := #[.agg #[.int .i64 (X.n : Int), .int .i64 (X.x : Int)]]) (w' := w) ?_ ((gTotal_c hB.geo w).mono ?_)
 ·go_simp
 ·rintro e w' ⟨rfl, hk'⟩
  exact ⟨_, rfl, rfl, hk'⟩
theorem stMay_11 : Fre.StepB Tryz.prog opsMay.1 a0 w0 (VMay X gb) Fre.Kept 11 := by
 rintro E w hc hf hE hV hN hS _ ⟨⟩
 simp only [opsMay, gA, gS, gZ]
 have d10 : E (.tmp 33) = .int .i64 (totalN X.n X.x : Int) := hV 10 33 (by kernel_rfl) (by kernel_rfl)
 refine Fre.Does.enter (f := 47) (args := #[.int .i64 (totalN X.n X.x : Int)]) (w' := w) ?_ ((gBytes_c (totalN X.n X.x) ht w).mono ?_)
 ·go_simp
 ·rintro e w' ⟨rfl, rfl⟩
  exact ⟨_, rfl, (by show Value.int .i64 ((256 * totalN X.n X.x : Nat) : Int) = _; rw [<- hB.len]), Fre.Kept.refl _⟩
theorem stMay_12 : Fre.StepB Tryz.prog opsMay.1 a0 w0 (VMay X gb) Fre.Kept 12 := by
 rintro E w hc hf hE hV hN hS _ ⟨⟩
 simp only [opsMay, gA, gS, gZ]
 have d7 : E (.tmp 30) = .int .i64 ((8 * X.D.n : Nat) : Int) := hV 7 30 (by kernel_rfl) (by kernel_rfl)
 have d11 : E (.tmp 34) = .int .i64 ((8 * X.D.n : Nat) : Int) := hV 11 34 (by kernel_rfl) (by kernel_rfl)
 refine Fre.dv (v := .bool false) ?_
 go_simp
theorem stMay_13 : Fre.StepB Tryz.prog opsMay.1 a0 w0 (VMay X gb) Fre.Kept 13 := by
 rintro E w hc hf hE hV hN hS _ ⟨⟩
 simp only [opsMay, gA, gS, gZ]
 have d4 : E (.tmp 27) = .bool false := hV 4 27 (by kernel_rfl) (by kernel_rfl)
 have d12 : E (.tmp 35) = .bool false := hV 12 35 (by kernel_rfl) (by kernel_rfl)
 refine Fre.dv (v := .bool false) ?_
 go_simp
theorem stMay_14 : Fre.StepB Tryz.prog opsMay.1 a0 w0 (VMay X gb) Fre.Kept 14 := by
 rintro E w hc hf hE hV hN hS _ ⟨⟩
 simp only [opsMay, gA, gS, gZ]
 have d13 : E (.tmp 36) = .bool false := hV 13 36 (by kernel_rfl) (by kernel_rfl)
 refine Fre.dv (v := .bool false) ?_
 go_simp
variable (X gb w0)
theorem regionMay {QQ : Exit -> Act -> World -> Prop} (hQ : ∀ (vs : Nat -> Value) w, (∀ j, j < 15 -> VMay X gb j (vs j) w) -> Fre.Kept w0 w -> QQ .normal ⟨#[u0, .pointer (some ⟨gb, 0, none⟩), u2, u3, u4, u5, u6, u7, u8, u9, u10, u11, u12, u13, u14, u15, u16, u17, u18, u19, u20, u21, vs 14, vs 0, vs 1, vs 2, vs 3, vs 4, vs 5, vs 6, vs 7, vs 8, vs 9, vs 10, vs 11, vs 12, vs 13], []⟩ w) : (Code.region 3 opsMay.1 true).wp Tryz.prog QQ ⟨#[u0, .pointer (some ⟨gb, 0, none⟩), u2, u3, u4, u5, u6, u7, u8, u9, u10, u11, u12, u13, u14, u15, u16, u17, u18, u19, u20, u21, u22, u23, u24, u25, u26, u27, u28, u29, u30, u31, u32, u33, u34, u35, u36], []⟩ w0 := by
 refine Fre.region_keptG 37 (by kernel_rfl) fitMay rfl (VMay X gb) GMay gvMay gdMay (fun j hj v w hV => ?_) (kpMay X gb) (fun i hi hg => ?_) (fun i hi hg w => ?_) (fun vs w h1 h2 => ?_)
 case refine_1 =>
  have hj2 := Fre.isGuard_mem hj
  rw [glMay] at hj2;have hc : j = 4 := by simpa using hj2
  rcases hc with rfl
  ·exact hV
 case refine_3 =>
  rw [sizeMay] at hi;rcases cs15 hi with rfl | rfl | rfl | rfl | rfl | rfl | rfl | rfl | rfl | rfl | rfl | rfl | rfl | rfl | rfl <;> exact absurd hg (by decide)
 case refine_4 =>
  have h9 := hQ vs w (fun j hj => h1 j (by rw [sizeMay]; exact hj)) h2
  exact Fre.fe (p := fun t => QQ .normal ⟨t, []⟩ w) h9 (by kernel_rfl)
 rw [sizeMay] at hi;rcases cs15 hi with rfl | rfl | rfl | rfl | rfl | rfl | rfl | rfl | rfl | rfl | rfl | rfl | rfl | rfl | rfl
 ·exact stMay_0 h0 hB ht rfl
 ·exact stMay_1 h0 hB ht
 ·exact stMay_2 h0 hB ht
 ·exact stMay_3 h0 hB ht
 ·exact stMay_4 h0 hB ht
 ·exact stMay_5 h0 hB ht rfl
 ·exact stMay_6 h0 hB ht
 ·exact stMay_7 h0 hB ht
 ·exact stMay_8 h0 hB ht rfl
 ·exact stMay_9 h0 hB ht
 ·exact stMay_10 h0 hB ht
 ·exact stMay_11 h0 hB ht
 ·exact stMay_12 h0 hB ht
 ·exact stMay_13 h0 hB ht
 ·exact stMay_14 h0 hB ht
end
theorem mendMay_c {X : BaseR} (w : World) (h : BaseAt w X) :
  Calls Tryz.prog 157 #[.agg (baseV X)] w fun r w' => r = .returned (.int .i64 0) /\ Below w.heap.size w w' := by
 have ht : totalN X.n X.x < 65536 := by
  have h1 := geo_ok h.geo
  have h2 := leavesN_le X.n h1.2.1
  unfold totalN; omega
 have hb1 : Below w.heap.size w (w.alloc (.cells (baseV X) 90)) := below_al (Below.refl _ _) _
 obtain ⟨w1, hw1⟩ : ∃ w1, w1 = w.alloc (.cells (baseV X) 90) := ⟨_, rfl⟩
 have hx1 : w1.heap[w.heap.size]? = some (.cells (baseV X) 90 (0, 0)) := by rw [hw1]; exact heap_new' _ _
 rw [<- hw1] at hb1;have HB1 := Lib.hid hb1;have HX1 := Lib.hid hx1;have H1 := Lib.hid (h.on.below hb1).holds
 have c0 : w1.cell? ⟨w.heap.size, 0, none⟩ = some (.pointer (some ⟨X.D.d, 0, none⟩)) := cells_at hx1 0
 have c1 : w1.cell? ⟨w.heap.size, 1, none⟩ = some (.pointer (some ⟨X.t, 0, none⟩)) := cells_at hx1 1
 have c2 : w1.cell? ⟨w.heap.size, 2, none⟩ = some (.pointer (some ⟨X.s, 0, none⟩)) := cells_at hx1 2
 have c3 : w1.cell? ⟨w.heap.size, 3, none⟩ = some (.pointer (some ⟨X.b, 0, none⟩)) := cells_at hx1 3
 clear h hb1 hx1
 go_enter Tryz.func157, Tryz.ntmps157
 go_upto_region 1 with fail
 rw [<- hw1];clear hw1
 go_upto_region 3 with fail
 refine regionMay X w.heap.size w1 HX1.out H1.out ht ?_
 intro vs w2 hv hk;have e14 : vs 14 = .bool false := hv 14 (by omega)
 generalize vs 14 = x14 at e14
 subst e14;go_wp2
 go_ret
 exact ⟨rfl, HB1.out.trans (Below.mono hk HB1.out.size)⟩
end Go.Proofs.YtnmdjggdgakeoaaGreat
