/- Texts RCf, RCg, put together by pack.py. -/
import Derived.Test.YtpbmjfjnmcpieaaGreatCBf
import Derived.Test.YtpbmjfjnmcpieaaGreatCBh
import Derived.Test.YtpbmjfjnmcpieaaGreatCBe
set_option maxRecDepth 100000
set_option maxHeartbeats 16000000
set_option linter.unusedVariables false
set_option linter.unusedSimpArgs false
namespace Go.Proofs.YtpbmjfjnmcpieaaGreat
open Go Go.RowKit
theorem run_subBhR (g o len cap h : Nat) (hh : h <= cap) (w : World) :
  (Instr.sliceAt 47 (.slice (some ⟨g, o, none⟩) len cap) none (some (.int .i64 (h : Int))) none).run Tryz.prog w = .ok (.slice (some ⟨g, o, none⟩) h cap) w := by
 obtain ⟨i0, hi, hz0, hz1, hz2⟩ := info_parts u8info
 have he : Tryz.prog.elem 47 = 5 := by kernel_rfl
 have hu : Tryz.prog.underlying 47 = some (.slice (Tryz.prog.elem 47)) := by rw [he]; exact Tryz.underlying47
 rw [run_sliceAt_slice (h := hu), run_slice_h (ht := hu) (h0 := by omega) (h2 := by omega)]
 rw [he, run_sizeOf (w := w) hi, show Tryz.prog.cellsOf 5 = 1 from (by kernel_rfl)]
 simp only [Result.andThen_ok, sliced, Int.toNat_natCast, Nat.sub_zero]
 split
 ·rfl
 ·simp only [Option.map_some]; rw [add_plain]; simp
theorem run_nes (l m : List Nat) (hl : ∀ x ∈ l, x < 256) (hm : ∀ x ∈ m, x < 256) (E : Operand -> Value) (x y : Operand) (t : TypeId) (o : Oper) (ho : o.op = .binOp .neq 9 x y t) (hx : E x = strV l) (hy : E y = strV m) (w : World) :
  (execOp E o).run Tryz.prog w = .ok (.value (.bool (!decide (l = m)))) w := by
 have key : (l.map UInt8.ofNat == m.map UInt8.ofNat) = decide (l = m) := by
  by_cases h : l = m
  ·subst h; simp
  ·have hne : l.map UInt8.ofNat ≠ m.map UInt8.ofNat := fun h' => h (strV_inj hl hm h')
   simp [h, hne]
 unfold execOp
 simp only [ho, hx, hy]
 unfold strV
 go_simp
theorem zB_of (b : List Nat) (h : b.length = 256) : zeroB b = decide (b = zB) := by
 rw [Bool.eq_iff_iff, decide_eq_true_eq, zeroB_rep, h]; rfl
theorem leN_zeros : ∀ n, leN (List.replicate n 0) = 0
 | 0 => rfl
 | n + 1 => by rw [List.replicate_succ, leN, leN_zeros n]
theorem head_zero : hdN zB = 0 /\ hdL zB = List.replicate 16 0 := by
 constructor
 ·unfold hdN zB; rw [List.take_replicate]; exact leN_zeros _
 ·unfold hdL
  apply List.eq_replicate_iff.2
  refine ⟨by simp, fun x hx => ?_⟩
  obtain ⟨k, _, rfl⟩ := List.mem_map.1 hx
  unfold zB
  rw [List.drop_replicate, List.take_replicate]; exact leN_zeros _
/-- what Parse answers -/
def rheadV : Option (Nat × List Nat) -> Value
 | none => .tuple #[.agg (rtA 0 (List.replicate 16 0)), .bool false]
 | some (n, L) => .tuple #[.agg (rtA n L), .bool true]
theorem zB_len256 : zB.length = 256 := List.length_replicate
theorem zB_lt256 : ∀ x ∈ zB, x < 256 := fun x h => by have := (List.mem_replicate.1 h).2; omega
theorem bytesAt_256 {w : World} {p : Nat} (f : w.heap[p]? = some (.cells (bA zB) 5 (0, 0))) : BytesAt w (some ⟨p, 0, none⟩) 256 zB := by
 have h := bytesAt_block zB_lt256 f
 rw [zB_len256] at h; exact h
def opsQHA : {o : Array Oper // some o = (Tryz.f53.body.bind (Fre.findR 9))} := ⟨_, rfl⟩
theorem fitQHA : Fre.fit .any (Fre.bare opsQHA.1) 54 = true := by kernel_rfl
def GQHA (i : Nat) : Bool := #[true, true, true, true, false, false, false, false, false, true].getD i true
def gvQHA (j : Nat) : Bool := match j with
 | 3 => false
 | _ => false
theorem gdQHA : Fre.guardsB opsQHA.1 gvQHA GQHA = true := by kernel_rfl
theorem glQHA : Fre.guardsL opsQHA.1 = [3, 3, 3, 3, 3] := by kernel_rfl
theorem sizeQHA : opsQHA.1.size = 10 := by kernel_rfl
def VQHA (g o m cap pb n : Nat) (L b : List Nat) (B : Nat) (i : Nat) (v : Value) (w : World) : Prop := match i with
 | 0 => v = .agg (rtA n L)
 | 1 => v = .agg #[.int .u64 0, .int .u64 0, .int .u64 0, .int .u64 0, .int .u64 0, .int .u64 0, .int .u64 0, .int .u64 0, .int .u64 0, .int .u64 0, .int .u64 0, .int .u64 0, .int .u64 0, .int .u64 0, .int .u64 0, .int .u64 0, .int .u64 0]
 | 2 => v = .bool false
 | 3 => v = .bool false
 | 4 => v = undef
 | 5 => v = undef
 | 6 => v = undef
 | 7 => v = undef
 | 8 => v = undef
 | 9 => v = .bool false
 | _ => True
theorem stQHA_0 (g o m cap pb n : Nat) (L b : List Nat) (B : Nat) (a0 : Act) (g94 : a0.tmps.getD 4 undef = .pointer (some ⟨pb, 0, none⟩)) (w0 : World) (hm : b.length = m) (h256 : b.length = 256) (h16 : L.length = 16) (hn : n < 18446744073709551616) (hL : ∀ x ∈ L, x < 18446744073709551616) (h0 : w0.heap[pb]? = some (.cells (rtA n L) 25 (0, 0))) (hb : BytesAt w0 (some ⟨g, o, none⟩) cap b) (hB : B <= w0.heap.size) (he : (decide (n = 0 /\ L = List.replicate 16 0)) = false) : Fre.StepB Tryz.prog opsQHA.1 a0 w0 (VQHA g o m cap pb n L b B) Fre.Kept 0 := by
 intro E w hc hf hE hV hN hS o ho
 obtain rfl := Option.some.inj ho
 clear ho
 simp only [opsQHA, List.getElem_toArray, List.getElem_cons_succ, List.getElem_cons_zero]
 have b4 : E (.tmp 4) = .pointer (some ⟨pb, 0, none⟩) := (hE 4 (by kernel_rfl)).trans g94
 clear g94
 have hb9 := (hS.block pb (lt_of_block h0)).trans h0
 have hr := run_loadVar_row w pb _ 25 (rtA n L) _ _ hb9 Tryz.underlying25 rfl (by rw [roots17R, rtA_size, h16])
 refine Fre.Does.value (v := .agg (rtA n L)) (w' := w) ?_ ⟨rfl, Fre.Kept.refl _⟩
 unfold execOp
 simp only [b4, Instr.loadAt, Instr.sureAddr, Sem.run_bind, Sem.run_pure, Result.andThen_ok, hr]
theorem stQHA_1 (g o m cap pb n : Nat) (L b : List Nat) (B : Nat) (a0 : Act)  (w0 : World) (hm : b.length = m) (h256 : b.length = 256) (h16 : L.length = 16) (hn : n < 18446744073709551616) (hL : ∀ x ∈ L, x < 18446744073709551616) (h0 : w0.heap[pb]? = some (.cells (rtA n L) 25 (0, 0))) (hb : BytesAt w0 (some ⟨g, o, none⟩) cap b) (hB : B <= w0.heap.size) (he : (decide (n = 0 /\ L = List.replicate 16 0)) = false) : Fre.StepB Tryz.prog opsQHA.1 a0 w0 (VQHA g o m cap pb n L b B) Fre.Kept 1 := by
 intro E w hc hf hE hV hN hS o ho
 obtain rfl := Option.some.inj ho
 clear ho
 simp only [opsQHA, List.getElem_toArray, List.getElem_cons_succ, List.getElem_cons_zero]
 refine Fre.Does.value (v := .agg #[.int .u64 0, .int .u64 0, .int .u64 0, .int .u64 0, .int .u64 0, .int .u64 0, .int .u64 0, .int .u64 0, .int .u64 0, .int .u64 0, .int .u64 0, .int .u64 0, .int .u64 0, .int .u64 0, .int .u64 0, .int .u64 0, .int .u64 0]) (w' := w) ?_ ⟨rfl, Fre.Kept.refl _⟩
 go_simp
theorem stQHA_2 (g o m cap pb n : Nat) (L b : List Nat) (B : Nat) (a0 : Act)  (w0 : World) (hm : b.length = m) (h256 : b.length = 256) (h16 : L.length = 16) (hn : n < 18446744073709551616) (hL : ∀ x ∈ L, x < 18446744073709551616) (h0 : w0.heap[pb]? = some (.cells (rtA n L) 25 (0, 0))) (hb : BytesAt w0 (some ⟨g, o, none⟩) cap b) (hB : B <= w0.heap.size) (he : (decide (n = 0 /\ L = List.replicate 16 0)) = false) : Fre.StepB Tryz.prog opsQHA.1 a0 w0 (VQHA g o m cap pb n L b B) Fre.Kept 2 := by
 intro E w hc hf hE hV hN hS o ho
 obtain rfl := Option.some.inj ho
 clear ho
 simp only [opsQHA, List.getElem_toArray, List.getElem_cons_succ, List.getElem_cons_zero]
 have d0 := hV 0 30 (by kernel_rfl) (by kernel_rfl)
 have d0 : E (.tmp 30) = .agg (rtA n L) := d0
 have d1 := hV 1 31 (by kernel_rfl) (by kernel_rfl)
 have d1 : E (.tmp 31) = .agg #[.int .u64 0, .int .u64 0, .int .u64 0, .int .u64 0, .int .u64 0, .int .u64 0, .int .u64 0, .int .u64 0, .int .u64 0, .int .u64 0, .int .u64 0, .int .u64 0, .int .u64 0, .int .u64 0, .int .u64 0, .int .u64 0, .int .u64 0] := d1
 have hr : (binOp .eql 25 (.agg (rtA n L)) (.agg #[.int .u64 0, .int .u64 0, .int .u64 0, .int .u64 0, .int .u64 0, .int .u64 0, .int .u64 0, .int .u64 0, .int .u64 0, .int .u64 0, .int .u64 0, .int .u64 0, .int .u64 0, .int .u64 0, .int .u64 0, .int .u64 0, .int .u64 0])).run Tryz.prog w = .ok (.bool false) w := by
  rw [<- he]; exact eql_rootsR n 0 L (List.replicate 16 0) h16 (by simp) hn (by omega) hL zeros16 w
 refine Fre.Does.value (v := .bool false) (w' := w) ?_ ⟨rfl, Fre.Kept.refl _⟩
 unfold execOp
 simp only [d0, d1, Sem.run_bind, Sem.run_pure, run_eqGuard_agg _ _ _ _ _ _ _ (show Tryz.prog.eqGuardType Tryz.prog.depth 25 = false by kernel_rfl), Result.andThen_ok, hr]
theorem stQHA_3 (g o m cap pb n : Nat) (L b : List Nat) (B : Nat) (a0 : Act)  (w0 : World) (hm : b.length = m) (h256 : b.length = 256) (h16 : L.length = 16) (hn : n < 18446744073709551616) (hL : ∀ x ∈ L, x < 18446744073709551616) (h0 : w0.heap[pb]? = some (.cells (rtA n L) 25 (0, 0))) (hb : BytesAt w0 (some ⟨g, o, none⟩) cap b) (hB : B <= w0.heap.size) (he : (decide (n = 0 /\ L = List.replicate 16 0)) = false) : Fre.StepB Tryz.prog opsQHA.1 a0 w0 (VQHA g o m cap pb n L b B) Fre.Kept 3 := by
 intro E w hc hf hE hV hN hS o ho
 obtain rfl := Option.some.inj ho
 clear ho
 simp only [opsQHA, List.getElem_toArray, List.getElem_cons_succ, List.getElem_cons_zero]
 have d2 := hV 2 32 (by kernel_rfl) (by kernel_rfl)
 have d2 : E (.tmp 32) = .bool false := d2
 refine Fre.Does.value (v := .bool false) (w' := w) ?_ ⟨rfl, Fre.Kept.refl _⟩
 go_simp
theorem stQHA_9 (g o m cap pb n : Nat) (L b : List Nat) (B : Nat) (a0 : Act)  (w0 : World) (hm : b.length = m) (h256 : b.length = 256) (h16 : L.length = 16) (hn : n < 18446744073709551616) (hL : ∀ x ∈ L, x < 18446744073709551616) (h0 : w0.heap[pb]? = some (.cells (rtA n L) 25 (0, 0))) (hb : BytesAt w0 (some ⟨g, o, none⟩) cap b) (hB : B <= w0.heap.size) (he : (decide (n = 0 /\ L = List.replicate 16 0)) = false) : Fre.StepB Tryz.prog opsQHA.1 a0 w0 (VQHA g o m cap pb n L b B) Fre.Kept 9 := by
 intro E w hc hf hE hV hN hS o ho
 obtain rfl := Option.some.inj ho
 clear ho
 simp only [opsQHA, List.getElem_toArray, List.getElem_cons_succ, List.getElem_cons_zero]
 have d3 := hV 3 33 (by kernel_rfl) (by kernel_rfl)
 have d3 : E (.tmp 33) = .bool false := d3
 have d8 := hV 8 38 (by kernel_rfl) (by kernel_rfl)
 have d8 : E (.tmp 38) = undef := d8
 refine Fre.Does.value (v := .bool false) (w' := w) ?_ ⟨rfl, Fre.Kept.refl _⟩
 go_simp
theorem kpQHA (g o m cap pb n : Nat) (L b : List Nat) (B : Nat) : ∀ j v w w', j < opsQHA.1.size -> VQHA g o m cap pb n L b B j v w -> Fre.Kept w w' -> VQHA g o m cap pb n L b B j v w' := by
 intro j v w w' hj h hs
 rw [sizeQHA] at hj
 have hc : j = 0 \/ j = 1 \/ j = 2 \/ j = 3 \/ j = 4 \/ j = 5 \/ j = 6 \/ j = 7 \/ j = 8 \/ j = 9 := by omega
 rcases hc with rfl | rfl | rfl | rfl | rfl | rfl | rfl | rfl | rfl | rfl
 ·exact h
 ·exact h
 ·exact h
 ·exact h
 ·exact h
 ·exact h
 ·exact h
 ·exact h
 ·exact h
 ·exact h
section
variable {u1 u2 u3 u5 u6 u7 u8 u9 u10 u11 u12 u13 u14 u15 u16 u17 u18 u19 u20 u21 u22 u23 u24 u25 u26 u27 u28 u29 u30 u31 u32 u33 u34 u35 u36 u37 u38 u39 u40 u41 u42 u43 u44 u45 u46 u47 u48 u49 u50 u51 u52 u53 : Value}
theorem finQHA (g o m cap pb n : Nat) (L b : List Nat) (B : Nat) (vs : Nat -> Value) : Fre.finT opsQHA.1 vs #[.slice (some ⟨g, o, none⟩) m cap, u1, u2, u3, .pointer (some ⟨pb, 0, none⟩), u5, u6, u7, u8, u9, u10, u11, u12, u13, u14, u15, u16, u17, u18, u19, u20, u21, u22, u23, u24, u25, u26, u27, u28, u29, u30, u31, u32, u33, u34, u35, u36, u37, u38, u39, u40, u41, u42, u43, u44, u45, u46, u47, u48, u49, u50, u51, u52, u53] opsQHA.1.size = #[.slice (some ⟨g, o, none⟩) m cap, u1, u2, u3, .pointer (some ⟨pb, 0, none⟩), u5, u6, u7, u8, u9, u10, u11, u12, u13, u14, u15, u16, u17, u18, u19, u20, u21, u22, u23, u24, u25, u26, u27, u28, u29, vs 0, vs 1, vs 2, vs 3, vs 4, vs 5, vs 6, vs 7, vs 8, vs 9, u40, u41, u42, u43, u44, u45, u46, u47, u48, u49, u50, u51, u52, u53] := by kernel_rfl
theorem regionQHA (g o m cap pb n : Nat) (L b : List Nat) (B : Nat) (w0 : World) (hm : b.length = m) (h256 : b.length = 256) (h16 : L.length = 16) (hn : n < 18446744073709551616) (hL : ∀ x ∈ L, x < 18446744073709551616) (h0 : w0.heap[pb]? = some (.cells (rtA n L) 25 (0, 0))) (hb : BytesAt w0 (some ⟨g, o, none⟩) cap b) (hB : B <= w0.heap.size) (he : (decide (n = 0 /\ L = List.replicate 16 0)) = false) {QQ : Exit -> Act -> World -> Prop} (hQ : ∀ (vs : Nat -> Value) w, (∀ j, j < 10 -> VQHA g o m cap pb n L b B j (vs j) w) -> Fre.Kept w0 w -> QQ .normal ⟨#[.slice (some ⟨g, o, none⟩) m cap, u1, u2, u3, .pointer (some ⟨pb, 0, none⟩), u5, u6, u7, u8, u9, u10, u11, u12, u13, u14, u15, u16, u17, u18, u19, u20, u21, u22, u23, u24, u25, u26, u27, u28, u29, vs 0, vs 1, vs 2, vs 3, vs 4, vs 5, vs 6, vs 7, vs 8, vs 9, u40, u41, u42, u43, u44, u45, u46, u47, u48, u49, u50, u51, u52, u53], []⟩ w) : (Code.region 9 opsQHA.1 true).wp Tryz.prog QQ ⟨#[.slice (some ⟨g, o, none⟩) m cap, u1, u2, u3, .pointer (some ⟨pb, 0, none⟩), u5, u6, u7, u8, u9, u10, u11, u12, u13, u14, u15, u16, u17, u18, u19, u20, u21, u22, u23, u24, u25, u26, u27, u28, u29, u30, u31, u32, u33, u34, u35, u36, u37, u38, u39, u40, u41, u42, u43, u44, u45, u46, u47, u48, u49, u50, u51, u52, u53], []⟩ w0 := by
 refine Fre.region_keptG 54 (by kernel_rfl) fitQHA rfl (VQHA g o m cap pb n L b B) GQHA gvQHA gdQHA (fun j hj v w hV => ?_) (kpQHA g o m cap pb n L b B) (fun i hi hg => ?_) (fun i hi hg w => ?_) (fun vs w h1 h2 => ?_)
 case refine_1 =>
  have hj2 := Fre.isGuard_mem hj
  rw [glQHA] at hj2
  have hc : j = 3 := by simpa using hj2
  rcases hc with rfl
  ·exact hV
 case refine_3 =>
  rw [sizeQHA] at hi
  have hc : i = 0 \/ i = 1 \/ i = 2 \/ i = 3 \/ i = 4 \/ i = 5 \/ i = 6 \/ i = 7 \/ i = 8 \/ i = 9 := by omega
  rcases hc with rfl | rfl | rfl | rfl | rfl | rfl | rfl | rfl | rfl | rfl
  ·exact absurd hg (by decide)
  ·exact absurd hg (by decide)
  ·exact absurd hg (by decide)
  ·exact absurd hg (by decide)
  ·exact rfl
  ·exact rfl
  ·exact rfl
  ·exact rfl
  ·exact rfl
  ·exact absurd hg (by decide)
 case refine_4 =>
  have e9 := @finQHA u1 u2 u3 u5 u6 u7 u8 u9 u10 u11 u12 u13 u14 u15 u16 u17 u18 u19 u20 u21 u22 u23 u24 u25 u26 u27 u28 u29 u30 u31 u32 u33 u34 u35 u36 u37 u38 u39 u40 u41 u42 u43 u44 u45 u46 u47 u48 u49 u50 u51 u52 u53 g o m cap pb n L b B vs
  have h9 := hQ vs w (fun j hj => h1 j (by rw [sizeQHA]; exact hj)) h2
  rw [<- e9] at h9
  exact h9
 rw [sizeQHA] at hi
 have hc : i = 0 \/ i = 1 \/ i = 2 \/ i = 3 \/ i = 4 \/ i = 5 \/ i = 6 \/ i = 7 \/ i = 8 \/ i = 9 := by omega
 rcases hc with rfl | rfl | rfl | rfl | rfl | rfl | rfl | rfl | rfl | rfl
 ·exact stQHA_0 g o m cap pb n L b B _ rfl w0 hm h256 h16 hn hL h0 hb hB he
 ·exact stQHA_1 g o m cap pb n L b B _  w0 hm h256 h16 hn hL h0 hb hB he
 ·exact stQHA_2 g o m cap pb n L b B _  w0 hm h256 h16 hn hL h0 hb hB he
 ·exact stQHA_3 g o m cap pb n L b B _  w0 hm h256 h16 hn hL h0 hb hB he
 ·exact absurd hg (by decide)
 ·exact absurd hg (by decide)
 ·exact absurd hg (by decide)
 ·exact absurd hg (by decide)
 ·exact absurd hg (by decide)
 ·exact stQHA_9 g o m cap pb n L b B _  w0 hm h256 h16 hn hL h0 hb hB he
end
def opsQHB : {o : Array Oper // some o = (Tryz.f53.body.bind (Fre.findR 9))} := ⟨_, rfl⟩
theorem fitQHB : Fre.fit .any (Fre.bare opsQHB.1) 54 = true := by kernel_rfl
def GQHB (i : Nat) : Bool := #[true, true, true, true, true, true, true, true, true, true].getD i true
def gvQHB (j : Nat) : Bool := match j with
 | 3 => true
 | _ => false
theorem gdQHB : Fre.guardsB opsQHB.1 gvQHB GQHB = true := by kernel_rfl
theorem glQHB : Fre.guardsL opsQHB.1 = [3, 3, 3, 3, 3] := by kernel_rfl
theorem sizeQHB : opsQHB.1.size = 10 := by kernel_rfl
def VQHB (g o m cap pb n : Nat) (L b : List Nat) (B : Nat) (i : Nat) (v : Value) (w : World) : Prop := match i with
 | 0 => v = .agg (rtA n L)
 | 1 => v = .agg #[.int .u64 0, .int .u64 0, .int .u64 0, .int .u64 0, .int .u64 0, .int .u64 0, .int .u64 0, .int .u64 0, .int .u64 0, .int .u64 0, .int .u64 0, .int .u64 0, .int .u64 0, .int .u64 0, .int .u64 0, .int .u64 0, .int .u64 0]
 | 2 => v = .bool true
 | 3 => v = .bool true
 | 4 => v = .slice (some ⟨g, o, none⟩) m cap
 | 5 => v = strV b
 | 6 => ∃ p, v = .slice (some ⟨p, 0, none⟩) 256 256 /\ w.heap[p]? = some (.cells (bA zB) 5 (0, 0))
 | 7 => v = strV zB
 | 8 => v = .bool (decide (b = zB))
 | 9 => v = .bool (decide (b = zB))
 | _ => True
theorem stQHB_0 (g o m cap pb n : Nat) (L b : List Nat) (B : Nat) (a0 : Act) (g94 : a0.tmps.getD 4 undef = .pointer (some ⟨pb, 0, none⟩)) (w0 : World) (hm : b.length = m) (h256 : b.length = 256) (h16 : L.length = 16) (hn : n < 18446744073709551616) (hL : ∀ x ∈ L, x < 18446744073709551616) (h0 : w0.heap[pb]? = some (.cells (rtA n L) 25 (0, 0))) (hb : BytesAt w0 (some ⟨g, o, none⟩) cap b) (hB : B <= w0.heap.size) (he : (decide (n = 0 /\ L = List.replicate 16 0)) = true) : Fre.StepB Tryz.prog opsQHB.1 a0 w0 (VQHB g o m cap pb n L b B) Fre.Kept 0 := by
 intro E w hc hf hE hV hN hS o ho
 obtain rfl := Option.some.inj ho
 clear ho
 simp only [opsQHB, List.getElem_toArray, List.getElem_cons_succ, List.getElem_cons_zero]
 have b4 : E (.tmp 4) = .pointer (some ⟨pb, 0, none⟩) := (hE 4 (by kernel_rfl)).trans g94
 clear g94
 have hb9 := (hS.block pb (lt_of_block h0)).trans h0
 have hr := run_loadVar_row w pb _ 25 (rtA n L) _ _ hb9 Tryz.underlying25 rfl (by rw [roots17R, rtA_size, h16])
 refine Fre.Does.value (v := .agg (rtA n L)) (w' := w) ?_ ⟨rfl, Fre.Kept.refl _⟩
 unfold execOp
 simp only [b4, Instr.loadAt, Instr.sureAddr, Sem.run_bind, Sem.run_pure, Result.andThen_ok, hr]
theorem stQHB_1 (g o m cap pb n : Nat) (L b : List Nat) (B : Nat) (a0 : Act)  (w0 : World) (hm : b.length = m) (h256 : b.length = 256) (h16 : L.length = 16) (hn : n < 18446744073709551616) (hL : ∀ x ∈ L, x < 18446744073709551616) (h0 : w0.heap[pb]? = some (.cells (rtA n L) 25 (0, 0))) (hb : BytesAt w0 (some ⟨g, o, none⟩) cap b) (hB : B <= w0.heap.size) (he : (decide (n = 0 /\ L = List.replicate 16 0)) = true) : Fre.StepB Tryz.prog opsQHB.1 a0 w0 (VQHB g o m cap pb n L b B) Fre.Kept 1 := by
 intro E w hc hf hE hV hN hS o ho
 obtain rfl := Option.some.inj ho
 clear ho
 simp only [opsQHB, List.getElem_toArray, List.getElem_cons_succ, List.getElem_cons_zero]
 refine Fre.Does.value (v := .agg #[.int .u64 0, .int .u64 0, .int .u64 0, .int .u64 0, .int .u64 0, .int .u64 0, .int .u64 0, .int .u64 0, .int .u64 0, .int .u64 0, .int .u64 0, .int .u64 0, .int .u64 0, .int .u64 0, .int .u64 0, .int .u64 0, .int .u64 0]) (w' := w) ?_ ⟨rfl, Fre.Kept.refl _⟩
 go_simp
theorem stQHB_2 (g o m cap pb n : Nat) (L b : List Nat) (B : Nat) (a0 : Act)  (w0 : World) (hm : b.length = m) (h256 : b.length = 256) (h16 : L.length = 16) (hn : n < 18446744073709551616) (hL : ∀ x ∈ L, x < 18446744073709551616) (h0 : w0.heap[pb]? = some (.cells (rtA n L) 25 (0, 0))) (hb : BytesAt w0 (some ⟨g, o, none⟩) cap b) (hB : B <= w0.heap.size) (he : (decide (n = 0 /\ L = List.replicate 16 0)) = true) : Fre.StepB Tryz.prog opsQHB.1 a0 w0 (VQHB g o m cap pb n L b B) Fre.Kept 2 := by
 intro E w hc hf hE hV hN hS o ho
 obtain rfl := Option.some.inj ho
 clear ho
 simp only [opsQHB, List.getElem_toArray, List.getElem_cons_succ, List.getElem_cons_zero]
 have d0 := hV 0 30 (by kernel_rfl) (by kernel_rfl)
 have d0 : E (.tmp 30) = .agg (rtA n L) := d0
 have d1 := hV 1 31 (by kernel_rfl) (by kernel_rfl)
 have d1 : E (.tmp 31) = .agg #[.int .u64 0, .int .u64 0, .int .u64 0, .int .u64 0, .int .u64 0, .int .u64 0, .int .u64 0, .int .u64 0, .int .u64 0, .int .u64 0, .int .u64 0, .int .u64 0, .int .u64 0, .int .u64 0, .int .u64 0, .int .u64 0, .int .u64 0] := d1
 have hr : (binOp .eql 25 (.agg (rtA n L)) (.agg #[.int .u64 0, .int .u64 0, .int .u64 0, .int .u64 0, .int .u64 0, .int .u64 0, .int .u64 0, .int .u64 0, .int .u64 0, .int .u64 0, .int .u64 0, .int .u64 0, .int .u64 0, .int .u64 0, .int .u64 0, .int .u64 0, .int .u64 0])).run Tryz.prog w = .ok (.bool true) w := by
  rw [<- he]; exact eql_rootsR n 0 L (List.replicate 16 0) h16 (by simp) hn (by omega) hL zeros16 w
 refine Fre.Does.value (v := .bool true) (w' := w) ?_ ⟨rfl, Fre.Kept.refl _⟩
 unfold execOp
 simp only [d0, d1, Sem.run_bind, Sem.run_pure, run_eqGuard_agg _ _ _ _ _ _ _ (show Tryz.prog.eqGuardType Tryz.prog.depth 25 = false by kernel_rfl), Result.andThen_ok, hr]
theorem stQHB_3 (g o m cap pb n : Nat) (L b : List Nat) (B : Nat) (a0 : Act)  (w0 : World) (hm : b.length = m) (h256 : b.length = 256) (h16 : L.length = 16) (hn : n < 18446744073709551616) (hL : ∀ x ∈ L, x < 18446744073709551616) (h0 : w0.heap[pb]? = some (.cells (rtA n L) 25 (0, 0))) (hb : BytesAt w0 (some ⟨g, o, none⟩) cap b) (hB : B <= w0.heap.size) (he : (decide (n = 0 /\ L = List.replicate 16 0)) = true) : Fre.StepB Tryz.prog opsQHB.1 a0 w0 (VQHB g o m cap pb n L b B) Fre.Kept 3 := by
 intro E w hc hf hE hV hN hS o ho
 obtain rfl := Option.some.inj ho
 clear ho
 simp only [opsQHB, List.getElem_toArray, List.getElem_cons_succ, List.getElem_cons_zero]
 have d2 := hV 2 32 (by kernel_rfl) (by kernel_rfl)
 have d2 : E (.tmp 32) = .bool true := d2
 refine Fre.Does.value (v := .bool true) (w' := w) ?_ ⟨rfl, Fre.Kept.refl _⟩
 go_simp
theorem stQHB_4 (g o m cap pb n : Nat) (L b : List Nat) (B : Nat) (a0 : Act) (g90 : a0.tmps.getD 0 undef = .slice (some ⟨g, o, none⟩) m cap) (w0 : World) (hm : b.length = m) (h256 : b.length = 256) (h16 : L.length = 16) (hn : n < 18446744073709551616) (hL : ∀ x ∈ L, x < 18446744073709551616) (h0 : w0.heap[pb]? = some (.cells (rtA n L) 25 (0, 0))) (hb : BytesAt w0 (some ⟨g, o, none⟩) cap b) (hB : B <= w0.heap.size) (he : (decide (n = 0 /\ L = List.replicate 16 0)) = true) : Fre.StepB Tryz.prog opsQHB.1 a0 w0 (VQHB g o m cap pb n L b B) Fre.Kept 4 := by
 intro E w hc hf hE hV hN hS o ho
 obtain rfl := Option.some.inj ho
 clear ho
 simp only [opsQHB, List.getElem_toArray, List.getElem_cons_succ, List.getElem_cons_zero]
 have b0 : E (.tmp 0) = .slice (some ⟨g, o, none⟩) m cap := (hE 0 (by kernel_rfl)).trans g90
 clear g90
 refine Fre.Does.value (v := .slice (some ⟨g, o, none⟩) m cap) (w' := w) ?_ ⟨rfl, Fre.Kept.refl _⟩
 go_simp
theorem stQHB_5 (g o m cap pb n : Nat) (L b : List Nat) (B : Nat) (a0 : Act)  (w0 : World) (hm : b.length = m) (h256 : b.length = 256) (h16 : L.length = 16) (hn : n < 18446744073709551616) (hL : ∀ x ∈ L, x < 18446744073709551616) (h0 : w0.heap[pb]? = some (.cells (rtA n L) 25 (0, 0))) (hb : BytesAt w0 (some ⟨g, o, none⟩) cap b) (hB : B <= w0.heap.size) (he : (decide (n = 0 /\ L = List.replicate 16 0)) = true) : Fre.StepB Tryz.prog opsQHB.1 a0 w0 (VQHB g o m cap pb n L b B) Fre.Kept 5 := by
 intro E w hc hf hE hV hN hS o ho
 obtain rfl := Option.some.inj ho
 clear ho
 simp only [opsQHB, List.getElem_toArray, List.getElem_cons_succ, List.getElem_cons_zero]
 have d4 := hV 4 34 (by kernel_rfl) (by kernel_rfl)
 have d4 : E (.tmp 34) = .slice (some ⟨g, o, none⟩) m cap := d4
 exact Fre.Does.value (run_conv_op (w := w) hm (hb.up hS (Nat.le_refl _)) E (.tmp 34) _ rfl d4) ⟨rfl, Fre.Kept.refl _⟩
theorem stQHB_6 (g o m cap pb n : Nat) (L b : List Nat) (B : Nat) (a0 : Act)  (w0 : World) (hm : b.length = m) (h256 : b.length = 256) (h16 : L.length = 16) (hn : n < 18446744073709551616) (hL : ∀ x ∈ L, x < 18446744073709551616) (h0 : w0.heap[pb]? = some (.cells (rtA n L) 25 (0, 0))) (hb : BytesAt w0 (some ⟨g, o, none⟩) cap b) (hB : B <= w0.heap.size) (he : (decide (n = 0 /\ L = List.replicate 16 0)) = true) : Fre.StepB Tryz.prog opsQHB.1 a0 w0 (VQHB g o m cap pb n L b B) Fre.Kept 6 := by
 intro E w hc hf hE hV hN hS o ho
 obtain rfl := Option.some.inj ho
 clear ho
 simp only [opsQHB, List.getElem_toArray, List.getElem_cons_succ, List.getElem_cons_zero]
 have hmk : (Instr.makeSlice 47 (.int .i64 256) (.int .i64 256)).run Tryz.prog w = .ok (.slice (some ⟨w.heap.size, 0, none⟩) 256 256) (w.alloc (.cells (bA zB) 5)) := mk_bytes 256 (by omega) w
 refine Fre.Does.value (v := .slice (some ⟨w.heap.size, 0, none⟩) 256 256) (w' := w.alloc (.cells (bA zB) 5)) ?_ ⟨⟨_, rfl, heap_new' _ _⟩, below_box _ _⟩
 unfold execOp
 simp only [hc, Sem.run_bind, hmk, Result.andThen_ok]
 rfl
theorem stQHB_7 (g o m cap pb n : Nat) (L b : List Nat) (B : Nat) (a0 : Act)  (w0 : World) (hm : b.length = m) (h256 : b.length = 256) (h16 : L.length = 16) (hn : n < 18446744073709551616) (hL : ∀ x ∈ L, x < 18446744073709551616) (h0 : w0.heap[pb]? = some (.cells (rtA n L) 25 (0, 0))) (hb : BytesAt w0 (some ⟨g, o, none⟩) cap b) (hB : B <= w0.heap.size) (he : (decide (n = 0 /\ L = List.replicate 16 0)) = true) : Fre.StepB Tryz.prog opsQHB.1 a0 w0 (VQHB g o m cap pb n L b B) Fre.Kept 7 := by
 intro E w hc hf hE hV hN hS o ho
 obtain rfl := Option.some.inj ho
 clear ho
 simp only [opsQHB, List.getElem_toArray, List.getElem_cons_succ, List.getElem_cons_zero]
 have d6 := hV 6 36 (by kernel_rfl) (by kernel_rfl)
 replace d6 : (fun v : Value => ∃ p, v = .slice (some ⟨p, 0, none⟩) 256 256 /\ w.heap[p]? = some (.cells (bA zB) 5 (0, 0))) (E (.tmp 36)) := d6
 simp only at d6
 obtain ⟨p, e, f⟩ := d6
 exact Fre.Does.value (run_conv_op (w := w) zB_len256 (bytesAt_256 f) E (.tmp 36) _ rfl e) ⟨rfl, Fre.Kept.refl _⟩
theorem stQHB_8 (g o m cap pb n : Nat) (L b : List Nat) (B : Nat) (a0 : Act)  (w0 : World) (hm : b.length = m) (h256 : b.length = 256) (h16 : L.length = 16) (hn : n < 18446744073709551616) (hL : ∀ x ∈ L, x < 18446744073709551616) (h0 : w0.heap[pb]? = some (.cells (rtA n L) 25 (0, 0))) (hb : BytesAt w0 (some ⟨g, o, none⟩) cap b) (hB : B <= w0.heap.size) (he : (decide (n = 0 /\ L = List.replicate 16 0)) = true) : Fre.StepB Tryz.prog opsQHB.1 a0 w0 (VQHB g o m cap pb n L b B) Fre.Kept 8 := by
 intro E w hc hf hE hV hN hS o ho
 obtain rfl := Option.some.inj ho
 clear ho
 simp only [opsQHB, List.getElem_toArray, List.getElem_cons_succ, List.getElem_cons_zero]
 have d5 := hV 5 35 (by kernel_rfl) (by kernel_rfl)
 have d5 : E (.tmp 35) = strV b := d5
 have d7 := hV 7 37 (by kernel_rfl) (by kernel_rfl)
 have d7 : E (.tmp 37) = strV zB := d7
 exact Fre.Does.value (run_eqs b zB hb.1 zB_lt256 E (.tmp 35) (.tmp 37) _ _ rfl d5 d7 w) ⟨rfl, Fre.Kept.refl _⟩
theorem stQHB_9 (g o m cap pb n : Nat) (L b : List Nat) (B : Nat) (a0 : Act)  (w0 : World) (hm : b.length = m) (h256 : b.length = 256) (h16 : L.length = 16) (hn : n < 18446744073709551616) (hL : ∀ x ∈ L, x < 18446744073709551616) (h0 : w0.heap[pb]? = some (.cells (rtA n L) 25 (0, 0))) (hb : BytesAt w0 (some ⟨g, o, none⟩) cap b) (hB : B <= w0.heap.size) (he : (decide (n = 0 /\ L = List.replicate 16 0)) = true) : Fre.StepB Tryz.prog opsQHB.1 a0 w0 (VQHB g o m cap pb n L b B) Fre.Kept 9 := by
 intro E w hc hf hE hV hN hS o ho
 obtain rfl := Option.some.inj ho
 clear ho
 simp only [opsQHB, List.getElem_toArray, List.getElem_cons_succ, List.getElem_cons_zero]
 have d3 := hV 3 33 (by kernel_rfl) (by kernel_rfl)
 have d3 : E (.tmp 33) = .bool true := d3
 have d8 := hV 8 38 (by kernel_rfl) (by kernel_rfl)
 have d8 : E (.tmp 38) = .bool (decide (b = zB)) := d8
 obtain ⟨y, hy⟩ : ∃ y, y = decide (b = zB) := ⟨_, rfl⟩
 rw [<- hy] at d8
 refine Fre.Does.value (v := .bool y) (w' := w) ?_ ⟨by subst hy; exact rfl, Fre.Kept.refl _⟩
 clear hy
 go_simp
theorem kpQHB (g o m cap pb n : Nat) (L b : List Nat) (B : Nat) : ∀ j v w w', j < opsQHB.1.size -> VQHB g o m cap pb n L b B j v w -> Fre.Kept w w' -> VQHB g o m cap pb n L b B j v w' := by
 intro j v w w' hj h hs
 rw [sizeQHB] at hj
 have hc : j = 0 \/ j = 1 \/ j = 2 \/ j = 3 \/ j = 4 \/ j = 5 \/ j = 6 \/ j = 7 \/ j = 8 \/ j = 9 := by omega
 rcases hc with rfl | rfl | rfl | rfl | rfl | rfl | rfl | rfl | rfl | rfl
 ·exact h
 ·exact h
 ·exact h
 ·exact h
 ·exact h
 ·exact h
 ·change ∃ p, v = .slice (some ⟨p, 0, none⟩) 256 256 /\ w.heap[p]? = some (.cells (bA zB) 5 (0, 0)) at h
  obtain ⟨p, h1, h3⟩ := h
  exact ⟨p, h1, (hs.block _ (lt_of_block h3)).trans h3⟩
 ·exact h
 ·exact h
 ·exact h
section
variable {u1 u2 u3 u5 u6 u7 u8 u9 u10 u11 u12 u13 u14 u15 u16 u17 u18 u19 u20 u21 u22 u23 u24 u25 u26 u27 u28 u29 u30 u31 u32 u33 u34 u35 u36 u37 u38 u39 u40 u41 u42 u43 u44 u45 u46 u47 u48 u49 u50 u51 u52 u53 : Value}
theorem finQHB (g o m cap pb n : Nat) (L b : List Nat) (B : Nat) (vs : Nat -> Value) : Fre.finT opsQHB.1 vs #[.slice (some ⟨g, o, none⟩) m cap, u1, u2, u3, .pointer (some ⟨pb, 0, none⟩), u5, u6, u7, u8, u9, u10, u11, u12, u13, u14, u15, u16, u17, u18, u19, u20, u21, u22, u23, u24, u25, u26, u27, u28, u29, u30, u31, u32, u33, u34, u35, u36, u37, u38, u39, u40, u41, u42, u43, u44, u45, u46, u47, u48, u49, u50, u51, u52, u53] opsQHB.1.size = #[.slice (some ⟨g, o, none⟩) m cap, u1, u2, u3, .pointer (some ⟨pb, 0, none⟩), u5, u6, u7, u8, u9, u10, u11, u12, u13, u14, u15, u16, u17, u18, u19, u20, u21, u22, u23, u24, u25, u26, u27, u28, u29, vs 0, vs 1, vs 2, vs 3, vs 4, vs 5, vs 6, vs 7, vs 8, vs 9, u40, u41, u42, u43, u44, u45, u46, u47, u48, u49, u50, u51, u52, u53] := by kernel_rfl
theorem regionQHB (g o m cap pb n : Nat) (L b : List Nat) (B : Nat) (w0 : World) (hm : b.length = m) (h256 : b.length = 256) (h16 : L.length = 16) (hn : n < 18446744073709551616) (hL : ∀ x ∈ L, x < 18446744073709551616) (h0 : w0.heap[pb]? = some (.cells (rtA n L) 25 (0, 0))) (hb : BytesAt w0 (some ⟨g, o, none⟩) cap b) (hB : B <= w0.heap.size) (he : (decide (n = 0 /\ L = List.replicate 16 0)) = true) {QQ : Exit -> Act -> World -> Prop} (hQ : ∀ (vs : Nat -> Value) w, (∀ j, j < 10 -> VQHB g o m cap pb n L b B j (vs j) w) -> Fre.Kept w0 w -> QQ .normal ⟨#[.slice (some ⟨g, o, none⟩) m cap, u1, u2, u3, .pointer (some ⟨pb, 0, none⟩), u5, u6, u7, u8, u9, u10, u11, u12, u13, u14, u15, u16, u17, u18, u19, u20, u21, u22, u23, u24, u25, u26, u27, u28, u29, vs 0, vs 1, vs 2, vs 3, vs 4, vs 5, vs 6, vs 7, vs 8, vs 9, u40, u41, u42, u43, u44, u45, u46, u47, u48, u49, u50, u51, u52, u53], []⟩ w) : (Code.region 9 opsQHB.1 true).wp Tryz.prog QQ ⟨#[.slice (some ⟨g, o, none⟩) m cap, u1, u2, u3, .pointer (some ⟨pb, 0, none⟩), u5, u6, u7, u8, u9, u10, u11, u12, u13, u14, u15, u16, u17, u18, u19, u20, u21, u22, u23, u24, u25, u26, u27, u28, u29, u30, u31, u32, u33, u34, u35, u36, u37, u38, u39, u40, u41, u42, u43, u44, u45, u46, u47, u48, u49, u50, u51, u52, u53], []⟩ w0 := by
 refine Fre.region_keptG 54 (by kernel_rfl) fitQHB rfl (VQHB g o m cap pb n L b B) GQHB gvQHB gdQHB (fun j hj v w hV => ?_) (kpQHB g o m cap pb n L b B) (fun i hi hg => ?_) (fun i hi hg w => ?_) (fun vs w h1 h2 => ?_)
 case refine_1 =>
  have hj2 := Fre.isGuard_mem hj
  rw [glQHB] at hj2
  have hc : j = 3 := by simpa using hj2
  rcases hc with rfl
  ·exact hV
 case refine_3 =>
  rw [sizeQHB] at hi
  have hc : i = 0 \/ i = 1 \/ i = 2 \/ i = 3 \/ i = 4 \/ i = 5 \/ i = 6 \/ i = 7 \/ i = 8 \/ i = 9 := by omega
  rcases hc with rfl | rfl | rfl | rfl | rfl | rfl | rfl | rfl | rfl | rfl
  ·exact absurd hg (by decide)
  ·exact absurd hg (by decide)
  ·exact absurd hg (by decide)
  ·exact absurd hg (by decide)
  ·exact absurd hg (by decide)
  ·exact absurd hg (by decide)
  ·exact absurd hg (by decide)
  ·exact absurd hg (by decide)
  ·exact absurd hg (by decide)
  ·exact absurd hg (by decide)
 case refine_4 =>
  have e9 := @finQHB u1 u2 u3 u5 u6 u7 u8 u9 u10 u11 u12 u13 u14 u15 u16 u17 u18 u19 u20 u21 u22 u23 u24 u25 u26 u27 u28 u29 u30 u31 u32 u33 u34 u35 u36 u37 u38 u39 u40 u41 u42 u43 u44 u45 u46 u47 u48 u49 u50 u51 u52 u53 g o m cap pb n L b B vs
  have h9 := hQ vs w (fun j hj => h1 j (by rw [sizeQHB]; exact hj)) h2
  rw [<- e9] at h9
  exact h9
 rw [sizeQHB] at hi
 have hc : i = 0 \/ i = 1 \/ i = 2 \/ i = 3 \/ i = 4 \/ i = 5 \/ i = 6 \/ i = 7 \/ i = 8 \/ i = 9 := by omega
 rcases hc with rfl | rfl | rfl | rfl | rfl | rfl | rfl | rfl | rfl | rfl
 ·exact stQHB_0 g o m cap pb n L b B _ rfl w0 hm h256 h16 hn hL h0 hb hB he
 ·exact stQHB_1 g o m cap pb n L b B _  w0 hm h256 h16 hn hL h0 hb hB he
 ·exact stQHB_2 g o m cap pb n L b B _  w0 hm h256 h16 hn hL h0 hb hB he
 ·exact stQHB_3 g o m cap pb n L b B _  w0 hm h256 h16 hn hL h0 hb hB he
 ·exact stQHB_4 g o m cap pb n L b B _ rfl w0 hm h256 h16 hn hL h0 hb hB he
 ·exact stQHB_5 g o m cap pb n L b B _  w0 hm h256 h16 hn hL h0 hb hB he
 ·exact stQHB_6 g o m cap pb n L b B _  w0 hm h256 h16 hn hL h0 hb hB he
 ·exact stQHB_7 g o m cap pb n L b B _  w0 hm h256 h16 hn hL h0 hb hB he
 ·exact stQHB_8 g o m cap pb n L b B _  w0 hm h256 h16 hn hL h0 hb hB he
 ·exact stQHB_9 g o m cap pb n L b B _  w0 hm h256 h16 hn hL h0 hb hB he
end
def opsQRA : {o : Array Oper // some o = (Tryz.f53.body.bind (Fre.findR 11))} := ⟨_, rfl⟩
theorem fitQRA : Fre.fit .any (Fre.bare opsQRA.1) 54 = true := by kernel_rfl
def GQRA (i : Nat) : Bool := #[true, true, true, true, false, false, false, false, false, false, true].getD i true
def gvQRA (j : Nat) : Bool := match j with
 | 3 => true
 | _ => false
theorem gdQRA : Fre.guardsB opsQRA.1 gvQRA GQRA = true := by kernel_rfl
theorem glQRA : Fre.guardsL opsQRA.1 = [3, 3, 3, 3, 3, 3] := by kernel_rfl
theorem sizeQRA : opsQRA.1.size = 11 := by kernel_rfl
def VQRA (g o m cap pb n : Nat) (L b : List Nat) (B : Nat) (i : Nat) (v : Value) (w : World) : Prop := match i with
 | 0 => v = .agg (rtA n L)
 | 1 => v = .bool false
 | 2 => v = .bool true
 | 3 => v = .bool true
 | 4 => v = undef
 | 5 => v = undef
 | 6 => v = undef
 | 7 => v = undef
 | 8 => v = undef
 | 9 => v = undef
 | 10 => v = .bool true
 | _ => True
theorem stQRA_0 (g o m cap pb n : Nat) (L b : List Nat) (B : Nat) (a0 : Act) (g94 : a0.tmps.getD 4 undef = .pointer (some ⟨pb, 0, none⟩)) (w0 : World) (hm : b.length = m) (h256 : b.length = 256) (h16 : L.length = 16) (hn : n < 18446744073709551616) (hL : ∀ x ∈ L, x < 18446744073709551616) (h0 : w0.heap[pb]? = some (.cells (rtA n L) 25 (0, 0))) (hb : BytesAt w0 (some ⟨g, o, none⟩) cap b) (hB : B <= w0.heap.size) (he : rightR n L = false) : Fre.StepB Tryz.prog opsQRA.1 a0 w0 (VQRA g o m cap pb n L b B) Fre.Kept 0 := by
 intro E w hc hf hE hV hN hS o ho
 obtain rfl := Option.some.inj ho
 clear ho
 simp only [opsQRA, List.getElem_toArray, List.getElem_cons_succ, List.getElem_cons_zero]
 have b4 : E (.tmp 4) = .pointer (some ⟨pb, 0, none⟩) := (hE 4 (by kernel_rfl)).trans g94
 clear g94
 have hb9 := (hS.block pb (lt_of_block h0)).trans h0
 have hr := run_loadVar_row w pb _ 25 (rtA n L) _ _ hb9 Tryz.underlying25 rfl (by rw [roots17R, rtA_size, h16])
 refine Fre.Does.value (v := .agg (rtA n L)) (w' := w) ?_ ⟨rfl, Fre.Kept.refl _⟩
 unfold execOp
 simp only [b4, Instr.loadAt, Instr.sureAddr, Sem.run_bind, Sem.run_pure, Result.andThen_ok, hr]
theorem stQRA_1 (g o m cap pb n : Nat) (L b : List Nat) (B : Nat) (a0 : Act)  (w0 : World) (hm : b.length = m) (h256 : b.length = 256) (h16 : L.length = 16) (hn : n < 18446744073709551616) (hL : ∀ x ∈ L, x < 18446744073709551616) (h0 : w0.heap[pb]? = some (.cells (rtA n L) 25 (0, 0))) (hb : BytesAt w0 (some ⟨g, o, none⟩) cap b) (hB : B <= w0.heap.size) (he : rightR n L = false) : Fre.StepB Tryz.prog opsQRA.1 a0 w0 (VQRA g o m cap pb n L b B) Fre.Kept 1 := by
 intro E w hc hf hE hV hN hS o ho
 obtain rfl := Option.some.inj ho
 clear ho
 simp only [opsQRA, List.getElem_toArray, List.getElem_cons_succ, List.getElem_cons_zero]
 have d0 := hV 0 41 (by kernel_rfl) (by kernel_rfl)
 have d0 : E (.tmp 41) = .agg (rtA n L) := d0
 refine Fre.Does.enter (f := 82) (args := #[.agg (rtA n L)]) (w' := w) ?_ ((rtmay_cR n L h16 hL w).mono ?_)
 ·clear he; go_simp
 ·rintro e w' ⟨rfl, hk'⟩
  rw [he]
  exact ⟨_, rfl, rfl, hk'⟩
theorem stQRA_2 (g o m cap pb n : Nat) (L b : List Nat) (B : Nat) (a0 : Act)  (w0 : World) (hm : b.length = m) (h256 : b.length = 256) (h16 : L.length = 16) (hn : n < 18446744073709551616) (hL : ∀ x ∈ L, x < 18446744073709551616) (h0 : w0.heap[pb]? = some (.cells (rtA n L) 25 (0, 0))) (hb : BytesAt w0 (some ⟨g, o, none⟩) cap b) (hB : B <= w0.heap.size) (he : rightR n L = false) : Fre.StepB Tryz.prog opsQRA.1 a0 w0 (VQRA g o m cap pb n L b B) Fre.Kept 2 := by
 intro E w hc hf hE hV hN hS o ho
 obtain rfl := Option.some.inj ho
 clear ho
 simp only [opsQRA, List.getElem_toArray, List.getElem_cons_succ, List.getElem_cons_zero]
 have d1 := hV 1 42 (by kernel_rfl) (by kernel_rfl)
 have d1 : E (.tmp 42) = .bool false := d1
 refine Fre.Does.value (v := .bool true) (w' := w) ?_ ⟨rfl, Fre.Kept.refl _⟩
 go_simp
theorem stQRA_3 (g o m cap pb n : Nat) (L b : List Nat) (B : Nat) (a0 : Act)  (w0 : World) (hm : b.length = m) (h256 : b.length = 256) (h16 : L.length = 16) (hn : n < 18446744073709551616) (hL : ∀ x ∈ L, x < 18446744073709551616) (h0 : w0.heap[pb]? = some (.cells (rtA n L) 25 (0, 0))) (hb : BytesAt w0 (some ⟨g, o, none⟩) cap b) (hB : B <= w0.heap.size) (he : rightR n L = false) : Fre.StepB Tryz.prog opsQRA.1 a0 w0 (VQRA g o m cap pb n L b B) Fre.Kept 3 := by
 intro E w hc hf hE hV hN hS o ho
 obtain rfl := Option.some.inj ho
 clear ho
 simp only [opsQRA, List.getElem_toArray, List.getElem_cons_succ, List.getElem_cons_zero]
 have d2 := hV 2 43 (by kernel_rfl) (by kernel_rfl)
 have d2 : E (.tmp 43) = .bool true := d2
 refine Fre.Does.value (v := .bool true) (w' := w) ?_ ⟨rfl, Fre.Kept.refl _⟩
 go_simp
theorem stQRA_10 (g o m cap pb n : Nat) (L b : List Nat) (B : Nat) (a0 : Act)  (w0 : World) (hm : b.length = m) (h256 : b.length = 256) (h16 : L.length = 16) (hn : n < 18446744073709551616) (hL : ∀ x ∈ L, x < 18446744073709551616) (h0 : w0.heap[pb]? = some (.cells (rtA n L) 25 (0, 0))) (hb : BytesAt w0 (some ⟨g, o, none⟩) cap b) (hB : B <= w0.heap.size) (he : rightR n L = false) : Fre.StepB Tryz.prog opsQRA.1 a0 w0 (VQRA g o m cap pb n L b B) Fre.Kept 10 := by
 intro E w hc hf hE hV hN hS o ho
 obtain rfl := Option.some.inj ho
 clear ho
 simp only [opsQRA, List.getElem_toArray, List.getElem_cons_succ, List.getElem_cons_zero]
 have d3 := hV 3 44 (by kernel_rfl) (by kernel_rfl)
 have d3 : E (.tmp 44) = .bool true := d3
 have d9 := hV 9 50 (by kernel_rfl) (by kernel_rfl)
 have d9 : E (.tmp 50) = undef := d9
 refine Fre.Does.value (v := .bool true) (w' := w) ?_ ⟨rfl, Fre.Kept.refl _⟩
 go_simp
theorem kpQRA (g o m cap pb n : Nat) (L b : List Nat) (B : Nat) : ∀ j v w w', j < opsQRA.1.size -> VQRA g o m cap pb n L b B j v w -> Fre.Kept w w' -> VQRA g o m cap pb n L b B j v w' := by
 intro j v w w' hj h hs
 rw [sizeQRA] at hj
 have hc : j = 0 \/ j = 1 \/ j = 2 \/ j = 3 \/ j = 4 \/ j = 5 \/ j = 6 \/ j = 7 \/ j = 8 \/ j = 9 \/ j = 10 := by omega
 rcases hc with rfl | rfl | rfl | rfl | rfl | rfl | rfl | rfl | rfl | rfl | rfl
 ·exact h
 ·exact h
 ·exact h
 ·exact h
 ·exact h
 ·exact h
 ·exact h
 ·exact h
 ·exact h
 ·exact h
 ·exact h
section
variable {u1 u2 u3 u5 u6 u7 u8 u9 u10 u11 u12 u13 u14 u15 u16 u17 u18 u19 u20 u21 u22 u23 u24 u25 u26 u27 u28 u29 u30 u31 u32 u33 u34 u35 u36 u37 u38 u39 u40 u41 u42 u43 u44 u45 u46 u47 u48 u49 u50 u51 u52 u53 : Value}
theorem finQRA (g o m cap pb n : Nat) (L b : List Nat) (B : Nat) (vs : Nat -> Value) : Fre.finT opsQRA.1 vs #[.slice (some ⟨g, o, none⟩) m cap, u1, u2, u3, .pointer (some ⟨pb, 0, none⟩), u5, u6, u7, u8, u9, u10, u11, u12, u13, u14, u15, u16, u17, u18, u19, u20, u21, u22, u23, u24, u25, u26, u27, u28, u29, u30, u31, u32, u33, u34, u35, u36, u37, u38, u39, u40, u41, u42, u43, u44, u45, u46, u47, u48, u49, u50, u51, u52, u53] opsQRA.1.size = #[.slice (some ⟨g, o, none⟩) m cap, u1, u2, u3, .pointer (some ⟨pb, 0, none⟩), u5, u6, u7, u8, u9, u10, u11, u12, u13, u14, u15, u16, u17, u18, u19, u20, u21, u22, u23, u24, u25, u26, u27, u28, u29, u30, u31, u32, u33, u34, u35, u36, u37, u38, u39, u40, vs 0, vs 1, vs 2, vs 3, vs 4, vs 5, vs 6, vs 7, vs 8, vs 9, vs 10, u52, u53] := by kernel_rfl
theorem regionQRA (g o m cap pb n : Nat) (L b : List Nat) (B : Nat) (w0 : World) (hm : b.length = m) (h256 : b.length = 256) (h16 : L.length = 16) (hn : n < 18446744073709551616) (hL : ∀ x ∈ L, x < 18446744073709551616) (h0 : w0.heap[pb]? = some (.cells (rtA n L) 25 (0, 0))) (hb : BytesAt w0 (some ⟨g, o, none⟩) cap b) (hB : B <= w0.heap.size) (he : rightR n L = false) {QQ : Exit -> Act -> World -> Prop} (hQ : ∀ (vs : Nat -> Value) w, (∀ j, j < 11 -> VQRA g o m cap pb n L b B j (vs j) w) -> Fre.Kept w0 w -> QQ .normal ⟨#[.slice (some ⟨g, o, none⟩) m cap, u1, u2, u3, .pointer (some ⟨pb, 0, none⟩), u5, u6, u7, u8, u9, u10, u11, u12, u13, u14, u15, u16, u17, u18, u19, u20, u21, u22, u23, u24, u25, u26, u27, u28, u29, u30, u31, u32, u33, u34, u35, u36, u37, u38, u39, u40, vs 0, vs 1, vs 2, vs 3, vs 4, vs 5, vs 6, vs 7, vs 8, vs 9, vs 10, u52, u53], []⟩ w) : (Code.region 11 opsQRA.1 true).wp Tryz.prog QQ ⟨#[.slice (some ⟨g, o, none⟩) m cap, u1, u2, u3, .pointer (some ⟨pb, 0, none⟩), u5, u6, u7, u8, u9, u10, u11, u12, u13, u14, u15, u16, u17, u18, u19, u20, u21, u22, u23, u24, u25, u26, u27, u28, u29, u30, u31, u32, u33, u34, u35, u36, u37, u38, u39, u40, u41, u42, u43, u44, u45, u46, u47, u48, u49, u50, u51, u52, u53], []⟩ w0 := by
 refine Fre.region_keptG 54 (by kernel_rfl) fitQRA rfl (VQRA g o m cap pb n L b B) GQRA gvQRA gdQRA (fun j hj v w hV => ?_) (kpQRA g o m cap pb n L b B) (fun i hi hg => ?_) (fun i hi hg w => ?_) (fun vs w h1 h2 => ?_)
 case refine_1 =>
  have hj2 := Fre.isGuard_mem hj
  rw [glQRA] at hj2
  have hc : j = 3 := by simpa using hj2
  rcases hc with rfl
  ·exact hV
 case refine_3 =>
  rw [sizeQRA] at hi
  have hc : i = 0 \/ i = 1 \/ i = 2 \/ i = 3 \/ i = 4 \/ i = 5 \/ i = 6 \/ i = 7 \/ i = 8 \/ i = 9 \/ i = 10 := by omega
  rcases hc with rfl | rfl | rfl | rfl | rfl | rfl | rfl | rfl | rfl | rfl | rfl
  ·exact absurd hg (by decide)
  ·exact absurd hg (by decide)
  ·exact absurd hg (by decide)
  ·exact absurd hg (by decide)
  ·exact rfl
  ·exact rfl
  ·exact rfl
  ·exact rfl
  ·exact rfl
  ·exact rfl
  ·exact absurd hg (by decide)
 case refine_4 =>
  have e9 := @finQRA u1 u2 u3 u5 u6 u7 u8 u9 u10 u11 u12 u13 u14 u15 u16 u17 u18 u19 u20 u21 u22 u23 u24 u25 u26 u27 u28 u29 u30 u31 u32 u33 u34 u35 u36 u37 u38 u39 u40 u41 u42 u43 u44 u45 u46 u47 u48 u49 u50 u51 u52 u53 g o m cap pb n L b B vs
  have h9 := hQ vs w (fun j hj => h1 j (by rw [sizeQRA]; exact hj)) h2
  rw [<- e9] at h9
  exact h9
 rw [sizeQRA] at hi
 have hc : i = 0 \/ i = 1 \/ i = 2 \/ i = 3 \/ i = 4 \/ i = 5 \/ i = 6 \/ i = 7 \/ i = 8 \/ i = 9 \/ i = 10 := by omega
 rcases hc with rfl | rfl | rfl | rfl | rfl | rfl | rfl | rfl | rfl | rfl | rfl
 ·exact stQRA_0 g o m cap pb n L b B _ rfl w0 hm h256 h16 hn hL h0 hb hB he
 ·exact stQRA_1 g o m cap pb n L b B _  w0 hm h256 h16 hn hL h0 hb hB he
 ·exact stQRA_2 g o m cap pb n L b B _  w0 hm h256 h16 hn hL h0 hb hB he
 ·exact stQRA_3 g o m cap pb n L b B _  w0 hm h256 h16 hn hL h0 hb hB he
 ·exact absurd hg (by decide)
 ·exact absurd hg (by decide)
 ·exact absurd hg (by decide)
 ·exact absurd hg (by decide)
 ·exact absurd hg (by decide)
 ·exact absurd hg (by decide)
 ·exact stQRA_10 g o m cap pb n L b B _  w0 hm h256 h16 hn hL h0 hb hB he
end
def opsQRB : {o : Array Oper // some o = (Tryz.f53.body.bind (Fre.findR 11))} := ⟨_, rfl⟩
theorem fitQRB : Fre.fit .any (Fre.bare opsQRB.1) 54 = true := by kernel_rfl
def GQRB (i : Nat) : Bool := #[true, true, true, true, true, true, true, true, true, true, true].getD i true
def gvQRB (j : Nat) : Bool := match j with
 | 3 => false
 | _ => false
theorem gdQRB : Fre.guardsB opsQRB.1 gvQRB GQRB = true := by kernel_rfl
theorem glQRB : Fre.guardsL opsQRB.1 = [3, 3, 3, 3, 3, 3] := by kernel_rfl
theorem sizeQRB : opsQRB.1.size = 11 := by kernel_rfl
def VQRB (g o m cap pb n : Nat) (L b : List Nat) (B : Nat) (i : Nat) (v : Value) (w : World) : Prop := match i with
 | 0 => v = .agg (rtA n L)
 | 1 => v = .bool true
 | 2 => v = .bool false
 | 3 => v = .bool false
 | 4 => v = .agg (rtA n L)
 | 5 => ∃ a c, v = .slice a 256 c /\ BytesAt w a c (rtBytes n L)
 | 6 => v = strV (rtBytes n L)
 | 7 => v = .slice (some ⟨g, o, none⟩) m cap
 | 8 => v = strV b
 | 9 => v = .bool (!decide (rtBytes n L = b))
 | 10 => v = .bool (!decide (rtBytes n L = b))
 | _ => True
theorem stQRB_0 (g o m cap pb n : Nat) (L b : List Nat) (B : Nat) (a0 : Act) (g94 : a0.tmps.getD 4 undef = .pointer (some ⟨pb, 0, none⟩)) (w0 : World) (hm : b.length = m) (h256 : b.length = 256) (h16 : L.length = 16) (hn : n < 18446744073709551616) (hL : ∀ x ∈ L, x < 18446744073709551616) (h0 : w0.heap[pb]? = some (.cells (rtA n L) 25 (0, 0))) (hb : BytesAt w0 (some ⟨g, o, none⟩) cap b) (hB : B <= w0.heap.size) (he : rightR n L = true) : Fre.StepB Tryz.prog opsQRB.1 a0 w0 (VQRB g o m cap pb n L b B) Fre.Kept 0 := by
 intro E w hc hf hE hV hN hS o ho
 obtain rfl := Option.some.inj ho
 clear ho
 simp only [opsQRB, List.getElem_toArray, List.getElem_cons_succ, List.getElem_cons_zero]
 have b4 : E (.tmp 4) = .pointer (some ⟨pb, 0, none⟩) := (hE 4 (by kernel_rfl)).trans g94
 clear g94
 have hb9 := (hS.block pb (lt_of_block h0)).trans h0
 have hr := run_loadVar_row w pb _ 25 (rtA n L) _ _ hb9 Tryz.underlying25 rfl (by rw [roots17R, rtA_size, h16])
 refine Fre.Does.value (v := .agg (rtA n L)) (w' := w) ?_ ⟨rfl, Fre.Kept.refl _⟩
 unfold execOp
 simp only [b4, Instr.loadAt, Instr.sureAddr, Sem.run_bind, Sem.run_pure, Result.andThen_ok, hr]
theorem stQRB_1 (g o m cap pb n : Nat) (L b : List Nat) (B : Nat) (a0 : Act)  (w0 : World) (hm : b.length = m) (h256 : b.length = 256) (h16 : L.length = 16) (hn : n < 18446744073709551616) (hL : ∀ x ∈ L, x < 18446744073709551616) (h0 : w0.heap[pb]? = some (.cells (rtA n L) 25 (0, 0))) (hb : BytesAt w0 (some ⟨g, o, none⟩) cap b) (hB : B <= w0.heap.size) (he : rightR n L = true) : Fre.StepB Tryz.prog opsQRB.1 a0 w0 (VQRB g o m cap pb n L b B) Fre.Kept 1 := by
 intro E w hc hf hE hV hN hS o ho
 obtain rfl := Option.some.inj ho
 clear ho
 simp only [opsQRB, List.getElem_toArray, List.getElem_cons_succ, List.getElem_cons_zero]
 have d0 := hV 0 41 (by kernel_rfl) (by kernel_rfl)
 have d0 : E (.tmp 41) = .agg (rtA n L) := d0
 refine Fre.Does.enter (f := 82) (args := #[.agg (rtA n L)]) (w' := w) ?_ ((rtmay_cR n L h16 hL w).mono ?_)
 ·clear he; go_simp
 ·rintro e w' ⟨rfl, hk'⟩
  rw [he]
  exact ⟨_, rfl, rfl, hk'⟩
theorem stQRB_2 (g o m cap pb n : Nat) (L b : List Nat) (B : Nat) (a0 : Act)  (w0 : World) (hm : b.length = m) (h256 : b.length = 256) (h16 : L.length = 16) (hn : n < 18446744073709551616) (hL : ∀ x ∈ L, x < 18446744073709551616) (h0 : w0.heap[pb]? = some (.cells (rtA n L) 25 (0, 0))) (hb : BytesAt w0 (some ⟨g, o, none⟩) cap b) (hB : B <= w0.heap.size) (he : rightR n L = true) : Fre.StepB Tryz.prog opsQRB.1 a0 w0 (VQRB g o m cap pb n L b B) Fre.Kept 2 := by
 intro E w hc hf hE hV hN hS o ho
 obtain rfl := Option.some.inj ho
 clear ho
 simp only [opsQRB, List.getElem_toArray, List.getElem_cons_succ, List.getElem_cons_zero]
 have d1 := hV 1 42 (by kernel_rfl) (by kernel_rfl)
 have d1 : E (.tmp 42) = .bool true := d1
 refine Fre.Does.value (v := .bool false) (w' := w) ?_ ⟨rfl, Fre.Kept.refl _⟩
 go_simp
theorem stQRB_3 (g o m cap pb n : Nat) (L b : List Nat) (B : Nat) (a0 : Act)  (w0 : World) (hm : b.length = m) (h256 : b.length = 256) (h16 : L.length = 16) (hn : n < 18446744073709551616) (hL : ∀ x ∈ L, x < 18446744073709551616) (h0 : w0.heap[pb]? = some (.cells (rtA n L) 25 (0, 0))) (hb : BytesAt w0 (some ⟨g, o, none⟩) cap b) (hB : B <= w0.heap.size) (he : rightR n L = true) : Fre.StepB Tryz.prog opsQRB.1 a0 w0 (VQRB g o m cap pb n L b B) Fre.Kept 3 := by
 intro E w hc hf hE hV hN hS o ho
 obtain rfl := Option.some.inj ho
 clear ho
 simp only [opsQRB, List.getElem_toArray, List.getElem_cons_succ, List.getElem_cons_zero]
 have d2 := hV 2 43 (by kernel_rfl) (by kernel_rfl)
 have d2 : E (.tmp 43) = .bool false := d2
 refine Fre.Does.value (v := .bool false) (w' := w) ?_ ⟨rfl, Fre.Kept.refl _⟩
 go_simp
theorem stQRB_4 (g o m cap pb n : Nat) (L b : List Nat) (B : Nat) (a0 : Act) (g94 : a0.tmps.getD 4 undef = .pointer (some ⟨pb, 0, none⟩)) (w0 : World) (hm : b.length = m) (h256 : b.length = 256) (h16 : L.length = 16) (hn : n < 18446744073709551616) (hL : ∀ x ∈ L, x < 18446744073709551616) (h0 : w0.heap[pb]? = some (.cells (rtA n L) 25 (0, 0))) (hb : BytesAt w0 (some ⟨g, o, none⟩) cap b) (hB : B <= w0.heap.size) (he : rightR n L = true) : Fre.StepB Tryz.prog opsQRB.1 a0 w0 (VQRB g o m cap pb n L b B) Fre.Kept 4 := by
 intro E w hc hf hE hV hN hS o ho
 obtain rfl := Option.some.inj ho
 clear ho
 simp only [opsQRB, List.getElem_toArray, List.getElem_cons_succ, List.getElem_cons_zero]
 have b4 : E (.tmp 4) = .pointer (some ⟨pb, 0, none⟩) := (hE 4 (by kernel_rfl)).trans g94
 clear g94
 have hb9 := (hS.block pb (lt_of_block h0)).trans h0
 have hr := run_loadVar_row w pb _ 25 (rtA n L) _ _ hb9 Tryz.underlying25 rfl (by rw [roots17R, rtA_size, h16])
 refine Fre.Does.value (v := .agg (rtA n L)) (w' := w) ?_ ⟨rfl, Fre.Kept.refl _⟩
 unfold execOp
 simp only [b4, Instr.loadAt, Instr.sureAddr, Sem.run_bind, Sem.run_pure, Result.andThen_ok, hr]
theorem stQRB_5 (g o m cap pb n : Nat) (L b : List Nat) (B : Nat) (a0 : Act)  (w0 : World) (hm : b.length = m) (h256 : b.length = 256) (h16 : L.length = 16) (hn : n < 18446744073709551616) (hL : ∀ x ∈ L, x < 18446744073709551616) (h0 : w0.heap[pb]? = some (.cells (rtA n L) 25 (0, 0))) (hb : BytesAt w0 (some ⟨g, o, none⟩) cap b) (hB : B <= w0.heap.size) (he : rightR n L = true) : Fre.StepB Tryz.prog opsQRB.1 a0 w0 (VQRB g o m cap pb n L b B) Fre.Kept 5 := by
 intro E w hc hf hE hV hN hS o ho
 obtain rfl := Option.some.inj ho
 clear ho
 simp only [opsQRB, List.getElem_toArray, List.getElem_cons_succ, List.getElem_cons_zero]
 have d4 := hV 4 45 (by kernel_rfl) (by kernel_rfl)
 have d4 : E (.tmp 45) = .agg (rtA n L) := d4
 refine Fre.Does.enter (f := 14) (args := #[.agg (rtA n L)]) (w' := w) ?_ ((rhbytes_c n L h16 hn hL w).mono ?_)
 ·clear he; go_simp
 ·rintro e w' ⟨⟨v, rfl, hown⟩, hk'⟩
  obtain ⟨a, c, rfl, hbt, _⟩ := own_bytes (rtBytes_lt n L) hown
  exact ⟨_, rfl, ⟨a, c, rfl, hbt⟩, hk'⟩
theorem stQRB_6 (g o m cap pb n : Nat) (L b : List Nat) (B : Nat) (a0 : Act)  (w0 : World) (hm : b.length = m) (h256 : b.length = 256) (h16 : L.length = 16) (hn : n < 18446744073709551616) (hL : ∀ x ∈ L, x < 18446744073709551616) (h0 : w0.heap[pb]? = some (.cells (rtA n L) 25 (0, 0))) (hb : BytesAt w0 (some ⟨g, o, none⟩) cap b) (hB : B <= w0.heap.size) (he : rightR n L = true) : Fre.StepB Tryz.prog opsQRB.1 a0 w0 (VQRB g o m cap pb n L b B) Fre.Kept 6 := by
 intro E w hc hf hE hV hN hS o ho
 obtain rfl := Option.some.inj ho
 clear ho
 simp only [opsQRB, List.getElem_toArray, List.getElem_cons_succ, List.getElem_cons_zero]
 have d5 := hV 5 46 (by kernel_rfl) (by kernel_rfl)
 replace d5 : (fun v : Value => ∃ a c, v = .slice a 256 c /\ BytesAt w a c (rtBytes n L)) (E (.tmp 46)) := d5
 simp only at d5
 obtain ⟨a, c, e, f⟩ := d5
 exact Fre.Does.value (run_conv_op (w := w) (rtBytes_len n L) f E (.tmp 46) _ rfl e) ⟨rfl, Fre.Kept.refl _⟩
theorem stQRB_7 (g o m cap pb n : Nat) (L b : List Nat) (B : Nat) (a0 : Act) (g90 : a0.tmps.getD 0 undef = .slice (some ⟨g, o, none⟩) m cap) (w0 : World) (hm : b.length = m) (h256 : b.length = 256) (h16 : L.length = 16) (hn : n < 18446744073709551616) (hL : ∀ x ∈ L, x < 18446744073709551616) (h0 : w0.heap[pb]? = some (.cells (rtA n L) 25 (0, 0))) (hb : BytesAt w0 (some ⟨g, o, none⟩) cap b) (hB : B <= w0.heap.size) (he : rightR n L = true) : Fre.StepB Tryz.prog opsQRB.1 a0 w0 (VQRB g o m cap pb n L b B) Fre.Kept 7 := by
 intro E w hc hf hE hV hN hS o ho
 obtain rfl := Option.some.inj ho
 clear ho
 simp only [opsQRB, List.getElem_toArray, List.getElem_cons_succ, List.getElem_cons_zero]
 have b0 : E (.tmp 0) = .slice (some ⟨g, o, none⟩) m cap := (hE 0 (by kernel_rfl)).trans g90
 clear g90
 refine Fre.Does.value (v := .slice (some ⟨g, o, none⟩) m cap) (w' := w) ?_ ⟨rfl, Fre.Kept.refl _⟩
 go_simp
theorem stQRB_8 (g o m cap pb n : Nat) (L b : List Nat) (B : Nat) (a0 : Act)  (w0 : World) (hm : b.length = m) (h256 : b.length = 256) (h16 : L.length = 16) (hn : n < 18446744073709551616) (hL : ∀ x ∈ L, x < 18446744073709551616) (h0 : w0.heap[pb]? = some (.cells (rtA n L) 25 (0, 0))) (hb : BytesAt w0 (some ⟨g, o, none⟩) cap b) (hB : B <= w0.heap.size) (he : rightR n L = true) : Fre.StepB Tryz.prog opsQRB.1 a0 w0 (VQRB g o m cap pb n L b B) Fre.Kept 8 := by
 intro E w hc hf hE hV hN hS o ho
 obtain rfl := Option.some.inj ho
 clear ho
 simp only [opsQRB, List.getElem_toArray, List.getElem_cons_succ, List.getElem_cons_zero]
 have d7 := hV 7 48 (by kernel_rfl) (by kernel_rfl)
 have d7 : E (.tmp 48) = .slice (some ⟨g, o, none⟩) m cap := d7
 exact Fre.Does.value (run_conv_op (w := w) hm (hb.up hS (Nat.le_refl _)) E (.tmp 48) _ rfl d7) ⟨rfl, Fre.Kept.refl _⟩
theorem stQRB_9 (g o m cap pb n : Nat) (L b : List Nat) (B : Nat) (a0 : Act)  (w0 : World) (hm : b.length = m) (h256 : b.length = 256) (h16 : L.length = 16) (hn : n < 18446744073709551616) (hL : ∀ x ∈ L, x < 18446744073709551616) (h0 : w0.heap[pb]? = some (.cells (rtA n L) 25 (0, 0))) (hb : BytesAt w0 (some ⟨g, o, none⟩) cap b) (hB : B <= w0.heap.size) (he : rightR n L = true) : Fre.StepB Tryz.prog opsQRB.1 a0 w0 (VQRB g o m cap pb n L b B) Fre.Kept 9 := by
 intro E w hc hf hE hV hN hS o ho
 obtain rfl := Option.some.inj ho
 clear ho
 simp only [opsQRB, List.getElem_toArray, List.getElem_cons_succ, List.getElem_cons_zero]
 have d6 := hV 6 47 (by kernel_rfl) (by kernel_rfl)
 have d6 : E (.tmp 47) = strV (rtBytes n L) := d6
 have d8 := hV 8 49 (by kernel_rfl) (by kernel_rfl)
 have d8 : E (.tmp 49) = strV b := d8
 exact Fre.Does.value (run_nes (rtBytes n L) b (rtBytes_lt n L) hb.1 E (.tmp 47) (.tmp 49) _ _ rfl d6 d8 w) ⟨rfl, Fre.Kept.refl _⟩
theorem stQRB_10 (g o m cap pb n : Nat) (L b : List Nat) (B : Nat) (a0 : Act)  (w0 : World) (hm : b.length = m) (h256 : b.length = 256) (h16 : L.length = 16) (hn : n < 18446744073709551616) (hL : ∀ x ∈ L, x < 18446744073709551616) (h0 : w0.heap[pb]? = some (.cells (rtA n L) 25 (0, 0))) (hb : BytesAt w0 (some ⟨g, o, none⟩) cap b) (hB : B <= w0.heap.size) (he : rightR n L = true) : Fre.StepB Tryz.prog opsQRB.1 a0 w0 (VQRB g o m cap pb n L b B) Fre.Kept 10 := by
 intro E w hc hf hE hV hN hS o ho
 obtain rfl := Option.some.inj ho
 clear ho
 simp only [opsQRB, List.getElem_toArray, List.getElem_cons_succ, List.getElem_cons_zero]
 have d3 := hV 3 44 (by kernel_rfl) (by kernel_rfl)
 have d3 : E (.tmp 44) = .bool false := d3
 have d9 := hV 9 50 (by kernel_rfl) (by kernel_rfl)
 have d9 : E (.tmp 50) = .bool (!decide (rtBytes n L = b)) := d9
 obtain ⟨y, hy⟩ : ∃ y, y = !decide (rtBytes n L = b) := ⟨_, rfl⟩
 rw [<- hy] at d9
 refine Fre.Does.value (v := .bool y) (w' := w) ?_ ⟨by subst hy; exact rfl, Fre.Kept.refl _⟩
 clear hy
 go_simp
theorem kpQRB (g o m cap pb n : Nat) (L b : List Nat) (B : Nat) : ∀ j v w w', j < opsQRB.1.size -> VQRB g o m cap pb n L b B j v w -> Fre.Kept w w' -> VQRB g o m cap pb n L b B j v w' := by
 intro j v w w' hj h hs
 rw [sizeQRB] at hj
 have hc : j = 0 \/ j = 1 \/ j = 2 \/ j = 3 \/ j = 4 \/ j = 5 \/ j = 6 \/ j = 7 \/ j = 8 \/ j = 9 \/ j = 10 := by omega
 rcases hc with rfl | rfl | rfl | rfl | rfl | rfl | rfl | rfl | rfl | rfl | rfl
 ·exact h
 ·exact h
 ·exact h
 ·exact h
 ·exact h
 ·change ∃ a c, v = .slice a 256 c /\ BytesAt w a c (rtBytes n L) at h
  obtain ⟨a, c, h1, h2⟩ := h
  exact ⟨a, c, h1, h2.up hs (Nat.le_refl _)⟩
 ·exact h
 ·exact h
 ·exact h
 ·exact h
 ·exact h
section
variable {u1 u2 u3 u5 u6 u7 u8 u9 u10 u11 u12 u13 u14 u15 u16 u17 u18 u19 u20 u21 u22 u23 u24 u25 u26 u27 u28 u29 u30 u31 u32 u33 u34 u35 u36 u37 u38 u39 u40 u41 u42 u43 u44 u45 u46 u47 u48 u49 u50 u51 u52 u53 : Value}
theorem finQRB (g o m cap pb n : Nat) (L b : List Nat) (B : Nat) (vs : Nat -> Value) : Fre.finT opsQRB.1 vs #[.slice (some ⟨g, o, none⟩) m cap, u1, u2, u3, .pointer (some ⟨pb, 0, none⟩), u5, u6, u7, u8, u9, u10, u11, u12, u13, u14, u15, u16, u17, u18, u19, u20, u21, u22, u23, u24, u25, u26, u27, u28, u29, u30, u31, u32, u33, u34, u35, u36, u37, u38, u39, u40, u41, u42, u43, u44, u45, u46, u47, u48, u49, u50, u51, u52, u53] opsQRB.1.size = #[.slice (some ⟨g, o, none⟩) m cap, u1, u2, u3, .pointer (some ⟨pb, 0, none⟩), u5, u6, u7, u8, u9, u10, u11, u12, u13, u14, u15, u16, u17, u18, u19, u20, u21, u22, u23, u24, u25, u26, u27, u28, u29, u30, u31, u32, u33, u34, u35, u36, u37, u38, u39, u40, vs 0, vs 1, vs 2, vs 3, vs 4, vs 5, vs 6, vs 7, vs 8, vs 9, vs 10, u52, u53] := by kernel_rfl
theorem regionQRB (g o m cap pb n : Nat) (L b : List Nat) (B : Nat) (w0 : World) (hm : b.length = m) (h256 : b.length = 256) (h16 : L.length = 16) (hn : n < 18446744073709551616) (hL : ∀ x ∈ L, x < 18446744073709551616) (h0 : w0.heap[pb]? = some (.cells (rtA n L) 25 (0, 0))) (hb : BytesAt w0 (some ⟨g, o, none⟩) cap b) (hB : B <= w0.heap.size) (he : rightR n L = true) {QQ : Exit -> Act -> World -> Prop} (hQ : ∀ (vs : Nat -> Value) w, (∀ j, j < 11 -> VQRB g o m cap pb n L b B j (vs j) w) -> Fre.Kept w0 w -> QQ .normal ⟨#[.slice (some ⟨g, o, none⟩) m cap, u1, u2, u3, .pointer (some ⟨pb, 0, none⟩), u5, u6, u7, u8, u9, u10, u11, u12, u13, u14, u15, u16, u17, u18, u19, u20, u21, u22, u23, u24, u25, u26, u27, u28, u29, u30, u31, u32, u33, u34, u35, u36, u37, u38, u39, u40, vs 0, vs 1, vs 2, vs 3, vs 4, vs 5, vs 6, vs 7, vs 8, vs 9, vs 10, u52, u53], []⟩ w) : (Code.region 11 opsQRB.1 true).wp Tryz.prog QQ ⟨#[.slice (some ⟨g, o, none⟩) m cap, u1, u2, u3, .pointer (some ⟨pb, 0, none⟩), u5, u6, u7, u8, u9, u10, u11, u12, u13, u14, u15, u16, u17, u18, u19, u20, u21, u22, u23, u24, u25, u26, u27, u28, u29, u30, u31, u32, u33, u34, u35, u36, u37, u38, u39, u40, u41, u42, u43, u44, u45, u46, u47, u48, u49, u50, u51, u52, u53], []⟩ w0 := by
 refine Fre.region_keptG 54 (by kernel_rfl) fitQRB rfl (VQRB g o m cap pb n L b B) GQRB gvQRB gdQRB (fun j hj v w hV => ?_) (kpQRB g o m cap pb n L b B) (fun i hi hg => ?_) (fun i hi hg w => ?_) (fun vs w h1 h2 => ?_)
 case refine_1 =>
  have hj2 := Fre.isGuard_mem hj
  rw [glQRB] at hj2
  have hc : j = 3 := by simpa using hj2
  rcases hc with rfl
  ·exact hV
 case refine_3 =>
  rw [sizeQRB] at hi
  have hc : i = 0 \/ i = 1 \/ i = 2 \/ i = 3 \/ i = 4 \/ i = 5 \/ i = 6 \/ i = 7 \/ i = 8 \/ i = 9 \/ i = 10 := by omega
  rcases hc with rfl | rfl | rfl | rfl | rfl | rfl | rfl | rfl | rfl | rfl | rfl
  ·exact absurd hg (by decide)
  ·exact absurd hg (by decide)
  ·exact absurd hg (by decide)
  ·exact absurd hg (by decide)
  ·exact absurd hg (by decide)
  ·exact absurd hg (by decide)
  ·exact absurd hg (by decide)
  ·exact absurd hg (by decide)
  ·exact absurd hg (by decide)
  ·exact absurd hg (by decide)
  ·exact absurd hg (by decide)
 case refine_4 =>
  have e9 := @finQRB u1 u2 u3 u5 u6 u7 u8 u9 u10 u11 u12 u13 u14 u15 u16 u17 u18 u19 u20 u21 u22 u23 u24 u25 u26 u27 u28 u29 u30 u31 u32 u33 u34 u35 u36 u37 u38 u39 u40 u41 u42 u43 u44 u45 u46 u47 u48 u49 u50 u51 u52 u53 g o m cap pb n L b B vs
  have h9 := hQ vs w (fun j hj => h1 j (by rw [sizeQRB]; exact hj)) h2
  rw [<- e9] at h9
  exact h9
 rw [sizeQRB] at hi
 have hc : i = 0 \/ i = 1 \/ i = 2 \/ i = 3 \/ i = 4 \/ i = 5 \/ i = 6 \/ i = 7 \/ i = 8 \/ i = 9 \/ i = 10 := by omega
 rcases hc with rfl | rfl | rfl | rfl | rfl | rfl | rfl | rfl | rfl | rfl | rfl
 ·exact stQRB_0 g o m cap pb n L b B _ rfl w0 hm h256 h16 hn hL h0 hb hB he
 ·exact stQRB_1 g o m cap pb n L b B _  w0 hm h256 h16 hn hL h0 hb hB he
 ·exact stQRB_2 g o m cap pb n L b B _  w0 hm h256 h16 hn hL h0 hb hB he
 ·exact stQRB_3 g o m cap pb n L b B _  w0 hm h256 h16 hn hL h0 hb hB he
 ·exact stQRB_4 g o m cap pb n L b B _ rfl w0 hm h256 h16 hn hL h0 hb hB he
 ·exact stQRB_5 g o m cap pb n L b B _  w0 hm h256 h16 hn hL h0 hb hB he
 ·exact stQRB_6 g o m cap pb n L b B _  w0 hm h256 h16 hn hL h0 hb hB he
 ·exact stQRB_7 g o m cap pb n L b B _ rfl w0 hm h256 h16 hn hL h0 hb hB he
 ·exact stQRB_8 g o m cap pb n L b B _  w0 hm h256 h16 hn hL h0 hb hB he
 ·exact stQRB_9 g o m cap pb n L b B _  w0 hm h256 h16 hn hL h0 hb hB he
 ·exact stQRB_10 g o m cap pb n L b B _  w0 hm h256 h16 hn hL h0 hb hB he
end
theorem rhparse_c (g o cap m : Nat) (b : List Nat) (hlen : b.length = 256) (hm : m = 256) (hcap : 256 <= cap) (w : World) (hv : BytesAt w (some ⟨g, o, none⟩) cap b) :
  Calls Tryz.prog 53 #[.slice (some ⟨g, o, none⟩) m cap] w fun e w' => e = .returned (rheadV (headN b)) /\ Below w.heap.size w w' := by
 have HZ0 : Hid ((w.alloc (.cells #[.int .u64 0, .int .u64 0, .int .u64 0, .int .u64 0, .int .u64 0, .int .u64 0, .int .u64 0, .int .u64 0, .int .u64 0, .int .u64 0, .int .u64 0, .int .u64 0, .int .u64 0, .int .u64 0, .int .u64 0, .int .u64 0, .int .u64 0] 25)).heap[w.heap.size]? = some (.cells (rtA 0 (List.replicate 16 0)) 25 (0, 0))) := heap_new' _ _
 have HE0 : Hid (Below w.heap.size w (w.alloc (.cells #[.int .u64 0, .int .u64 0, .int .u64 0, .int .u64 0, .int .u64 0, .int .u64 0, .int .u64 0, .int .u64 0, .int .u64 0, .int .u64 0, .int .u64 0, .int .u64 0, .int .u64 0, .int .u64 0, .int .u64 0, .int .u64 0, .int .u64 0] 25))) := below_box _ _
 have HB0 := Lib.hid (hv.up HE0.out (Nat.le_refl _))
 have HM := Lib.hid hm
 have HLN := Lib.hid hlen
 have HCAP := Lib.hid hcap
 have HLT := Lib.hid hv.1
 have HBW := Lib.hid hv
 have dm : ((m : Int) == 256) = true := by rw [hm]; rfl
 have dm2 : (m : Int) = 256 := by rw [hm]; rfl
 have hsl : ∀ w : World, (Instr.sliceAt 47 (.slice (some ⟨g, o, none⟩) m cap) none (some (.int .i64 8)) none).run Tryz.prog w = .ok (.slice (some ⟨g, o, none⟩) 8 cap) w := fun w => run_subBhR g o m cap 8 (by omega) w
 have HGT : Hid (∀ (lo n : Nat) (w : World), n <= 8 -> lo + n <= 256 -> BytesAt w (some ⟨g, o, none⟩) cap b -> Calls Tryz.prog 58 #[.slice (some ⟨g, subO o cap lo, none⟩) n (cap - lo)] w fun e w' => e = .returned (.int .u64 (leN ((b.drop lo).take n) : Int)) /\ w = w') := fun lo n w h8 hle hb => by
  have h1 := hb.sub (lo := lo) (hi := lo + n) (by omega) (by omega)
  rw [Nat.add_sub_cancel_left] at h1
  exact rget_c n h8 _ _ _ (by rw [List.length_take, List.length_drop]; omega) w h1
 have HG0 : Hid (∀ w : World, BytesAt w (some ⟨g, o, none⟩) cap b -> Calls Tryz.prog 58 #[.slice (some ⟨g, o, none⟩) 8 cap] w fun e w' => e = .returned (.int .u64 (hdN b : Int)) /\ w = w') := fun w hb => by
  have h1 := hb.sub (lo := 0) (hi := 8) (by omega) (by omega)
  rw [List.drop_zero, Nat.sub_zero, Nat.sub_zero] at h1
  have h2 : subO o cap 0 = o := by unfold subO; rw [if_neg (by omega)]; rfl
  rw [h2] at h1
  exact rget_c 8 (by omega) _ _ _ (by rw [List.length_take]; omega) w h1
 obtain ⟨n, hn⟩ : ∃ n, n = hdN b := ⟨_, rfl⟩
 obtain ⟨L, hL⟩ : ∃ L, L = hdL b := ⟨_, rfl⟩
 rw [<- hn] at HG0
 have HN : Hid (n = hdN b /\ n < 18446744073709551616) := ⟨hn, by rw [hn]; exact le8_lt b hv.1⟩
 have HL : Hid (L = hdL b /\ L.length = 16 /\ ∀ x ∈ L, x < 18446744073709551616) := ⟨hL, by rw [hL]; exact hdL_len b, by rw [hL]; exact hdL_lt b hv.1⟩
 clear hv hm hlen hcap hn hL
 go_enter Tryz.func53, Tryz.ntmps53
 go_wp2_with fail
 generalize w.alloc (.cells #[.int .u64 0, .int .u64 0, .int .u64 0, .int .u64 0, .int .u64 0, .int .u64 0, .int .u64 0, .int .u64 0, .int .u64 0, .int .u64 0, .int .u64 0, .int .u64 0, .int .u64 0, .int .u64 0, .int .u64 0, .int .u64 0, .int .u64 0] 25) = w0 at *
 refine (HG0.out w0 HB0.out).mono ?_
 rintro e w1 ⟨rfl, rfl⟩
 have hb4 := below_box w0 (.cells #[.int .u64 0, .int .u64 0, .int .u64 0, .int .u64 0, .int .u64 0, .int .u64 0, .int .u64 0, .int .u64 0, .int .u64 0, .int .u64 0, .int .u64 0, .int .u64 0, .int .u64 0, .int .u64 0, .int .u64 0, .int .u64 0, .int .u64 0] 25)
 have HZ4 := Lib.hid ((hb4.block _ (lt_of_block HZ0.out)).trans HZ0.out)
 have HE4 := Lib.hid (HE0.out.trans (hb4.mono HE0.out.size))
 have HB4 := Lib.hid (HB0.out.up hb4 (Nat.le_refl _))
 have HP4 : Hid ((w0.alloc (.cells #[.int .u64 0, .int .u64 0, .int .u64 0, .int .u64 0, .int .u64 0, .int .u64 0, .int .u64 0, .int .u64 0, .int .u64 0, .int .u64 0, .int .u64 0, .int .u64 0, .int .u64 0, .int .u64 0, .int .u64 0, .int .u64 0, .int .u64 0] 25)).heap[w0.heap.size]? = some (.cells (rtA 0 (List.replicate 16 0)) 25 (0, 0))) := heap_new' _ _
 have HPZ : Hid (w.heap.size ≠ w0.heap.size /\ w.heap.size <= w0.heap.size) := by have := lt_of_block HZ0.out; exact ⟨by omega, by omega⟩
 clear hb4 HZ0 HE0 HB0 HG0
 go_wp2_with (first
  | (refine wpList_store_row rfl 25 (.tmp 4) (.tmp 13) rfl w0.heap.size (rtA n zeroR) rfl rfl 25 _ HP4.out (by rw [roots17R]; rfl) rfl (rtA_one _ _) ?_)
  | fail)
 have HP5 : Hid (((w0.alloc (.cells #[.int .u64 0, .int .u64 0, .int .u64 0, .int .u64 0, .int .u64 0, .int .u64 0, .int .u64 0, .int .u64 0, .int .u64 0, .int .u64 0, .int .u64 0, .int .u64 0, .int .u64 0, .int .u64 0, .int .u64 0, .int .u64 0, .int .u64 0] 25)).setRow w0.heap.size (rtA n zeroR)).heap[w0.heap.size]? = some (.cells (rtA n (partB L 0)) 25 (0, 0))) := by
  show _ = _; rw [partB_zero, HL.out.2.1]; exact setRow_heap _ _ _ _ _ _ HP4.out
 have HZ5 : Hid (((w0.alloc (.cells #[.int .u64 0, .int .u64 0, .int .u64 0, .int .u64 0, .int .u64 0, .int .u64 0, .int .u64 0, .int .u64 0, .int .u64 0, .int .u64 0, .int .u64 0, .int .u64 0, .int .u64 0, .int .u64 0, .int .u64 0, .int .u64 0, .int .u64 0] 25)).setRow w0.heap.size (rtA n zeroR)).heap[w.heap.size]? = some (.cells (rtA 0 (List.replicate 16 0)) 25 (0, 0))) := by
  show _ = _; rw [setRow_other _ _ _ _ HPZ.out.1]; exact HZ4.out
 have HE5 : Hid (Below w.heap.size w ((w0.alloc (.cells #[.int .u64 0, .int .u64 0, .int .u64 0, .int .u64 0, .int .u64 0, .int .u64 0, .int .u64 0, .int .u64 0, .int .u64 0, .int .u64 0, .int .u64 0, .int .u64 0, .int .u64 0, .int .u64 0, .int .u64 0, .int .u64 0, .int .u64 0] 25)).setRow w0.heap.size (rtA n zeroR))) := below_setRow HE4.out HPZ.out.2 _
 have HB5 : Hid (BytesAt ((w0.alloc (.cells #[.int .u64 0, .int .u64 0, .int .u64 0, .int .u64 0, .int .u64 0, .int .u64 0, .int .u64 0, .int .u64 0, .int .u64 0, .int .u64 0, .int .u64 0, .int .u64 0, .int .u64 0, .int .u64 0, .int .u64 0, .int .u64 0, .int .u64 0] 25)).setRow w0.heap.size (rtA n zeroR)) (some ⟨g, o, none⟩) cap b) := HBW.out.up HE5.out (Nat.le_refl _)
 generalize hpb : w0.heap.size = pb at *
 generalize (w0.alloc (.cells #[.int .u64 0, .int .u64 0, .int .u64 0, .int .u64 0, .int .u64 0, .int .u64 0, .int .u64 0, .int .u64 0, .int .u64 0, .int .u64 0, .int .u64 0, .int .u64 0, .int .u64 0, .int .u64 0, .int .u64 0, .int .u64 0, .int .u64 0] 25)).setRow pb (rtA n zeroR) = w5 at *
 clear HB4 HP4 HZ4 HE4
 go_loopw [5, 14] (fun v5 vi wr => ∃ k : Nat, k <= 16 /\ vi = .int .i64 (k : Int) /\ Hid (wr.heap[pb]? = some (.cells (rtA n (partB L k)) 25 (0, 0))) /\ Hid (wr.heap[w.heap.size]? = some (.cells (rtA 0 (List.replicate 16 0)) 25 (0, 0))) /\ Hid (Below w.heap.size w wr)) (fun _ vi _ => 16 - (intOf vi).toNat)
 case atStart => exact ⟨0, by omega, rfl, HP5.out, HZ5.out, HE5.out⟩
 case round =>
  clear HP5 HZ5 HE5 HB5
  obtain ⟨k, hk, rfl, hp, hz, hbel⟩ := hrel
  by_cases hlt : k < 16
  ·have hd : decide ((k : Int) < 16) = true := by simp; omega
   have dl : (k : Int) < 16 := by omega
   have dk0 : ¬ (k : Int) < 0 := by omega
   have HK := Lib.hid hlt
   have ek : IntKind.i64.wrap ((k : Int) + 1) = (k : Int) + 1 := IntWalk.i64_in _ (by omega)
   obtain ⟨k8, h8⟩ : ∃ k8, k8 = 8 * k := ⟨_, rfl⟩
   obtain ⟨lo, hlo⟩ : ∃ lo, lo = 8 + k8 := ⟨_, rfl⟩
   obtain ⟨hi, hhi⟩ : ∃ hi, hi = 16 + k8 := ⟨_, rfl⟩
   have i1 : 8 * (k : Int) = (k8 : Int) := by omega
   have i2 : 8 + (k8 : Int) = (lo : Int) := by omega
   have i3 : 16 + (k8 : Int) = (hi : Int) := by omega
   have u1 : IntKind.i64.wrap (k8 : Int) = (k8 : Int) := IntWalk.i64_in _ (by omega)
   have u2 : IntKind.i64.wrap (lo : Int) = (lo : Int) := IntWalk.i64_in _ (by omega)
   have u3 : IntKind.i64.wrap (hi : Int) = (hi : Int) := IntWalk.i64_in _ (by omega)
   have hs2 : ∀ w : World, (Instr.sliceAt 47 (.slice (some ⟨g, o, none⟩) m cap) (some (.int .i64 (lo : Int))) (some (.int .i64 (hi : Int))) none).run Tryz.prog w = .ok (.slice (some ⟨g, subO o cap lo, none⟩) 8 (cap - lo)) w := fun w => by
    have h := run_sub g o m cap lo hi (by omega) (by have := HCAP.out; omega) w
    rw [show hi - lo = 8 by omega] at h; exact h
   have hs3 : ∀ w : World, (Instr.sliceAt 47 (.slice (some ⟨g, o, none⟩) 256 cap) (some (.int .i64 (lo : Int))) (some (.int .i64 (hi : Int))) none).run Tryz.prog w = .ok (.slice (some ⟨g, subO o cap lo, none⟩) 8 (cap - lo)) w := fun w => by
    have h := run_sub g o 256 cap lo hi (by omega) (by have := HCAP.out; omega) w
    rw [show hi - lo = 8 by omega] at h; exact h
   obtain ⟨q, hq⟩ : ∃ q, q = L.getD k 0 := ⟨_, rfl⟩
   have hqq : leN ((b.drop lo).take 8) = q := by rw [hq, HL.out.1, hdL_get _ _ hlt, hlo, h8]
   have HC := Lib.hid (HGT.out lo 8 wr (by omega) (by omega) (HBW.out.up hbel.out (Nat.le_refl _)))
   rw [hqq] at HC
   have HQ := Lib.hid hq
   have f5 := free_at hp.out (1 + k)
   have c5 := (cells_at hp.out (1 + k)).trans (rtA_get _ _ k (by rw [partB_len _ _ (by rw [HL.out.2.1]; omega), HL.out.2.1]; exact hlt))
   have nb := block_at hp.out (1 + k) (.int .u64 ((L.getD k 0 : Nat) : Int))
   rw [rt_set n L HL.out.2.1 k hlt, <- hq] at nb
   have HN1 := Lib.hid nb
   have HN3 : Hid ((wr.setCell ⟨pb, 1 + k, none⟩ (.int .u64 (q : Int))).heap[w.heap.size]? = some (.cells (rtA 0 (List.replicate 16 0)) 25 (0, 0))) := by
    show _ = _; rw [setCell_other _ _ _ _ HPZ.out.1]; exact hz.out
   have HN4 : Hid (Below w.heap.size w (wr.setCell ⟨pb, 1 + k, none⟩ (.int .u64 (q : Int)))) := hbel.out.setCell HPZ.out.2 _
   clear nb hp hz hbel hq hqq h8 hlo hhi hlt hk
   go_wp2_with fail
   refine HC.out.mono ?_
   rintro e w6 ⟨rfl, rfl⟩
   go_wp2
   go_roundw
   case rel => exact ⟨k + 1, by have := HK.out; omega, by go_num, HN1.out, HN3.out, HN4.out⟩
   case measure => simp [intOf]; have := HK.out; omega
  ·have hk16 : k = 16 := by omega
   have hd : decide ((k : Int) < 16) = false := by simp; omega
   have dl : ¬ (k : Int) < 16 := by omega
   have hp6 := hp.out
   rw [hk16, show (16 : Nat) = L.length from HL.out.2.1.symm, partB_full] at hp6
   have HP6 := Lib.hid hp6
   have HB6 : Hid (BytesAt wr (some ⟨g, o, none⟩) cap b) := HBW.out.up hbel.out (Nat.le_refl _)
   have HLM : Hid (b.length = m) := by show _ = _; rw [HLN.out, HM.out]
   clear hp hp6 hk16 hk hlt hsl
   by_cases hE : n = 0 /\ L = List.replicate 16 0
   ·go_wp2
    refine regionQHB g o m cap pb n L b wr.heap.size wr HLM.out HLN.out HL.out.2.1 HN.out.2 HL.out.2.2 HP6.out HB6.out (Nat.le_refl _) (by simpa using hE) ?_
    intro vs w7 hv hkk
    have x9 : vs 9 = .bool (decide (b = zB)) := hv 9 (by omega)
    have HZ7 := Lib.hid ((hkk.block _ (lt_of_block hz.out)).trans hz.out)
    have HP7 := Lib.hid ((hkk.block _ (lt_of_block HP6.out)).trans HP6.out)
    have HB7 : Hid (BytesAt w7 (some ⟨g, o, none⟩) cap b) := HB6.out.up hkk (Nat.le_refl _)
    have HE7 : Hid (Below w.heap.size w w7) := hbel.out.trans (hkk.mono hbel.out.size)
    rw [x9]
    clear hv x9 hkk HP6 HB6 hbel hz
    obtain ⟨y, hy⟩ : ∃ y, y = decide (b = zB) := ⟨_, rfl⟩
    have hzy : zeroB b = y := by rw [hy]; exact zB_of b HLN.out
    have HZY := Lib.hid hzy
    rw [<- hy]
    clear hy hzy hE
    cases y with
    | true =>
     have HH : Hid (headN b = some (1, List.replicate 16 0)) := by show _ = _; unfold headN; rw [HZY.out, if_pos rfl]
     go_wp2_with (first
      | (refine wpList_store_row rfl 25 (.tmp 2) (.tmp 40) rfl w.heap.size (rtA 1 (List.replicate 16 0)) rfl rfl 25 _ HZ7.out (by rw [roots17R]; rfl) rfl (rtA_one _ _) ?_)
      | fail)
     refine bodyPost_ret (results_row_tmp rfl _ _ w.heap.size _ (rtA 1 (List.replicate 16 0)) (0, 0) _ rfl (setRow_heap _ _ _ _ _ _ HZ7.out) Tryz.underlying25 rfl (by rw [roots17R]; rfl)) rfl ?_
     exact ⟨by rw [HH.out]; rfl, below_setRow HE7.out (Nat.le_refl _) _⟩
    | false =>
     have HNZ : Hid (zeroB b = false) := HZY.out
     clear dm dm2
     by_cases hrt : rightR n L = true
     ·go_wp2
      refine regionQRB g o m cap pb n L b w7.heap.size w7 HLM.out HLN.out HL.out.2.1 HN.out.2 HL.out.2.2 HP7.out HB7.out (Nat.le_refl _) hrt ?_
      intro vs2 w8 hv2 hk2
      have x0 : vs2 0 = .agg (rtA n L) := hv2 0 (by omega)
      have x10 : vs2 10 = .bool (!decide (rtBytes n L = b)) := hv2 10 (by omega)
      have HZ8 := Lib.hid ((hk2.block _ (lt_of_block HZ7.out)).trans HZ7.out)
      have HP8 := Lib.hid ((hk2.block _ (lt_of_block HP7.out)).trans HP7.out)
      have HE8 : Hid (Below w.heap.size w w8) := HE7.out.trans (hk2.mono HE7.out.size)
      rw [x10]
      clear hv2 x0 x10 hk2
      obtain ⟨y, hy⟩ : ∃ y, y = decide (rtBytes n L = b) := ⟨_, rfl⟩
      have HHH : Hid (headN b = if y then some (n, L) else none) := by
       show _ = _
       unfold headN
       rw [HNZ.out, if_neg (by simp), <- HN.out.1, <- HL.out.1, hrt, Bool.true_and, hy, show decide (b = rtBytes n L) = decide (rtBytes n L = b) by rw [decide_eq_decide]; exact ⟨Eq.symm, Eq.symm⟩]
      rw [<- hy]
      clear hy hrt
      cases y with
      | true =>
       have HH : Hid (headN b = some (n, L)) := HHH.out
       go_wp2_with (first
        | (refine wpList_load_row rfl 25 (.tmp 4) rfl pb rfl _ _ _ _ HP8.out Tryz.underlying25 rfl (by rw [roots17R, rtA_size, HL.out.2.1]) ?_)
        | (refine wpList_store_row rfl 25 (.tmp 2) (.tmp 53) rfl w.heap.size (rtA n L) rfl rfl 25 _ HZ8.out (by rw [roots17R, rtA_size, HL.out.2.1]) (by simp [rtA_size, HL.out.2.1]) (rtA_one _ _) ?_)
        | fail)
       refine bodyPost_ret (results_row_tmp rfl _ _ w.heap.size _ (rtA n L) (0, 0) _ rfl (setRow_heap _ _ _ _ _ _ HZ8.out) Tryz.underlying25 rfl (by rw [roots17R, rtA_size, HL.out.2.1])) rfl ?_
       exact ⟨by rw [HH.out]; rfl, below_setRow HE8.out (Nat.le_refl _) _⟩
      | false =>
       have HH : Hid (headN b = none) := HHH.out
       go_wp2_with (first
        | (refine wpList_store_row rfl 25 (.tmp 2) (.tmp 52) rfl w.heap.size (rtA 0 (List.replicate 16 0)) rfl rfl 25 _ HZ8.out (by rw [roots17R]; rfl) rfl (rtA_one _ _) ?_)
        | fail)
       refine bodyPost_ret (results_row_tmp rfl _ _ w.heap.size _ (rtA 0 (List.replicate 16 0)) (0, 0) _ rfl (setRow_heap _ _ _ _ _ _ HZ8.out) Tryz.underlying25 rfl (by rw [roots17R]; rfl)) rfl ?_
       exact ⟨by rw [HH.out]; rfl, below_setRow HE8.out (Nat.le_refl _) _⟩
     ·have hrf : rightR n L = false := by simpa using hrt
      go_wp2
      refine regionQRA g o m cap pb n L b w7.heap.size w7 HLM.out HLN.out HL.out.2.1 HN.out.2 HL.out.2.2 HP7.out HB7.out (Nat.le_refl _) hrf ?_
      intro vs2 w8 hv2 hk2
      have x10 : vs2 10 = .bool true := hv2 10 (by omega)
      have HZ8 := Lib.hid ((hk2.block _ (lt_of_block HZ7.out)).trans HZ7.out)
      have HE8 : Hid (Below w.heap.size w w8) := HE7.out.trans (hk2.mono HE7.out.size)
      have HH : Hid (headN b = none) := by
       show _ = _
       unfold headN
       rw [HNZ.out, if_neg (by simp), <- HN.out.1, <- HL.out.1, hrf]; rfl
      rw [x10]
      clear hv2 x10 hk2 hrt hrf
      go_wp2_with (first
       | (refine wpList_store_row rfl 25 (.tmp 2) (.tmp 52) rfl w.heap.size (rtA 0 (List.replicate 16 0)) rfl rfl 25 _ HZ8.out (by rw [roots17R]; rfl) rfl (rtA_one _ _) ?_)
       | fail)
      refine bodyPost_ret (results_row_tmp rfl _ _ w.heap.size _ (rtA 0 (List.replicate 16 0)) (0, 0) _ rfl (setRow_heap _ _ _ _ _ _ HZ8.out) Tryz.underlying25 rfl (by rw [roots17R]; rfl)) rfl ?_
      exact ⟨by rw [HH.out]; rfl, below_setRow HE8.out (Nat.le_refl _) _⟩
   ·go_wp2
    refine regionQHA g o m cap pb n L b wr.heap.size wr HLM.out HLN.out HL.out.2.1 HN.out.2 HL.out.2.2 HP6.out HB6.out (Nat.le_refl _) (by simpa using hE) ?_
    intro vs w7 hv hkk
    have x9 : vs 9 = .bool false := hv 9 (by omega)
    have HZ7 := Lib.hid ((hkk.block _ (lt_of_block hz.out)).trans hz.out)
    have HP7 := Lib.hid ((hkk.block _ (lt_of_block HP6.out)).trans HP6.out)
    have HB7 : Hid (BytesAt w7 (some ⟨g, o, none⟩) cap b) := HB6.out.up hkk (Nat.le_refl _)
    have HE7 : Hid (Below w.heap.size w w7) := hbel.out.trans (hkk.mono hbel.out.size)
    have HNZ : Hid (zeroB b = false) := by
     show _ = _
     rw [zB_of b HLN.out, decide_eq_false_iff_not]
     intro h
     exact hE ⟨by rw [HN.out.1, h]; exact head_zero.1, by rw [HL.out.1, h]; exact head_zero.2⟩
    rw [x9]
    clear hv x9 hkk HP6 HB6 hbel hz hE
    clear dm dm2
    by_cases hrt : rightR n L = true
    ·go_wp2
     refine regionQRB g o m cap pb n L b w7.heap.size w7 HLM.out HLN.out HL.out.2.1 HN.out.2 HL.out.2.2 HP7.out HB7.out (Nat.le_refl _) hrt ?_
     intro vs2 w8 hv2 hk2
     have x0 : vs2 0 = .agg (rtA n L) := hv2 0 (by omega)
     have x10 : vs2 10 = .bool (!decide (rtBytes n L = b)) := hv2 10 (by omega)
     have HZ8 := Lib.hid ((hk2.block _ (lt_of_block HZ7.out)).trans HZ7.out)
     have HP8 := Lib.hid ((hk2.block _ (lt_of_block HP7.out)).trans HP7.out)
     have HE8 : Hid (Below w.heap.size w w8) := HE7.out.trans (hk2.mono HE7.out.size)
     rw [x10]
     clear hv2 x0 x10 hk2
     obtain ⟨y, hy⟩ : ∃ y, y = decide (rtBytes n L = b) := ⟨_, rfl⟩
     have HHH : Hid (headN b = if y then some (n, L) else none) := by
      show _ = _
      unfold headN
      rw [HNZ.out, if_neg (by simp), <- HN.out.1, <- HL.out.1, hrt, Bool.true_and, hy, show decide (b = rtBytes n L) = decide (rtBytes n L = b) by rw [decide_eq_decide]; exact ⟨Eq.symm, Eq.symm⟩]
     rw [<- hy]
     clear hy hrt
     cases y with
     | true =>
      have HH : Hid (headN b = some (n, L)) := HHH.out
      go_wp2_with (first
       | (refine wpList_load_row rfl 25 (.tmp 4) rfl pb rfl _ _ _ _ HP8.out Tryz.underlying25 rfl (by rw [roots17R, rtA_size, HL.out.2.1]) ?_)
       | (refine wpList_store_row rfl 25 (.tmp 2) (.tmp 53) rfl w.heap.size (rtA n L) rfl rfl 25 _ HZ8.out (by rw [roots17R, rtA_size, HL.out.2.1]) (by simp [rtA_size, HL.out.2.1]) (rtA_one _ _) ?_)
       | fail)
      refine bodyPost_ret (results_row_tmp rfl _ _ w.heap.size _ (rtA n L) (0, 0) _ rfl (setRow_heap _ _ _ _ _ _ HZ8.out) Tryz.underlying25 rfl (by rw [roots17R, rtA_size, HL.out.2.1])) rfl ?_
      exact ⟨by rw [HH.out]; rfl, below_setRow HE8.out (Nat.le_refl _) _⟩
     | false =>
      have HH : Hid (headN b = none) := HHH.out
      go_wp2_with (first
       | (refine wpList_store_row rfl 25 (.tmp 2) (.tmp 52) rfl w.heap.size (rtA 0 (List.replicate 16 0)) rfl rfl 25 _ HZ8.out (by rw [roots17R]; rfl) rfl (rtA_one _ _) ?_)
       | fail)
      refine bodyPost_ret (results_row_tmp rfl _ _ w.heap.size _ (rtA 0 (List.replicate 16 0)) (0, 0) _ rfl (setRow_heap _ _ _ _ _ _ HZ8.out) Tryz.underlying25 rfl (by rw [roots17R]; rfl)) rfl ?_
      exact ⟨by rw [HH.out]; rfl, below_setRow HE8.out (Nat.le_refl _) _⟩
    ·have hrf : rightR n L = false := by simpa using hrt
     go_wp2
     refine regionQRA g o m cap pb n L b w7.heap.size w7 HLM.out HLN.out HL.out.2.1 HN.out.2 HL.out.2.2 HP7.out HB7.out (Nat.le_refl _) hrf ?_
     intro vs2 w8 hv2 hk2
     have x10 : vs2 10 = .bool true := hv2 10 (by omega)
     have HZ8 := Lib.hid ((hk2.block _ (lt_of_block HZ7.out)).trans HZ7.out)
     have HE8 : Hid (Below w.heap.size w w8) := HE7.out.trans (hk2.mono HE7.out.size)
     have HH : Hid (headN b = none) := by
      show _ = _
      unfold headN
      rw [HNZ.out, if_neg (by simp), <- HN.out.1, <- HL.out.1, hrf]; rfl
     rw [x10]
     clear hv2 x10 hk2 hrt hrf
     go_wp2_with (first
      | (refine wpList_store_row rfl 25 (.tmp 2) (.tmp 52) rfl w.heap.size (rtA 0 (List.replicate 16 0)) rfl rfl 25 _ HZ8.out (by rw [roots17R]; rfl) rfl (rtA_one _ _) ?_)
      | fail)
     refine bodyPost_ret (results_row_tmp rfl _ _ w.heap.size _ (rtA 0 (List.replicate 16 0)) (0, 0) _ rfl (setRow_heap _ _ _ _ _ _ HZ8.out) Tryz.underlying25 rfl (by rw [roots17R]; rfl)) rfl ?_
     exact ⟨by rw [HH.out]; rfl, below_setRow HE8.out (Nat.le_refl _) _⟩
theorem meta18R : (Tryz.prog.info? 28).map (·.size) = some 18 := by kernel_rfl
theorem mt_rootsR {w : World} {g x : Nat} {R : List Nat} {v : Value} {t : TypeId} (h : w.heap[g]? = some (.cells (mtA x R v) t (0, 0))) : w.rangeAt g 0 (rtA x R).toList := by
 intro j u hu
 have hj : j < (rtA x R).toList.length := (List.getElem?_eq_some_iff.1 hu).1
 rw [Nat.zero_add]
 refine (cells_at h j).trans ?_
 rw [<- hu]
 unfold mtA rtA
 simp only [List.getElem?_toArray, rtA] at hj ⊢
 rw [<- List.cons_append, List.getElem?_append_left hj]
theorem rmmay_c (x : Nat) (R : List Nat) (h16 : R.length = 16) (hRl : ∀ r ∈ R, r < 18446744073709551616) (hright : rightR x R = true) (va : Option Addr) (n c : Nat) (t : Int) (hg : geoB n t = true) (P : List Pg) (hn : P.length = n) (hsz : ∀ p ∈ P, p.size < 4611686018427387904) (hrn : ∀ p ∈ P, p.run < 4611686018427387904) (w : World) (hP : PgsAt w va P) :
  Calls Tryz.prog 55 #[.agg #[.int .i64 (n : Int), .int .i64 t], .agg (mtA x R (.slice va n c))] w fun e w' => e = .returned (.bool (mayM x P)) /\ Below w.heap.size w w' := by
 have hn64 : n <= 64 := by have := (geoB_iff n t).1 hg; omega
 obtain ⟨W, hW⟩ : ∃ W, W = (w.alloc (.cells #[.int .i64 (n : Int), .int .i64 t] 31)).alloc (.cells (mtA x R (.slice va n c)) 28) := ⟨_, rfl⟩
 have hgg : W.heap[w.heap.size]? = some (.cells #[.int .i64 (n : Int), .int .i64 t] 31 (0, 0)) := by rw [hW, heap_old' _ _ _ (by simp)]; exact heap_new' _ _
 have hm : W.heap[w.heap.size + 1]? = some (.cells (mtA x R (.slice va n c)) 28 (0, 0)) := by
  rw [hW, show w.heap.size + 1 = (w.alloc (.cells #[.int .i64 (n : Int), .int .i64 t] 31)).heap.size by simp]; exact heap_new' _ _
 have hE : Below w.heap.size w W := by rw [hW]; exact (below_box w _).alloc (by simp) _
 have HM := Lib.hid hm
 have HG := Lib.hid hgg
 have HE := Lib.hid hE
 have HGC := Lib.hid (fun w => rgmay_c n t w)
 rw [hg] at HGC
 have HRT := Lib.hid (fun w => rtmay_cR x R h16 hRl w)
 rw [hright] at HRT
 obtain ⟨ck, hck⟩ : ∃ ck, ck = chkP P := ⟨_, rfl⟩
 have HPC : Hid (∀ w', Below w.heap.size w w' -> Calls Tryz.prog 84 #[.slice va n c] w' fun e w'' => e = .returned (.bool ck) /\ Below w'.heap.size w' w'') := fun w' h => by rw [hck]; exact rpmay_c va n c P hn (by omega) hsz hrn w' (hP.up h (Nat.le_refl _))
 have hx0 : 0 < x := by unfold rightR at hright; simp only [Bool.and_eq_true, decide_eq_true_eq] at hright; exact hright.1.2
 have HMM : Hid (mayM x P = (ck && !P.any (lateP x))) := by show _ = _; unfold mayM; rw [hck, show decide (0 < x) = true by simpa using hx0, Bool.true_and]
 have H16 := Lib.hid h16
 have HN := Lib.hid hn
 have HN64 := Lib.hid hn64
 have HPW := Lib.hid hP
 have hnn : ((n : Int) == (n : Int)) = true := beq_self_eq_true _
 clear hm hgg hE hg hn hsz hP h16 hn64 hright hRl hck hx0 hrn
 go_enter Tryz.func55, Tryz.ntmps55
 go_wp2_with (first
  | (refine wpList_load_row rfl 31 (.tmp 2) rfl w.heap.size rfl _ _ _ _ (show ((w.alloc (.cells #[.int .i64 (n : Int), .int .i64 t] 31)).alloc (.cells (mtA x R (.slice va n c)) 28)).heap[w.heap.size]? = some (.cells #[.int .i64 (n : Int), .int .i64 t] 31 (0, 0)) by rw [<- hW]; exact HG.out) Tryz.underlying31 rfl (by rw [geo2]; rfl) ?_)
  | fail)
 rw [<- hW]
 clear hW
 refine (HGC.out W).mono ?_
 rintro e w1 ⟨rfl, hb1⟩
 have HM1 := Lib.hid ((hb1.block _ (lt_of_block HM.out)).trans HM.out)
 have HG1 := Lib.hid ((hb1.block _ (lt_of_block HG.out)).trans HG.out)
 have HE1 : Hid (Below w.heap.size w w1) := HE.out.trans (hb1.mono HE.out.size)
 have b1 := (cells_at HM1.out 17).trans (mtA_get17 _ _ _ H16.out)
 have d1 := (cells_at HG1.out 0).trans (show _ = some (Value.int .i64 (n : Int)) from rfl)
 have HR1 := Lib.hid (mt_rootsR HM1.out)
 clear hb1 HM HG HE HGC
 go_wp2_with (first
  | (refine wpList_load_mid_g rfl 25 (.tmp 19) rfl (w.heap.size + 1) 0 rfl _ _ HR1.out Tryz.underlying25 rfl (by rw [roots17R, Array.length_toList, rtA_size, H16.out]) ?_)
  | fail)
 refine (HRT.out w1).mono ?_
 rintro e w2 ⟨rfl, hb2⟩
 have HM2 := Lib.hid ((hb2.block _ (lt_of_block HM1.out)).trans HM1.out)
 have HE2 : Hid (Below w.heap.size w w2) := HE1.out.trans (hb2.mono HE1.out.size)
 have b2 := (cells_at HM2.out 17).trans (mtA_get17 _ _ _ H16.out)
 clear hb2 b1 d1 HM1 HE1 HR1 HRT HG1
 go_wp2_with fail
 refine (HPC.out w2 HE2.out).mono ?_
 rintro e w3 ⟨rfl, hb3⟩
 have HM3 := Lib.hid ((hb3.block _ (lt_of_block HM2.out)).trans HM2.out)
 have HE3 : Hid (Below w.heap.size w w3) := HE2.out.trans (hb3.mono HE2.out.size)
 have b3 := (cells_at HM3.out 17).trans (mtA_get17 _ _ _ H16.out)
 clear hb3 b2 HM2 HE2 HPC
 cases ck with
 | false =>
  have HF : Hid (mayM x P = false) := HMM.out
  go_wp2
  go_ret
  exact ⟨by rw [HF.out]; rfl, HE3.out⟩
 | true =>
  go_wp2
  clear b3
  go_loopw [6, 33] (fun v6 vi wr => ∃ k : Nat, k <= n /\ vi = .int .i64 (k : Int) /\ Hid ((P.take k).any (lateP x) = false) /\ Hid (wr.heap[w.heap.size + 1]? = some (.cells (mtA x R (.slice va n c)) 28 (0, 0))) /\ Hid (Below w.heap.size w wr)) (fun _ vi _ => n - (intOf vi).toNat)
  case atStart => exact ⟨0, by omega, rfl, rfl, HM3.out, HE3.out⟩
  case round =>
   clear HM3 HE3
   obtain ⟨k, hk, rfl, hal, hmb, hbel⟩ := hrel
   by_cases hlt : k < n
   ·have hd : decide ((k : Int) < (n : Int)) = true := by simp; omega
    have dl : (k : Int) < (n : Int) := by omega
    have d0 : ¬ (k : Int) < 0 := by omega
    have ek : IntKind.i64.wrap ((k : Int) + 1) = (k : Int) + 1 := by have := HN64.out; exact IntWalk.i64_in _ (by omega)
    have hkL : k < P.length := by rw [HN.out]; exact hlt
    obtain ⟨p, hp⟩ : ∃ p, p = P[k] := ⟨_, rfl⟩
    have hget : P[k]? = some p := by rw [hp]; exact List.getElem?_eq_getElem hkL
    obtain ⟨g, o, rfl, hgl, hcell⟩ := HPW.out k p hget
    have HCR : Hid (wr.rangeAt g (o + k * 5) (pgA p).toList) := fun j u hu => (hbel.out.cell (p := ⟨g, o + k * 5 + j, none⟩) hgl).trans (hcell j u hu)
    have HZ : Hid ((wr.alloc (.cells #[.int .i64 0, .int .i64 0, .int .i64 0, .int .i64 0, .int .u64 0] 78)).heap[wr.heap.size]? = some (.cells (pgA ⟨0, 0, 0, 0, 0⟩) 78 (0, 0))) := heap_new' _ _
    have HE4 : Hid (Below wr.heap.size wr (wr.alloc (.cells #[.int .i64 0, .int .i64 0, .int .i64 0, .int .i64 0, .int .u64 0] 78))) := below_box wr _
    have HSN : Hid ((P.take (k + 1)).any (lateP x) = lateP x p) := by show _ = _; rw [List.take_add_one, hget, List.any_append, hal.out]; simp
    have HBAD : Hid (lateP x p = true -> P.any (lateP x) = true) := fun h => List.any_eq_true.2 ⟨p, List.mem_of_getElem? hget, h⟩
    have HK := Lib.hid hlt
    have HLP : Hid (lateP x p = (p.kind == 2 && decide (x <= p.ser))) := rfl
    clear hp hget hgl hcell hkL hlt hk hal
    by_cases h2 : p.kind = 2
    ·have HC0 : Hid ((pgA p)[0]? = some (Value.int .i64 2)) := by show _ = _; rw [show (2 : Int) = (p.kind : Int) by omega]; rfl
     by_cases hx : x <= p.ser
     ·have l1 : (p.ser : Int) >= (x : Int) := by omega
      have l2 : (x : Int) <= (p.ser : Int) := by omega
      have HF : Hid (mayM x P = false) := by
       show _ = _
       rw [HMM.out, HBAD.out (by rw [HLP.out, h2]; simpa using hx)]; rfl
      clear h2 hx
      go_wp2_with (first
      | (refine wpList_load_mid rfl 78 (.tmp 35) rfl g (o + k * 5) rfl _ _ HCR.out Tryz.underlying78 rfl (by rw [page5R]; rfl) ?_)
      | (refine wpList_store_row rfl 78 (.tmp 6) (.tmp 36) rfl wr.heap.size (pgA p) rfl rfl 78 _ HZ.out (by rw [page5R]; rfl) rfl (pgA_one _) ?_
         generalize hW1 : World.setRow _ _ _ = w1
         have HZ1 : Hid (w1.heap[wr.heap.size]? = some (.cells (pgA p) 78 (0, 0))) := (by show _ = _; rw [<- hW1]; exact setRow_heap _ _ _ _ _ _ HZ.out)
         have HE5 : Hid (Below wr.heap.size wr w1) := (by rw [<- hW1]; exact below_setRow HE4.out (Nat.le_refl _) _)
         have hM5 := (HE5.out.block _ (lt_of_block hmb.out)).trans hmb.out
         have HM5 := Lib.hid hM5
         have HB5 : Hid (Below w.heap.size w w1) := hbel.out.trans (HE5.out.mono hbel.out.size)
         have c0 := (cells_at HZ1.out 0).trans (HC0.out)
         have c4 := (cells_at HZ1.out 4).trans (show _ = some (Value.int .u64 (p.ser : Int)) from rfl)
         have m0 := (cells_at hM5 0).trans (mtA_get0 _ _ _)
         clear hW1 hM5)
      | fail)
      go_ret
      exact ⟨by rw [HF.out]; rfl, HB5.out⟩
     ·have l1 : ¬ (p.ser : Int) >= (x : Int) := by omega
      have l2 : ¬ (x : Int) <= (p.ser : Int) := by omega
      have HL2 : Hid ((P.take (k + 1)).any (lateP x) = false) := by
       show _ = _
       rw [HSN.out, HLP.out, show decide (x <= p.ser) = false by simpa using hx]; simp
      clear h2 hx
      go_wp2_with (first
      | (refine wpList_load_mid rfl 78 (.tmp 35) rfl g (o + k * 5) rfl _ _ HCR.out Tryz.underlying78 rfl (by rw [page5R]; rfl) ?_)
      | (refine wpList_store_row rfl 78 (.tmp 6) (.tmp 36) rfl wr.heap.size (pgA p) rfl rfl 78 _ HZ.out (by rw [page5R]; rfl) rfl (pgA_one _) ?_
         generalize hW1 : World.setRow _ _ _ = w1
         have HZ1 : Hid (w1.heap[wr.heap.size]? = some (.cells (pgA p) 78 (0, 0))) := (by show _ = _; rw [<- hW1]; exact setRow_heap _ _ _ _ _ _ HZ.out)
         have HE5 : Hid (Below wr.heap.size wr w1) := (by rw [<- hW1]; exact below_setRow HE4.out (Nat.le_refl _) _)
         have hM5 := (HE5.out.block _ (lt_of_block hmb.out)).trans hmb.out
         have HM5 := Lib.hid hM5
         have HB5 : Hid (Below w.heap.size w w1) := hbel.out.trans (HE5.out.mono hbel.out.size)
         have c0 := (cells_at HZ1.out 0).trans (HC0.out)
         have c4 := (cells_at HZ1.out 4).trans (show _ = some (Value.int .u64 (p.ser : Int)) from rfl)
         have m0 := (cells_at hM5 0).trans (mtA_get0 _ _ _)
         clear hW1 hM5)
      | fail)
      go_roundw
      case rel => exact ⟨k + 1, by have := HK.out; omega, by go_num, HL2.out, HM5.out, HB5.out⟩
      case measure => simp [intOf]; have := HK.out; omega
    ·have HC0 : Hid ((pgA p)[0]? = some (Value.int .i64 (p.kind : Int))) := rfl
     have e2 : ¬ (p.kind : Int) = 2 := by omega
     have e3 : ((p.kind : Int) == 2) = false := by simp; omega
     have HL2 : Hid ((P.take (k + 1)).any (lateP x) = false) := by
      show _ = _
      rw [HSN.out, HLP.out, show (p.kind == 2) = false by simpa using h2]; rfl
     clear h2
     go_wp2_with (first
      | (refine wpList_load_mid rfl 78 (.tmp 35) rfl g (o + k * 5) rfl _ _ HCR.out Tryz.underlying78 rfl (by rw [page5R]; rfl) ?_)
      | (refine wpList_store_row rfl 78 (.tmp 6) (.tmp 36) rfl wr.heap.size (pgA p) rfl rfl 78 _ HZ.out (by rw [page5R]; rfl) rfl (pgA_one _) ?_
         generalize hW1 : World.setRow _ _ _ = w1
         have HZ1 : Hid (w1.heap[wr.heap.size]? = some (.cells (pgA p) 78 (0, 0))) := (by show _ = _; rw [<- hW1]; exact setRow_heap _ _ _ _ _ _ HZ.out)
         have HE5 : Hid (Below wr.heap.size wr w1) := (by rw [<- hW1]; exact below_setRow HE4.out (Nat.le_refl _) _)
         have hM5 := (HE5.out.block _ (lt_of_block hmb.out)).trans hmb.out
         have HM5 := Lib.hid hM5
         have HB5 : Hid (Below w.heap.size w w1) := hbel.out.trans (HE5.out.mono hbel.out.size)
         have c0 := (cells_at HZ1.out 0).trans (HC0.out)
         have c4 := (cells_at HZ1.out 4).trans (show _ = some (Value.int .u64 (p.ser : Int)) from rfl)
         have m0 := (cells_at hM5 0).trans (mtA_get0 _ _ _)
         clear hW1 hM5)
      | fail)
     go_roundw
     case rel => exact ⟨k + 1, by have := HK.out; omega, by go_num, HL2.out, HM5.out, HB5.out⟩
     case measure => simp [intOf]; have := HK.out; omega
   ·have hd : decide ((k : Int) < (n : Int)) = false := by simp; omega
    have dl : ¬ (k : Int) < (n : Int) := by omega
    have HF : Hid (mayM x P = true) := by
     show _ = _
     have h := hal.out
     rw [List.take_of_length_le (by rw [HN.out]; omega)] at h
     rw [HMM.out, h]; rfl
    clear hlt hk hal
    go_wp2
    go_ret
    exact ⟨by rw [HF.out]; rfl, hbel.out⟩
end Go.Proofs.YtpbmjfjnmcpieaaGreat
