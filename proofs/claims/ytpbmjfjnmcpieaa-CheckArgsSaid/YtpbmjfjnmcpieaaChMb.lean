/- meta.Parse. Printed by gen_chmb.py. -/
import Derived.Test.YtpbmjfjnmcpieaaChMa
set_option linter.unusedVariables false
set_option linter.unusedSimpArgs false
namespace Go.Proofs.Ytpbmjfjnmcpieaa
open Go Go.RowKit
def zeroR : List Nat := List.replicate 16 0
/-- what Parse answers -/
def MParse (B n : Nat) (w' : World) (e : Ending) (L : List (List Nat)) : Prop := match metaN n L with
  | none => e = .returned (.tuple #[.agg (mtA 0 zeroR (.slice none 0 0)), .int .i64 4])
  | some (x, R, P) => ∃ a c, e = .returned (.tuple #[.agg (mtA x R (.slice a n c)), .int .i64 0]) ∧ w'.ownsRow B 81 5 (.slice a n c) n (cellsP P)
theorem hdL_16 {b : List Nat} {x : Nat} {R : List Nat} (h : headN b = some (x, R)) : R.length = 16 := by
  unfold headN at h
  split at h
  · cases h; rfl
  · split at h
    · cases h; exact hdL_len b
    · cases h
theorem run_build_meta (x : Nat) (R : List Nat) (h16 : R.length = 16) (a : Option Addr) (n c : Nat) (E : Operand → Value) (o : Oper) (ho : o.op = .build 52 #[(0, .tmp 57), (1, .tmp 62)]) (h57 : E (.tmp 57) = .agg (rtA x R)) (h62 : E (.tmp 62) = .slice a n c) (w : World) :
    (execOp E o).run Try.prog w = .ok (.value (.agg (mtA x R (.slice a n c)))) w := by
  obtain ⟨r0, r1, r2, r3, r4, r5, r6, r7, r8, r9, r10, r11, r12, r13, r14, r15, rfl⟩ := sixteenU h16
  unfold execOp
  simp only [ho]
  unfold rtA at h57
  unfold mtA
  simp only [List.map_cons, List.map_nil, List.cons_append, List.nil_append] at h57 ⊢
  go_simp
def opsMP : {o : Array Oper // some o = (Try.f16.body.bind (Fre.findR 15))} := ⟨_, rfl⟩
theorem fitMP : Fre.fit .any opsMP.1 77 = true := by kernel_rfl
theorem sizeMP : opsMP.1.size = 9 := by kernel_rfl
theorem tailMP : Fre.tailFit .any opsMP.1 8 = true := by kernel_rfl
def VMP (gb rb lg m lc n x : Nat) (t : Int) (R : List Nat) (Q : List Pg) (B : Nat) (i : Nat) (v : Value) (w : World) : Prop := match i with
  | 0 => v = .agg (rtA x R)
  | 1 => v = .slice (some ⟨lg, 0, none⟩) m lc
  | 2 => v = .pointer (some ⟨gb, 0, none⟩)
  | 3 => v = .int .i64 (n : Int)
  | 4 => v = .slice (some ⟨lg, 0, none⟩) n lc
  | 5 => w.ownsRow B 81 5 v n (cellsP (Q.take n))
  | 6 => ∃ a c, v = .agg (mtA x R (.slice a n c)) ∧ w.ownsRow B 81 5 (.slice a n c) n (cellsP (Q.take n))
  | 7 => ∃ b, v = .pointer (some ⟨b, 0, none⟩) ∧ B ≤ b ∧ w.heap[b]? = some (.cells #[.int .u64 0, .int .u64 0, .int .u64 0, .int .u64 0, .int .u64 0, .int .u64 0, .int .u64 0, .int .u64 0, .int .u64 0, .int .u64 0, .int .u64 0, .int .u64 0, .int .u64 0, .int .u64 0, .int .u64 0, .int .u64 0, .int .u64 0, .slice none 0 0] 52 (0, 0))
  | _ => True
set_option maxRecDepth 100000 in
theorem stMP_0 {u0 u1 u3 u4 u5 u7 u9 u10 u11 u12 u13 u14 u15 u16 u17 u18 u19 u20 u21 u22 u23 u24 u25 u26 u27 u28 u29 u30 u31 u32 u33 u34 u35 u36 u37 u38 u39 u40 u41 u42 u43 u44 u45 u46 u47 u48 u49 u50 u51 u52 u53 u54 u55 u56 u57 u58 u59 u60 u61 u62 u63 u64 u65 u66 u67 u68 u69 u70 u71 u72 u73 u74 u75 u76 : Value} (gb rb lg m lc n x : Nat) (t : Int) (R : List Nat) (Q : List Pg) (B : Nat) (w0 : World) (h0 : w0.heap[gb]? = some (.cells #[.int .i64 (n : Int), .int .i64 t] 23 (0, 0))) (h1 : w0.heap[rb]? = some (.cells (rtA x R) 49 (0, 0))) (h16 : R.length = 16) (hQ0 : PgsAt w0 (some ⟨lg, 0, none⟩) Q) (hnm : n ≤ Q.length) (hql : Q.length = m) (hmc : m ≤ lc) (hm9 : m ≤ 1000) (hB : B ≤ w0.heap.size) : Fre.StepB Try.prog opsMP.1 ⟨#[u0, u1, .pointer (some ⟨gb, 0, none⟩), u3, u4, u5, .pointer (some ⟨rb, 0, none⟩), u7, .slice (some ⟨lg, 0, none⟩) m lc, u9, u10, u11, u12, u13, u14, u15, u16, u17, u18, u19, u20, u21, u22, u23, u24, u25, u26, u27, u28, u29, u30, u31, u32, u33, u34, u35, u36, u37, u38, u39, u40, u41, u42, u43, u44, u45, u46, u47, u48, u49, u50, u51, u52, u53, u54, u55, u56, u57, u58, u59, u60, u61, u62, u63, u64, u65, u66, u67, u68, u69, u70, u71, u72, u73, u74, u75, u76], []⟩ w0 (VMP gb rb lg m lc n x t R Q B) Fre.Kept 0 := by
  intro E w hc hf hE hV hN hS o ho
  obtain rfl := Option.some.inj ho
  clear ho
  simp only [opsMP, List.getElem_toArray, List.getElem_cons_succ, List.getElem_cons_zero]
  have b6 : E (.tmp 6) = .pointer (some ⟨rb, 0, none⟩) := hE 6 (by kernel_rfl)
  have hb := (hS.block rb (lt_of_block h1)).trans h1
  have hr := run_loadVar_row w rb _ 49 (rtA x R) _ _ hb Try.underlying49 rfl (by rw [roots17, rtA_size, h16])
  refine Fre.Does.value (v := .agg (rtA x R)) (w' := w) ?_ ⟨rfl, Fre.Kept.refl _⟩
  unfold execOp
  simp only [b6, Instr.loadAt, Instr.sureAddr, Sem.run_bind, Sem.run_pure, Result.andThen_ok, hr]
set_option maxRecDepth 100000 in
theorem stMP_1 {u0 u1 u3 u4 u5 u7 u9 u10 u11 u12 u13 u14 u15 u16 u17 u18 u19 u20 u21 u22 u23 u24 u25 u26 u27 u28 u29 u30 u31 u32 u33 u34 u35 u36 u37 u38 u39 u40 u41 u42 u43 u44 u45 u46 u47 u48 u49 u50 u51 u52 u53 u54 u55 u56 u57 u58 u59 u60 u61 u62 u63 u64 u65 u66 u67 u68 u69 u70 u71 u72 u73 u74 u75 u76 : Value} (gb rb lg m lc n x : Nat) (t : Int) (R : List Nat) (Q : List Pg) (B : Nat) (w0 : World) (h0 : w0.heap[gb]? = some (.cells #[.int .i64 (n : Int), .int .i64 t] 23 (0, 0))) (h1 : w0.heap[rb]? = some (.cells (rtA x R) 49 (0, 0))) (h16 : R.length = 16) (hQ0 : PgsAt w0 (some ⟨lg, 0, none⟩) Q) (hnm : n ≤ Q.length) (hql : Q.length = m) (hmc : m ≤ lc) (hm9 : m ≤ 1000) (hB : B ≤ w0.heap.size) : Fre.StepB Try.prog opsMP.1 ⟨#[u0, u1, .pointer (some ⟨gb, 0, none⟩), u3, u4, u5, .pointer (some ⟨rb, 0, none⟩), u7, .slice (some ⟨lg, 0, none⟩) m lc, u9, u10, u11, u12, u13, u14, u15, u16, u17, u18, u19, u20, u21, u22, u23, u24, u25, u26, u27, u28, u29, u30, u31, u32, u33, u34, u35, u36, u37, u38, u39, u40, u41, u42, u43, u44, u45, u46, u47, u48, u49, u50, u51, u52, u53, u54, u55, u56, u57, u58, u59, u60, u61, u62, u63, u64, u65, u66, u67, u68, u69, u70, u71, u72, u73, u74, u75, u76], []⟩ w0 (VMP gb rb lg m lc n x t R Q B) Fre.Kept 1 := by
  intro E w hc hf hE hV hN hS o ho
  obtain rfl := Option.some.inj ho
  clear ho
  simp only [opsMP, List.getElem_toArray, List.getElem_cons_succ, List.getElem_cons_zero]
  have b8 : E (.tmp 8) = .slice (some ⟨lg, 0, none⟩) m lc := hE 8 (by kernel_rfl)
  refine Fre.Does.value (v := .slice (some ⟨lg, 0, none⟩) m lc) (w' := w) ?_ ⟨rfl, Fre.Kept.refl _⟩
  go_simp
set_option maxRecDepth 100000 in
theorem stMP_2 {u0 u1 u3 u4 u5 u7 u9 u10 u11 u12 u13 u14 u15 u16 u17 u18 u19 u20 u21 u22 u23 u24 u25 u26 u27 u28 u29 u30 u31 u32 u33 u34 u35 u36 u37 u38 u39 u40 u41 u42 u43 u44 u45 u46 u47 u48 u49 u50 u51 u52 u53 u54 u55 u56 u57 u58 u59 u60 u61 u62 u63 u64 u65 u66 u67 u68 u69 u70 u71 u72 u73 u74 u75 u76 : Value} (gb rb lg m lc n x : Nat) (t : Int) (R : List Nat) (Q : List Pg) (B : Nat) (w0 : World) (h0 : w0.heap[gb]? = some (.cells #[.int .i64 (n : Int), .int .i64 t] 23 (0, 0))) (h1 : w0.heap[rb]? = some (.cells (rtA x R) 49 (0, 0))) (h16 : R.length = 16) (hQ0 : PgsAt w0 (some ⟨lg, 0, none⟩) Q) (hnm : n ≤ Q.length) (hql : Q.length = m) (hmc : m ≤ lc) (hm9 : m ≤ 1000) (hB : B ≤ w0.heap.size) : Fre.StepB Try.prog opsMP.1 ⟨#[u0, u1, .pointer (some ⟨gb, 0, none⟩), u3, u4, u5, .pointer (some ⟨rb, 0, none⟩), u7, .slice (some ⟨lg, 0, none⟩) m lc, u9, u10, u11, u12, u13, u14, u15, u16, u17, u18, u19, u20, u21, u22, u23, u24, u25, u26, u27, u28, u29, u30, u31, u32, u33, u34, u35, u36, u37, u38, u39, u40, u41, u42, u43, u44, u45, u46, u47, u48, u49, u50, u51, u52, u53, u54, u55, u56, u57, u58, u59, u60, u61, u62, u63, u64, u65, u66, u67, u68, u69, u70, u71, u72, u73, u74, u75, u76], []⟩ w0 (VMP gb rb lg m lc n x t R Q B) Fre.Kept 2 := by
  intro E w hc hf hE hV hN hS o ho
  obtain rfl := Option.some.inj ho
  clear ho
  simp only [opsMP, List.getElem_toArray, List.getElem_cons_succ, List.getElem_cons_zero]
  have b2 : E (.tmp 2) = .pointer (some ⟨gb, 0, none⟩) := hE 2 (by kernel_rfl)
  refine Fre.Does.value (v := .pointer (some ⟨gb, 0, none⟩)) (w' := w) ?_ ⟨rfl, Fre.Kept.refl _⟩
  go_simp
set_option maxRecDepth 100000 in
theorem stMP_3 {u0 u1 u3 u4 u5 u7 u9 u10 u11 u12 u13 u14 u15 u16 u17 u18 u19 u20 u21 u22 u23 u24 u25 u26 u27 u28 u29 u30 u31 u32 u33 u34 u35 u36 u37 u38 u39 u40 u41 u42 u43 u44 u45 u46 u47 u48 u49 u50 u51 u52 u53 u54 u55 u56 u57 u58 u59 u60 u61 u62 u63 u64 u65 u66 u67 u68 u69 u70 u71 u72 u73 u74 u75 u76 : Value} (gb rb lg m lc n x : Nat) (t : Int) (R : List Nat) (Q : List Pg) (B : Nat) (w0 : World) (h0 : w0.heap[gb]? = some (.cells #[.int .i64 (n : Int), .int .i64 t] 23 (0, 0))) (h1 : w0.heap[rb]? = some (.cells (rtA x R) 49 (0, 0))) (h16 : R.length = 16) (hQ0 : PgsAt w0 (some ⟨lg, 0, none⟩) Q) (hnm : n ≤ Q.length) (hql : Q.length = m) (hmc : m ≤ lc) (hm9 : m ≤ 1000) (hB : B ≤ w0.heap.size) : Fre.StepB Try.prog opsMP.1 ⟨#[u0, u1, .pointer (some ⟨gb, 0, none⟩), u3, u4, u5, .pointer (some ⟨rb, 0, none⟩), u7, .slice (some ⟨lg, 0, none⟩) m lc, u9, u10, u11, u12, u13, u14, u15, u16, u17, u18, u19, u20, u21, u22, u23, u24, u25, u26, u27, u28, u29, u30, u31, u32, u33, u34, u35, u36, u37, u38, u39, u40, u41, u42, u43, u44, u45, u46, u47, u48, u49, u50, u51, u52, u53, u54, u55, u56, u57, u58, u59, u60, u61, u62, u63, u64, u65, u66, u67, u68, u69, u70, u71, u72, u73, u74, u75, u76], []⟩ w0 (VMP gb rb lg m lc n x t R Q B) Fre.Kept 3 := by
  intro E w hc hf hE hV hN hS o ho
  obtain rfl := Option.some.inj ho
  clear ho
  simp only [opsMP, List.getElem_toArray, List.getElem_cons_succ, List.getElem_cons_zero]
  have d2 := hV 2 59 (by kernel_rfl) (by kernel_rfl)
  have d2 : E (.tmp 59) = .pointer (some ⟨gb, 0, none⟩) := d2
  have hb := (hS.block gb (lt_of_block h0)).trans h0
  have c0 := (cells_at hb 0).trans (show _ = some (Value.int .i64 (n : Int)) from rfl)
  refine Fre.Does.value (v := .int .i64 (n : Int)) (w' := w) ?_ ⟨rfl, Fre.Kept.refl _⟩
  go_simp
set_option maxRecDepth 100000 in
theorem stMP_4 {u0 u1 u3 u4 u5 u7 u9 u10 u11 u12 u13 u14 u15 u16 u17 u18 u19 u20 u21 u22 u23 u24 u25 u26 u27 u28 u29 u30 u31 u32 u33 u34 u35 u36 u37 u38 u39 u40 u41 u42 u43 u44 u45 u46 u47 u48 u49 u50 u51 u52 u53 u54 u55 u56 u57 u58 u59 u60 u61 u62 u63 u64 u65 u66 u67 u68 u69 u70 u71 u72 u73 u74 u75 u76 : Value} (gb rb lg m lc n x : Nat) (t : Int) (R : List Nat) (Q : List Pg) (B : Nat) (w0 : World) (h0 : w0.heap[gb]? = some (.cells #[.int .i64 (n : Int), .int .i64 t] 23 (0, 0))) (h1 : w0.heap[rb]? = some (.cells (rtA x R) 49 (0, 0))) (h16 : R.length = 16) (hQ0 : PgsAt w0 (some ⟨lg, 0, none⟩) Q) (hnm : n ≤ Q.length) (hql : Q.length = m) (hmc : m ≤ lc) (hm9 : m ≤ 1000) (hB : B ≤ w0.heap.size) : Fre.StepB Try.prog opsMP.1 ⟨#[u0, u1, .pointer (some ⟨gb, 0, none⟩), u3, u4, u5, .pointer (some ⟨rb, 0, none⟩), u7, .slice (some ⟨lg, 0, none⟩) m lc, u9, u10, u11, u12, u13, u14, u15, u16, u17, u18, u19, u20, u21, u22, u23, u24, u25, u26, u27, u28, u29, u30, u31, u32, u33, u34, u35, u36, u37, u38, u39, u40, u41, u42, u43, u44, u45, u46, u47, u48, u49, u50, u51, u52, u53, u54, u55, u56, u57, u58, u59, u60, u61, u62, u63, u64, u65, u66, u67, u68, u69, u70, u71, u72, u73, u74, u75, u76], []⟩ w0 (VMP gb rb lg m lc n x t R Q B) Fre.Kept 4 := by
  intro E w hc hf hE hV hN hS o ho
  obtain rfl := Option.some.inj ho
  clear ho
  simp only [opsMP, List.getElem_toArray, List.getElem_cons_succ, List.getElem_cons_zero]
  have d1 := hV 1 58 (by kernel_rfl) (by kernel_rfl)
  have d1 : E (.tmp 58) = .slice (some ⟨lg, 0, none⟩) m lc := d1
  have d3 := hV 3 60 (by kernel_rfl) (by kernel_rfl)
  have d3 : E (.tmp 60) = .int .i64 (n : Int) := d3
  have hr := run_subPh lg 0 m lc n (by omega) w
  refine Fre.Does.value (v := .slice (some ⟨lg, 0, none⟩) n lc) (w' := w) ?_ ⟨rfl, Fre.Kept.refl _⟩
  unfold execOp
  simp only [d1, d3, Option.map_some, Option.map_none, Sem.run_bind, hr, Result.andThen_ok]
  rfl
set_option maxRecDepth 100000 in
theorem stMP_5 {u0 u1 u3 u4 u5 u7 u9 u10 u11 u12 u13 u14 u15 u16 u17 u18 u19 u20 u21 u22 u23 u24 u25 u26 u27 u28 u29 u30 u31 u32 u33 u34 u35 u36 u37 u38 u39 u40 u41 u42 u43 u44 u45 u46 u47 u48 u49 u50 u51 u52 u53 u54 u55 u56 u57 u58 u59 u60 u61 u62 u63 u64 u65 u66 u67 u68 u69 u70 u71 u72 u73 u74 u75 u76 : Value} (gb rb lg m lc n x : Nat) (t : Int) (R : List Nat) (Q : List Pg) (B : Nat) (w0 : World) (h0 : w0.heap[gb]? = some (.cells #[.int .i64 (n : Int), .int .i64 t] 23 (0, 0))) (h1 : w0.heap[rb]? = some (.cells (rtA x R) 49 (0, 0))) (h16 : R.length = 16) (hQ0 : PgsAt w0 (some ⟨lg, 0, none⟩) Q) (hnm : n ≤ Q.length) (hql : Q.length = m) (hmc : m ≤ lc) (hm9 : m ≤ 1000) (hB : B ≤ w0.heap.size) : Fre.StepB Try.prog opsMP.1 ⟨#[u0, u1, .pointer (some ⟨gb, 0, none⟩), u3, u4, u5, .pointer (some ⟨rb, 0, none⟩), u7, .slice (some ⟨lg, 0, none⟩) m lc, u9, u10, u11, u12, u13, u14, u15, u16, u17, u18, u19, u20, u21, u22, u23, u24, u25, u26, u27, u28, u29, u30, u31, u32, u33, u34, u35, u36, u37, u38, u39, u40, u41, u42, u43, u44, u45, u46, u47, u48, u49, u50, u51, u52, u53, u54, u55, u56, u57, u58, u59, u60, u61, u62, u63, u64, u65, u66, u67, u68, u69, u70, u71, u72, u73, u74, u75, u76], []⟩ w0 (VMP gb rb lg m lc n x t R Q B) Fre.Kept 5 := by
  intro E w hc hf hE hV hN hS o ho
  obtain rfl := Option.some.inj ho
  clear ho
  simp only [opsMP, List.getElem_toArray, List.getElem_cons_succ, List.getElem_cons_zero]
  have d4 := hV 4 61 (by kernel_rfl) (by kernel_rfl)
  have d4 : E (.tmp 61) = .slice (some ⟨lg, 0, none⟩) n lc := d4
  refine Fre.Does.enter (f := 29) (args := #[.slice (some ⟨lg, 0, none⟩) n lc]) (w' := w) ?_ ((clonep_c lg 0 n lc (Q.take n) (by rw [List.length_take]; omega) (by omega) w ((hQ0.take n).up hS (Nat.le_refl _))).mono ?_)
  · go_simp
  · rintro e w' ⟨u, rfl, hown, hk⟩
    exact ⟨u, rfl, own_mono hown (Nat.le_trans hB hS.size), hk⟩
set_option maxRecDepth 100000 in
theorem stMP_6 {u0 u1 u3 u4 u5 u7 u9 u10 u11 u12 u13 u14 u15 u16 u17 u18 u19 u20 u21 u22 u23 u24 u25 u26 u27 u28 u29 u30 u31 u32 u33 u34 u35 u36 u37 u38 u39 u40 u41 u42 u43 u44 u45 u46 u47 u48 u49 u50 u51 u52 u53 u54 u55 u56 u57 u58 u59 u60 u61 u62 u63 u64 u65 u66 u67 u68 u69 u70 u71 u72 u73 u74 u75 u76 : Value} (gb rb lg m lc n x : Nat) (t : Int) (R : List Nat) (Q : List Pg) (B : Nat) (w0 : World) (h0 : w0.heap[gb]? = some (.cells #[.int .i64 (n : Int), .int .i64 t] 23 (0, 0))) (h1 : w0.heap[rb]? = some (.cells (rtA x R) 49 (0, 0))) (h16 : R.length = 16) (hQ0 : PgsAt w0 (some ⟨lg, 0, none⟩) Q) (hnm : n ≤ Q.length) (hql : Q.length = m) (hmc : m ≤ lc) (hm9 : m ≤ 1000) (hB : B ≤ w0.heap.size) : Fre.StepB Try.prog opsMP.1 ⟨#[u0, u1, .pointer (some ⟨gb, 0, none⟩), u3, u4, u5, .pointer (some ⟨rb, 0, none⟩), u7, .slice (some ⟨lg, 0, none⟩) m lc, u9, u10, u11, u12, u13, u14, u15, u16, u17, u18, u19, u20, u21, u22, u23, u24, u25, u26, u27, u28, u29, u30, u31, u32, u33, u34, u35, u36, u37, u38, u39, u40, u41, u42, u43, u44, u45, u46, u47, u48, u49, u50, u51, u52, u53, u54, u55, u56, u57, u58, u59, u60, u61, u62, u63, u64, u65, u66, u67, u68, u69, u70, u71, u72, u73, u74, u75, u76], []⟩ w0 (VMP gb rb lg m lc n x t R Q B) Fre.Kept 6 := by
  intro E w hc hf hE hV hN hS o ho
  obtain rfl := Option.some.inj ho
  clear ho
  simp only [opsMP, List.getElem_toArray, List.getElem_cons_succ, List.getElem_cons_zero]
  have d0 := hV 0 57 (by kernel_rfl) (by kernel_rfl)
  have d0 : E (.tmp 57) = .agg (rtA x R) := d0
  have d5 := hV 5 62 (by kernel_rfl) (by kernel_rfl)
  replace d5 : (fun v : Value => w.ownsRow B 81 5 v n (cellsP (Q.take n))) (E (.tmp 62)) := d5
  simp only at d5
  obtain ⟨a, c, hv⟩ := own_sliceR d5
  rw [hv] at d5
  refine Fre.Does.value (v := .agg (mtA x R (.slice a n c))) (w' := w) ?_ ⟨⟨a, c, rfl, d5⟩, Fre.Kept.refl _⟩
  exact run_build_meta x R h16 a n c E _ rfl d0 hv w
set_option maxRecDepth 100000 in
theorem stMP_7 {u0 u1 u3 u4 u5 u7 u9 u10 u11 u12 u13 u14 u15 u16 u17 u18 u19 u20 u21 u22 u23 u24 u25 u26 u27 u28 u29 u30 u31 u32 u33 u34 u35 u36 u37 u38 u39 u40 u41 u42 u43 u44 u45 u46 u47 u48 u49 u50 u51 u52 u53 u54 u55 u56 u57 u58 u59 u60 u61 u62 u63 u64 u65 u66 u67 u68 u69 u70 u71 u72 u73 u74 u75 u76 : Value} (gb rb lg m lc n x : Nat) (t : Int) (R : List Nat) (Q : List Pg) (B : Nat) (w0 : World) (h0 : w0.heap[gb]? = some (.cells #[.int .i64 (n : Int), .int .i64 t] 23 (0, 0))) (h1 : w0.heap[rb]? = some (.cells (rtA x R) 49 (0, 0))) (h16 : R.length = 16) (hQ0 : PgsAt w0 (some ⟨lg, 0, none⟩) Q) (hnm : n ≤ Q.length) (hql : Q.length = m) (hmc : m ≤ lc) (hm9 : m ≤ 1000) (hB : B ≤ w0.heap.size) : Fre.StepB Try.prog opsMP.1 ⟨#[u0, u1, .pointer (some ⟨gb, 0, none⟩), u3, u4, u5, .pointer (some ⟨rb, 0, none⟩), u7, .slice (some ⟨lg, 0, none⟩) m lc, u9, u10, u11, u12, u13, u14, u15, u16, u17, u18, u19, u20, u21, u22, u23, u24, u25, u26, u27, u28, u29, u30, u31, u32, u33, u34, u35, u36, u37, u38, u39, u40, u41, u42, u43, u44, u45, u46, u47, u48, u49, u50, u51, u52, u53, u54, u55, u56, u57, u58, u59, u60, u61, u62, u63, u64, u65, u66, u67, u68, u69, u70, u71, u72, u73, u74, u75, u76], []⟩ w0 (VMP gb rb lg m lc n x t R Q B) Fre.Kept 7 := by
  intro E w hc hf hE hV hN hS o ho
  obtain rfl := Option.some.inj ho
  clear ho
  simp only [opsMP, List.getElem_toArray, List.getElem_cons_succ, List.getElem_cons_zero]
  refine Fre.Does.value (v := .pointer (some ⟨w.heap.size, 0, none⟩)) (w' := w.alloc (.cells #[.int .u64 0, .int .u64 0, .int .u64 0, .int .u64 0, .int .u64 0, .int .u64 0, .int .u64 0, .int .u64 0, .int .u64 0, .int .u64 0, .int .u64 0, .int .u64 0, .int .u64 0, .int .u64 0, .int .u64 0, .int .u64 0, .int .u64 0, .slice none 0 0] 52)) ?_ ⟨⟨_, rfl, Nat.le_trans hB hS.size, heap_new' _ _⟩, below_box _ _⟩
  go_simp
theorem kpMP (gb rb lg m lc n x : Nat) (t : Int) (R : List Nat) (Q : List Pg) (B : Nat) : ∀ j v w w', j < 8 → VMP gb rb lg m lc n x t R Q B j v w → Fre.Kept w w' → VMP gb rb lg m lc n x t R Q B j v w' := by
  intro j v w w' hj h hs
  have hc : j = 0 ∨ j = 1 ∨ j = 2 ∨ j = 3 ∨ j = 4 ∨ j = 5 ∨ j = 6 ∨ j = 7 := by omega
  rcases hc with rfl | rfl | rfl | rfl | rfl | rfl | rfl | rfl
  · exact h
  · exact h
  · exact h
  · exact h
  · exact h
  · change w.ownsRow B 81 5 v n (cellsP (Q.take n)) at h
    exact own_up h hs
  · change ∃ a c, v = .agg (mtA x R (.slice a n c)) ∧ w.ownsRow B 81 5 (.slice a n c) n (cellsP (Q.take n)) at h
    obtain ⟨a, c, h1, h2⟩ := h
    exact ⟨a, c, h1, own_up h2 hs⟩
  · change ∃ b, v = .pointer (some ⟨b, 0, none⟩) ∧ B ≤ b ∧ w.heap[b]? = some (.cells #[.int .u64 0, .int .u64 0, .int .u64 0, .int .u64 0, .int .u64 0, .int .u64 0, .int .u64 0, .int .u64 0, .int .u64 0, .int .u64 0, .int .u64 0, .int .u64 0, .int .u64 0, .int .u64 0, .int .u64 0, .int .u64 0, .int .u64 0, .slice none 0 0] 52 (0, 0)) at h
    obtain ⟨b, h1, h2, h3⟩ := h
    exact ⟨b, h1, h2, (hs.block _ (lt_of_block h3)).trans h3⟩
set_option maxRecDepth 100000 in
theorem finMP {u0 u1 u3 u4 u5 u7 u9 u10 u11 u12 u13 u14 u15 u16 u17 u18 u19 u20 u21 u22 u23 u24 u25 u26 u27 u28 u29 u30 u31 u32 u33 u34 u35 u36 u37 u38 u39 u40 u41 u42 u43 u44 u45 u46 u47 u48 u49 u50 u51 u52 u53 u54 u55 u56 u57 u58 u59 u60 u61 u62 u63 u64 u65 u66 u67 u68 u69 u70 u71 u72 u73 u74 u75 u76 : Value} (gb rb lg m lc n x : Nat) (t : Int) (R : List Nat) (Q : List Pg) (B : Nat) (vs : Nat → Value) : Fre.finT opsMP.1 vs #[u0, u1, .pointer (some ⟨gb, 0, none⟩), u3, u4, u5, .pointer (some ⟨rb, 0, none⟩), u7, .slice (some ⟨lg, 0, none⟩) m lc, u9, u10, u11, u12, u13, u14, u15, u16, u17, u18, u19, u20, u21, u22, u23, u24, u25, u26, u27, u28, u29, u30, u31, u32, u33, u34, u35, u36, u37, u38, u39, u40, u41, u42, u43, u44, u45, u46, u47, u48, u49, u50, u51, u52, u53, u54, u55, u56, u57, u58, u59, u60, u61, u62, u63, u64, u65, u66, u67, u68, u69, u70, u71, u72, u73, u74, u75, u76] 8 = #[u0, u1, .pointer (some ⟨gb, 0, none⟩), u3, u4, u5, .pointer (some ⟨rb, 0, none⟩), u7, .slice (some ⟨lg, 0, none⟩) m lc, u9, u10, u11, u12, vs 7, u14, u15, u16, u17, u18, u19, u20, u21, u22, u23, u24, u25, u26, u27, u28, u29, u30, u31, u32, u33, u34, u35, u36, u37, u38, u39, u40, u41, u42, u43, u44, u45, u46, u47, u48, u49, u50, u51, u52, u53, u54, u55, u56, vs 0, vs 1, vs 2, vs 3, vs 4, vs 5, vs 6, u64, u65, u66, u67, u68, u69, u70, u71, u72, u73, u74, u75, u76] := by kernel_rfl
set_option maxRecDepth 100000 in
theorem regionMP {u0 u1 u3 u4 u5 u7 u9 u10 u11 u12 u13 u14 u15 u16 u17 u18 u19 u20 u21 u22 u23 u24 u25 u26 u27 u28 u29 u30 u31 u32 u33 u34 u35 u36 u37 u38 u39 u40 u41 u42 u43 u44 u45 u46 u47 u48 u49 u50 u51 u52 u53 u54 u55 u56 u57 u58 u59 u60 u61 u62 u63 u64 u65 u66 u67 u68 u69 u70 u71 u72 u73 u74 u75 u76 : Value} (gb rb lg m lc n x : Nat) (t : Int) (R : List Nat) (Q : List Pg) (B : Nat) (w0 : World) (h0 : w0.heap[gb]? = some (.cells #[.int .i64 (n : Int), .int .i64 t] 23 (0, 0))) (h1 : w0.heap[rb]? = some (.cells (rtA x R) 49 (0, 0))) (h16 : R.length = 16) (hQ0 : PgsAt w0 (some ⟨lg, 0, none⟩) Q) (hnm : n ≤ Q.length) (hql : Q.length = m) (hmc : m ≤ lc) (hm9 : m ≤ 1000) (hB : B ≤ w0.heap.size) {QQ : Exit → Act → World → Prop} (hQ : ∀ (vs : Nat → Value) w, (∀ j, j < 8 → VMP gb rb lg m lc n x t R Q B j (vs j) w) → Fre.Kept w0 w → wpList Try.prog opsMP.1 QQ (opsMP.1.toList.drop 8) ⟨#[u0, u1, .pointer (some ⟨gb, 0, none⟩), u3, u4, u5, .pointer (some ⟨rb, 0, none⟩), u7, .slice (some ⟨lg, 0, none⟩) m lc, u9, u10, u11, u12, vs 7, u14, u15, u16, u17, u18, u19, u20, u21, u22, u23, u24, u25, u26, u27, u28, u29, u30, u31, u32, u33, u34, u35, u36, u37, u38, u39, u40, u41, u42, u43, u44, u45, u46, u47, u48, u49, u50, u51, u52, u53, u54, u55, u56, vs 0, vs 1, vs 2, vs 3, vs 4, vs 5, vs 6, u64, u65, u66, u67, u68, u69, u70, u71, u72, u73, u74, u75, u76], []⟩ w) : (Code.region 15 opsMP.1 true).wp Try.prog QQ ⟨#[u0, u1, .pointer (some ⟨gb, 0, none⟩), u3, u4, u5, .pointer (some ⟨rb, 0, none⟩), u7, .slice (some ⟨lg, 0, none⟩) m lc, u9, u10, u11, u12, u13, u14, u15, u16, u17, u18, u19, u20, u21, u22, u23, u24, u25, u26, u27, u28, u29, u30, u31, u32, u33, u34, u35, u36, u37, u38, u39, u40, u41, u42, u43, u44, u45, u46, u47, u48, u49, u50, u51, u52, u53, u54, u55, u56, u57, u58, u59, u60, u61, u62, u63, u64, u65, u66, u67, u68, u69, u70, u71, u72, u73, u74, u75, u76], []⟩ w0 := by
  refine Fre.region_tail 77 8 (by kernel_rfl) fitMP rfl tailMP (by rw [sizeMP]; omega) (VMP gb rb lg m lc n x t R Q B) (kpMP gb rb lg m lc n x t R Q B) (fun i hi => ?_) (fun vs w h1 h2 => ?_)
  case refine_2 => show wpList _ _ _ _ ⟨Fre.finT opsMP.1 vs #[u0, u1, .pointer (some ⟨gb, 0, none⟩), u3, u4, u5, .pointer (some ⟨rb, 0, none⟩), u7, .slice (some ⟨lg, 0, none⟩) m lc, u9, u10, u11, u12, u13, u14, u15, u16, u17, u18, u19, u20, u21, u22, u23, u24, u25, u26, u27, u28, u29, u30, u31, u32, u33, u34, u35, u36, u37, u38, u39, u40, u41, u42, u43, u44, u45, u46, u47, u48, u49, u50, u51, u52, u53, u54, u55, u56, u57, u58, u59, u60, u61, u62, u63, u64, u65, u66, u67, u68, u69, u70, u71, u72, u73, u74, u75, u76] 8, []⟩ w; rw [finMP gb rb lg m lc n x t R Q B vs]; exact hQ vs w h1 h2
  have hc : i = 0 ∨ i = 1 ∨ i = 2 ∨ i = 3 ∨ i = 4 ∨ i = 5 ∨ i = 6 ∨ i = 7 := by omega
  rcases hc with rfl | rfl | rfl | rfl | rfl | rfl | rfl | rfl
  · exact stMP_0 gb rb lg m lc n x t R Q B w0 h0 h1 h16 hQ0 hnm hql hmc hm9 hB
  · exact stMP_1 gb rb lg m lc n x t R Q B w0 h0 h1 h16 hQ0 hnm hql hmc hm9 hB
  · exact stMP_2 gb rb lg m lc n x t R Q B w0 h0 h1 h16 hQ0 hnm hql hmc hm9 hB
  · exact stMP_3 gb rb lg m lc n x t R Q B w0 h0 h1 h16 hQ0 hnm hql hmc hm9 hB
  · exact stMP_4 gb rb lg m lc n x t R Q B w0 h0 h1 h16 hQ0 hnm hql hmc hm9 hB
  · exact stMP_5 gb rb lg m lc n x t R Q B w0 h0 h1 h16 hQ0 hnm hql hmc hm9 hB
  · exact stMP_6 gb rb lg m lc n x t R Q B w0 h0 h1 h16 hQ0 hnm hql hmc hm9 hB
  · exact stMP_7 gb rb lg m lc n x t R Q B w0 h0 h1 h16 hQ0 hnm hql hmc hm9 hB
set_option maxRecDepth 100000 in
set_option maxHeartbeats 8000000 in
theorem mparse_c (n : Nat) (t : Int) (hg : geoB n t = true) (g o k cap : Nat) (L : List (List Nat)) (hk : L.length = k) (hkm : k = 1 + mapsN n) (hcap : k ≤ cap) (h256 : ∀ l ∈ L, l.length = 256) (w : World) (hR : RowsAt w (some ⟨g, o, none⟩) L) :
    Calls Try.prog 16 #[.agg #[.int .i64 (n : Int), .int .i64 t], .slice (some ⟨g, o, none⟩) k cap] w fun e w' => MParse w.heap.size n w' e L ∧ Below w.heap.size w w' := by
  have hp := (geoB_iff n t).1 hg
  have hm4 := mapsN_le n (by omega)
  have hm1 : 1 ≤ mapsN n := by unfold mapsN; omega
  have HGC := Lib.hid (fun w => gcheck_c n t w)
  rw [show geoE n t = 0 by unfold geoE; rw [if_pos hg]] at HGC
  have HMC := Lib.hid (fun w => gMaps_c n t w)
  rw [show ifGeo n t (mapsN (n : Int).toNat) = mapsN n by unfold ifGeo; rw [if_pos hg, Int.toNat_natCast]] at HMC
  obtain ⟨mm, hmm⟩ : ∃ mm, mm = mapsN n := ⟨_, rfl⟩
  rw [← hmm] at hkm hm4 hm1 HMC
  have ek : IntKind.i64.wrap (1 + (mm : Int)) = (k : Int) := by rw [show 1 + (mm : Int) = (k : Int) by omega]; exact IntWalk.i64_in _ (by omega)
  have HKM : Hid (k = 1 + mm ∧ 1 ≤ mm ∧ mm ≤ 4 ∧ mm = mapsN n ∧ n ≤ 64 ∧ 1 ≤ n) := ⟨hkm, hm1, hm4, hmm, by omega, by omega⟩
  have HGB := Lib.hid hg
  have HL := Lib.hid hk
  have HCP := Lib.hid hcap
  have H256 := Lib.hid h256
  have HZ0 : Hid (((w.alloc (.cells #[.int .i64 (n : Int), .int .i64 t] 23)).alloc (.cells #[.int .u64 0, .int .u64 0, .int .u64 0, .int .u64 0, .int .u64 0, .int .u64 0, .int .u64 0, .int .u64 0, .int .u64 0, .int .u64 0, .int .u64 0, .int .u64 0, .int .u64 0, .int .u64 0, .int .u64 0, .int .u64 0, .int .u64 0, .slice none 0 0] 52)).heap[w.heap.size + 1]? = some (.cells (mtA 0 zeroR (.slice none 0 0)) 52 (0, 0))) := by
    show _ = _; rw [show w.heap.size + 1 = (w.alloc (.cells #[.int .i64 (n : Int), .int .i64 t] 23)).heap.size by simp]; exact heap_new' _ _
  have HG0 : Hid (((w.alloc (.cells #[.int .i64 (n : Int), .int .i64 t] 23)).alloc (.cells #[.int .u64 0, .int .u64 0, .int .u64 0, .int .u64 0, .int .u64 0, .int .u64 0, .int .u64 0, .int .u64 0, .int .u64 0, .int .u64 0, .int .u64 0, .int .u64 0, .int .u64 0, .int .u64 0, .int .u64 0, .int .u64 0, .int .u64 0, .slice none 0 0] 52)).heap[w.heap.size]? = some (.cells #[.int .i64 (n : Int), .int .i64 t] 23 (0, 0))) := (heap_old' _ _ _ (by simp)).trans (heap_new' _ _)
  have HE0 : Hid (Below w.heap.size w ((w.alloc (.cells #[.int .i64 (n : Int), .int .i64 t] 23)).alloc (.cells #[.int .u64 0, .int .u64 0, .int .u64 0, .int .u64 0, .int .u64 0, .int .u64 0, .int .u64 0, .int .u64 0, .int .u64 0, .int .u64 0, .int .u64 0, .int .u64 0, .int .u64 0, .int .u64 0, .int .u64 0, .int .u64 0, .int .u64 0, .slice none 0 0] 52))) := (below_box w _).alloc (by simp) _
  have HR0 := Lib.hid (hR.up HE0.out (Nat.le_refl _))
  have HRW := Lib.hid hR
  have knn : ((k : Int) == (k : Int)) = true := beq_self_eq_true _
  clear hp hm4 hm1 hmm hkm hg hk hcap h256 hR
  go_enter Try.func16, Try.ntmps16
  go_wp2_with (first | (refine wpList_load_row rfl 23 (.tmp 2) rfl w.heap.size rfl _ _ _ _ HG0.out Try.underlying23 rfl (by rw [geo2]; rfl) ?_) | fail)
  generalize (w.alloc (.cells #[.int .i64 (n : Int), .int .i64 t] 23)).alloc (.cells #[.int .u64 0, .int .u64 0, .int .u64 0, .int .u64 0, .int .u64 0, .int .u64 0, .int .u64 0, .int .u64 0, .int .u64 0, .int .u64 0, .int .u64 0, .int .u64 0, .int .u64 0, .int .u64 0, .int .u64 0, .int .u64 0, .int .u64 0, .slice none 0 0] 52) = w0 at *
  refine (HGC.out w0).mono ?_
  rintro e w1 ⟨rfl, hb1⟩
  have HZ1 := Lib.hid ((hb1.block _ (lt_of_block HZ0.out)).trans HZ0.out)
  have HG1 := Lib.hid ((hb1.block _ (lt_of_block HG0.out)).trans HG0.out)
  have HE1 : Hid (Below w.heap.size w w1) := HE0.out.trans (hb1.mono HE0.out.size)
  have HR1 := Lib.hid (HR0.out.up hb1 (Nat.le_refl _))
  clear hb1 HZ0 HG0 HE0 HR0 HGC
  go_wp2_with (first | (refine load_row_w rfl 23 (.tmp 2) rfl w.heap.size rfl _ _ _ _ HG1.out Try.underlying23 rfl (by rw [geo2]; rfl) ?_) | fail)
  refine (HMC.out w1).mono ?_
  rintro e w2 ⟨rfl, hb2⟩
  have HZ2 := Lib.hid ((hb2.block _ (lt_of_block HZ1.out)).trans HZ1.out)
  have HG2 := Lib.hid ((hb2.block _ (lt_of_block HG1.out)).trans HG1.out)
  have HE2 : Hid (Below w.heap.size w w2) := HE1.out.trans (hb2.mono HE1.out.size)
  have HR2 := Lib.hid (HR1.out.up hb2 (Nat.le_refl _))
  clear hb2 HZ1 HG1 HE1 HR1 HMC
  have h0L : L[0]? = some (L.getD 0 []) := by
    rw [List.getD_eq_getElem?_getD, List.getElem?_eq_getElem (by have := HL.out; have := HKM.out; omega)]; rfl
  obtain ⟨b0, hb0⟩ : ∃ b0, b0 = L.getD 0 [] := ⟨_, rfl⟩
  have HB0 := Lib.hid hb0
  rw [← hb0] at h0L
  have hb0l : b0.length = 256 := H256.out _ (List.mem_of_getElem? h0L)
  obtain ⟨g', o', v0, e1, hgl, hc0, hs0⟩ := HR2.out 0 b0 h0L
  cases e1
  obtain ⟨a0, c0', rfl, hs0'⟩ := id hs0
  rw [Nat.add_zero] at hc0
  have HHP : Hid (Calls Try.prog 27 #[.slice a0 b0.length c0'] w2 fun e w' => e = .returned (headV (headN b0)) ∧ Below w2.heap.size w2 w') := hparse_c a0 c0' _ b0 hb0l hb0l w2 hs0
  have HGL := Lib.hid hgl
  clear hb0 h0L hs0 hs0' hgl
  obtain ⟨ln0, hln0⟩ : ∃ ln0, ln0 = b0.length := ⟨_, rfl⟩
  rw [← hln0] at hc0 HHP
  clear hln0 hb0l
  have k1 : (0 : Int) < (k : Int) := by have := HKM.out; omega
  go_wp2_with fail
  refine HHP.out.mono ?_
  rintro e w3 ⟨rfl, hb3⟩
  have HZ3 := Lib.hid ((hb3.block _ (lt_of_block HZ2.out)).trans HZ2.out)
  have HG3 := Lib.hid ((hb3.block _ (lt_of_block HG2.out)).trans HG2.out)
  have HE3 : Hid (Below w.heap.size w w3) := HE2.out.trans (hb3.mono HE2.out.size)
  have HR3 := Lib.hid (HR2.out.up hb3 (Nat.le_refl _))
  clear hb3 HZ2 HG2 HE2 HR2 HHP hc0
  cases hh : headN b0 with
  | none =>
    have HMN : Hid (metaN n L = none) := by show _ = _; unfold metaN; rw [← HB0.out, hh]
    clear hh
    obtain ⟨HV, hHV⟩ : ∃ HV, HV = headV none := ⟨_, rfl⟩
    have hv1 : HV = .tuple #[.agg (rtA 0 zeroR), .int .i64 4] := hHV
    rw [← hHV, hv1]
    clear hHV hv1 HV
    have HY : Hid ((w3.alloc (.cells #[.int .u64 0, .int .u64 0, .int .u64 0, .int .u64 0, .int .u64 0, .int .u64 0, .int .u64 0, .int .u64 0, .int .u64 0, .int .u64 0, .int .u64 0, .int .u64 0, .int .u64 0, .int .u64 0, .int .u64 0, .int .u64 0, .int .u64 0] 49)).heap[w3.heap.size]? = some (.cells (rtA 0 zeroR) 49 (0, 0))) := heap_new' _ _
    have hy3 := below_box w3 (.cells #[.int .u64 0, .int .u64 0, .int .u64 0, .int .u64 0, .int .u64 0, .int .u64 0, .int .u64 0, .int .u64 0, .int .u64 0, .int .u64 0, .int .u64 0, .int .u64 0, .int .u64 0, .int .u64 0, .int .u64 0, .int .u64 0, .int .u64 0] 49)
    have HZ4 := Lib.hid ((hy3.block _ (lt_of_block HZ3.out)).trans HZ3.out)
    have HG4 := Lib.hid ((hy3.block _ (lt_of_block HG3.out)).trans HG3.out)
    have HE4 : Hid (Below w.heap.size w (w3.alloc (.cells #[.int .u64 0, .int .u64 0, .int .u64 0, .int .u64 0, .int .u64 0, .int .u64 0, .int .u64 0, .int .u64 0, .int .u64 0, .int .u64 0, .int .u64 0, .int .u64 0, .int .u64 0, .int .u64 0, .int .u64 0, .int .u64 0, .int .u64 0] 49))) := HE3.out.trans (hy3.mono HE3.out.size)
    have HR4 := Lib.hid (HR3.out.up hy3 (Nat.le_refl _))
    have HZL : Hid (w.heap.size + 1 < w3.heap.size) := lt_of_block HZ3.out
    clear hy3 HZ3 HG3 HE3 HR3
    go_wp2_with (first
      | (refine wpList_store_row rfl 49 (.tmp 6) (.tmp 31) rfl w3.heap.size (rtA 0 zeroR) rfl rfl 49 _ HY.out (by rw [roots17]; rfl) rfl (rtA_one _ _) ?_; generalize hW4 : World.setRow _ _ _ = w5; have HZZ : Hid (w5.heap[w.heap.size + 1]? = some (.cells (mtA 0 zeroR (.slice none 0 0)) 52 (0, 0))) := (by show _ = _; rw [← hW4, setRow_other _ _ _ _ (by have := HZL.out; omega)]; exact HZ4.out); have HEE : Hid (Below w.heap.size w w5) := (by rw [← hW4]; exact below_setRow HE4.out (by have := HZL.out; omega) _); clear hW4)
      | (refine wpList_store_row rfl 52 (.tmp 4) (.tmp 35) rfl (w.heap.size + 1) (mtA 0 zeroR (.slice none 0 0)) rfl rfl 52 _ HZZ.out (by rw [meta18]; rfl) rfl (mtA_one _ _ _ _ _) ?_)
      | fail)
    refine bodyPost_ret (results_row_tmp rfl _ _ (w.heap.size + 1) _ (mtA 0 zeroR (.slice none 0 0)) (0, 0) _ rfl (setRow_heap _ _ _ _ _ _ HZZ.out) Try.underlying52 rfl (by rw [meta18]; rfl)) rfl ?_
    exact ⟨by unfold MParse; rw [HMN.out]; rfl, below_setRow HEE.out (by omega) _⟩
  | some xr =>
    obtain ⟨x, R⟩ := xr
    have h16 := hdL_16 hh
    have H16 := Lib.hid h16
    have HHD := Lib.hid hh
    have HMN0 : Hid (metaN n L = match mapsPg (L.drop 1) with
      | none => none
      | some P => if mayM x (P.take n) && !(P.drop n).any (fun p => !freeP p) then some (x, R, P.take n) else none) := by
      show _ = _; unfold metaN; rw [← HB0.out, hh]; rfl
    clear hh h16
    obtain ⟨HV, hHV⟩ : ∃ HV, HV = headV (some (x, R)) := ⟨_, rfl⟩
    have hv1 : HV = .tuple #[.agg (rtA x R), .int .i64 0] := hHV
    rw [← hHV, hv1]
    clear hHV hv1 HV
    have HY : Hid ((w3.alloc (.cells #[.int .u64 0, .int .u64 0, .int .u64 0, .int .u64 0, .int .u64 0, .int .u64 0, .int .u64 0, .int .u64 0, .int .u64 0, .int .u64 0, .int .u64 0, .int .u64 0, .int .u64 0, .int .u64 0, .int .u64 0, .int .u64 0, .int .u64 0] 49)).heap[w3.heap.size]? = some (.cells (rtA 0 zeroR) 49 (0, 0))) := heap_new' _ _
    have hy3 := below_box w3 (.cells #[.int .u64 0, .int .u64 0, .int .u64 0, .int .u64 0, .int .u64 0, .int .u64 0, .int .u64 0, .int .u64 0, .int .u64 0, .int .u64 0, .int .u64 0, .int .u64 0, .int .u64 0, .int .u64 0, .int .u64 0, .int .u64 0, .int .u64 0] 49)
    have HZ4 := Lib.hid ((hy3.block _ (lt_of_block HZ3.out)).trans HZ3.out)
    have HG4 := Lib.hid ((hy3.block _ (lt_of_block HG3.out)).trans HG3.out)
    have HE4 : Hid (Below w.heap.size w (w3.alloc (.cells #[.int .u64 0, .int .u64 0, .int .u64 0, .int .u64 0, .int .u64 0, .int .u64 0, .int .u64 0, .int .u64 0, .int .u64 0, .int .u64 0, .int .u64 0, .int .u64 0, .int .u64 0, .int .u64 0, .int .u64 0, .int .u64 0, .int .u64 0] 49))) := HE3.out.trans (hy3.mono HE3.out.size)
    have HR4 := Lib.hid (HR3.out.up hy3 (Nat.le_refl _))
    have HZL : Hid (w.heap.size + 1 < w3.heap.size) := lt_of_block HZ3.out
    clear hy3 HZ3 HG3 HE3
    go_wp2_with (first
      | (refine wpList_store_row rfl 49 (.tmp 6) (.tmp 31) rfl w3.heap.size (rtA x R) rfl rfl 49 _ HY.out (by rw [roots17, rtA_size, H16.out]) (by simp [rtA_size, H16.out, zeroR]) (rtA_one _ _) ?_; generalize hW4 : World.setRow _ _ _ = w5; have HZ5 : Hid (w5.heap[w.heap.size + 1]? = some (.cells (mtA 0 zeroR (.slice none 0 0)) 52 (0, 0))) := (by show _ = _; rw [← hW4, setRow_other _ _ _ _ (by have := HZL.out; omega)]; exact HZ4.out); have HG5 : Hid (w5.heap[w.heap.size]? = some (.cells #[.int .i64 (n : Int), .int .i64 t] 23 (0, 0))) := (by show _ = _; rw [← hW4, setRow_other _ _ _ _ (by have := HZL.out; omega)]; exact HG4.out); have HX5 : Hid (w5.heap[w3.heap.size]? = some (.cells (rtA x R) 49 (0, 0))) := (by show _ = _; rw [← hW4]; exact setRow_heap _ _ _ _ _ _ HY.out); have HE5 : Hid (Below w.heap.size w w5) := (by rw [← hW4]; exact below_setRow HE4.out (by have := HZL.out; omega) _); have HXL : Hid (w3.heap.size + 1 ≤ w5.heap.size) := lt_of_block HX5.out; clear hW4)
      | (refine wpList_sliceR (by rfl) (.tmp 37) (.const (.int .i64 1)) (l := 1) rfl rfl rfl (by have := HKM.out; omega) ?_)
      | fail)
    clear HZ4 HG4 HE4 HR4 HR3 HY
    have hk1 : k - 1 = mm := by have := HKM.out; omega
    rw [hk1]
    clear hk1
    go_loopw [8, 40] (fun v vi wr => ∃ j : Nat, j ≤ mm ∧ vi = .int .i64 (j : Int) ∧ ∃ a m c Q, v = .slice a m c ∧ Hid (m = 16 * j ∧ Q.length = m) ∧ Hid (mapsPg (L.drop 1) = (mapsPg (L.drop (1 + j))).map (Q ++ ·)) ∧ Hid (wr.ownsRow (w3.heap.size + 1) 81 5 (.slice a m c) m (cellsP Q)) ∧ Hid (∀ p ∈ Q, p.size < 4294967296) ∧ Hid (wr.heap[w.heap.size + 1]? = some (.cells (mtA 0 zeroR (.slice none 0 0)) 52 (0, 0))) ∧ Hid (wr.heap[w.heap.size]? = some (.cells #[.int .i64 (n : Int), .int .i64 t] 23 (0, 0))) ∧ Hid (wr.heap[w3.heap.size]? = some (.cells (rtA x R) 49 (0, 0))) ∧ Hid (Below w.heap.size w wr) ∧ Hid (w3.heap.size + 1 ≤ wr.heap.size)) (fun _ vi _ => mm - (intOf vi).toNat)
    case atStart => exact ⟨0, by omega, rfl, none, 0, 0, [], rfl, ⟨rfl, rfl⟩, by show _ = _; simp, World.ownsRow_nil _ _ _ _, (fun p h => by cases h), HZ5.out, HG5.out, HX5.out, HE5.out, HXL.out⟩
    case round =>
      clear HZ5 HG5 HX5 HE5 HXL
      obtain ⟨j, hj, rfl, a, m, c, Q, rfl, hm, hmp, hown, hqs, hz, hgg, hx, hbel, hsz⟩ := hrel
      have hmm4 := HKM.out.2.2.1
      by_cases hlt : j < mm
      · have hd : decide ((j : Int) < (mm : Int)) = true := by simp; omega
        have dl : (j : Int) < (mm : Int) := by omega
        have d0 : ¬ (j : Int) < 0 := by omega
        have hjl : j < (L.drop 1).length := by rw [List.length_drop, HL.out]; have := HKM.out; omega
        obtain ⟨b, hb⟩ : ∃ b, b = (L.drop 1)[j] := ⟨_, rfl⟩
        have hget : (L.drop 1)[j]? = some b := by rw [hb]; exact List.getElem?_eq_getElem hjl
        have hbl : b.length = 256 := H256.out _ (List.mem_of_mem_drop (List.mem_of_getElem? hget))
        have hdr : L.drop (1 + j) = b :: L.drop (1 + (j + 1)) := by
          rw [← List.drop_drop, List.drop_eq_getElem_cons hjl, hb, List.drop_drop]
        obtain ⟨g', o', v0, e1, hgl, hc0, hs0⟩ := ((HRW.out.up hbel.out (Nat.le_refl _)).drop 1 (by rw [HL.out]; exact HCP.out)) j b hget
        cases e1
        obtain ⟨a0, c0, rfl, hbb, hn0, hlc, hcm⟩ := hs0
        obtain ⟨gk, ok, rfl, _, hgk, _⟩ := hbb.2 (by rw [hbl]; omega)
        have HPP := Lib.hid (pparse_c gk ok c0 b.length b hbl (by rw [hbl]) (by rw [hbl] at hlc; exact hlc) wr hbb)
        have hmp2 := hmp.out
        rw [hdr, mapsPg_cons] at hmp2
        have HMP := Lib.hid hmp2
        have HJ := Lib.hid hlt
        have HB8 : Hid (∀ x ∈ b, x < 256) := hbb.1
        obtain ⟨ln, hln⟩ : ∃ ln, ln = b.length := ⟨_, rfl⟩
        rw [← hln] at hc0 HPP
        clear hb hget hbl hdr hbb hn0 hlc hcm hgk hmp hmp2 hln hlt hj hgl hjl
        go_wp2_with fail
        refine HPP.out.mono ?_
        rintro e w6 ⟨hres, hb6⟩
        have hz6 := Lib.hid ((hb6.block _ (lt_of_block hz.out)).trans hz.out)
        have hg6 := Lib.hid ((hb6.block _ (lt_of_block hgg.out)).trans hgg.out)
        have hx6 := Lib.hid ((hb6.block _ (lt_of_block hx.out)).trans hx.out)
        have he6 : Hid (Below w.heap.size w w6) := hbel.out.trans (hb6.mono hbel.out.size)
        have ho6 := Lib.hid (own_up hown.out hb6)
        have hs6 : Hid (w3.heap.size + 1 ≤ w6.heap.size) := Nat.le_trans hsz.out hb6.size
        unfold ParsePg at hres
        cases hpp : parseP b with
        | none =>
          rw [hpp] at hres
          simp only at hres
          subst hres
          have HMN : Hid (metaN n L = none) := by show _ = _; rw [HMN0.out, HMP.out, hpp]; rfl
          have HZZ := hz6
          have HEE := he6
          clear hpp HPP HMP hz hgg hx hbel hown hsz hz6 hg6 hx6 he6 ho6 hs6 hb6 hc0
          go_wp2_with (first
            | (refine wpList_store_row rfl 52 (.tmp 4) (.tmp 51) rfl (w.heap.size + 1) (mtA 0 zeroR (.slice none 0 0)) rfl rfl 52 _ HZZ.out (by rw [meta18]; rfl) rfl (mtA_one _ _ _ _ _) ?_)
            | fail)
          refine bodyPost_ret (results_row_tmp rfl _ _ (w.heap.size + 1) _ (mtA 0 zeroR (.slice none 0 0)) (0, 0) _ rfl (setRow_heap _ _ _ _ _ _ HZZ.out) Try.underlying52 rfl (by rw [meta18]; rfl)) rfl ?_
          exact ⟨by unfold MParse; rw [HMN.out]; rfl, below_setRow HEE.out (by omega) _⟩
        | some P =>
          rw [hpp] at hres
          simp only at hres
          obtain ⟨v1, rfl, hown1⟩ := hres
          obtain ⟨pa, pc, rfl⟩ := own_sliceR hown1
          have hpl := parseP_len hpp
          have HP1 := Lib.hid (pgs_of_own hown1)
          have HPL : Hid (P.length = 16) := hpl
          obtain ⟨pg, pcap, hv9, _, _⟩ := own_some hown1 (by omega)
          cases hv9
          have HQS : Hid (∀ p ∈ Q ++ P, p.size < 4294967296) := fun p hp => (List.mem_append.1 hp).elim (hqs.out p) (fun h => by rw [(parseP_eq hpp).1] at h; exact pgsN_size b HB8.out p h)
          have HMP2 : Hid (mapsPg (L.drop 1) = (mapsPg (L.drop (1 + (j + 1)))).map ((Q ++ P) ++ ·)) := by
            show _ = _; rw [HMP.out, hpp]
            cases mapsPg (L.drop (1 + (j + 1))) with
            | none => rfl
            | some S => simp
          have HM16 : Hid (m + 16 ≤ 1000000 ∧ m + 16 = 16 * (j + 1)) := by have h1 := hm.out.1; have h2 := HKM.out; have h3 := HJ.out; exact ⟨by omega, by omega⟩
          have HQL : Hid ((Q ++ P).length = m + 16) := by show _ = _; rw [List.length_append, hm.out.2, hpl]
          clear hpp HPP HMP hz hgg hx hbel hown hsz hb6 hc0 hpl hown1 hqs hm
          go_wp2_with (first
            | (refine wpList_append_pgs (base := w3.heap.size + 1) (n := m) (v := .slice a m c) (L := Q) (m := 16) (M := P) rfl (.tmp 53) (.tmp 54) rfl rfl ho6.out rfl HPL.out HP1.out (fun h => by cases h) (fun p hp => by cases hp; rfl) HM16.out.1 hs6.out ?_; intro v7 w7 hown7 hgr7; obtain ⟨a7, c7, hv7⟩ := own_sliceR hown7; subst hv7; have ho7 := Lib.hid hown7; have hlow : ∀ q, q < w3.heap.size + 1 → w7.heap[q]? = w6.heap[q]? := (fun q hq => hgr7.block q (Nat.lt_of_lt_of_le hq hs6.out) (fun e => by have := (ho6.out.lt q e.symm).1; omega)); have hz7 := Lib.hid ((hlow (w.heap.size + 1) (by have := HZL.out; omega)).trans hz6.out); have hg7 := Lib.hid ((hlow w.heap.size (by have := HZL.out; omega)).trans hg6.out); have hx7 := Lib.hid ((hlow w3.heap.size (by omega)).trans hx6.out); have he7 : Hid (Below w.heap.size w w7) := he6.out.grown hgr7 he6.out.size (fun q e => by have := (ho6.out.lt q e).1; have := HZL.out; omega); have hs7 : Hid (w3.heap.size + 1 ≤ w7.heap.size) := Nat.le_trans hs6.out hgr7.size; clear hown7 hgr7 hlow)
            | fail)
          go_roundw
          case rel => exact ⟨j + 1, by have := HJ.out; omega, by go_num, a7, m + 16, c7, Q ++ P, rfl, ⟨HM16.out.2, HQL.out⟩, HMP2.out, ho7.out, HQS.out, hz7.out, hg7.out, hx7.out, he7.out, hs7.out⟩
          case measure => simp [intOf]; have := HJ.out; omega
      · have hjm : j = mm := by omega
        have hd : decide ((j : Int) < (mm : Int)) = false := by simp; omega
        have dl : ¬ (j : Int) < (mm : Int) := by omega
        have hQ2 : mapsPg (L.drop 1) = some Q := by
          rw [hmp.out, List.drop_of_length_le (by rw [HL.out]; have := HKM.out; omega)]
          show some (Q ++ []) = _; rw [List.append_nil]
        have HMN1 : Hid (metaN n L = if mayM x (Q.take n) && !(Q.drop n).any (fun p => !freeP p) then some (x, R, Q.take n) else none) := by show _ = _; rw [HMN0.out, hQ2]
        have hmn : n ≤ m := by have h1 := hm.out.1; have h2 := HKM.out; have h3 : mm = mapsN n := h2.2.2.2.1; unfold mapsN at h3; omega
        have hm64 : m ≤ 64 := by have h1 := hm.out.1; have h2 := HKM.out; omega
        have hm1 : 1 ≤ m := by have h2 := HKM.out; omega
        obtain ⟨lg, lc, hlv, hlg, _⟩ := own_some hown.out (by omega)
        cases hlv
        have hql := hm.out.2
        have hmc : m ≤ c := by
          rcases hown.out.2 with ⟨h9, _⟩ | ⟨g9, cap9, cur9, e1, e2, e3, e4, _⟩
          · cases h9
          · cases e1; exact e4
        have HPQ := Lib.hid (pgs_of_own hown.out)
        have HNM : Hid (n ≤ m ∧ m ≤ 64 ∧ m ≤ c ∧ Q.length = m) := ⟨hmn, hm64, hmc, hql⟩
        clear hQ2 hmp hm hjm hj hlt HMN0
        go_wp2
        refine regionMP w.heap.size w3.heap.size lg m c n x t R Q wr.heap.size wr hgg.out hx.out H16.out HPQ.out (by rw [hql]; exact hmn) hql hmc (by omega) (Nat.le_refl _) ?_
        intro vs w8 hv hk
        obtain ⟨a6, c6, v6, o6⟩ := hv 6 (by omega)
        obtain ⟨b7, v7, hb7, f7⟩ := hv 7 (by omega)
        have hz8 := (hk.block _ (lt_of_block hz.out)).trans hz.out
        have hg8 := (hk.block _ (lt_of_block hgg.out)).trans hgg.out
        have hp8 := HPQ.out.up hk (Nat.le_refl _)
        have he8 : Below w.heap.size w w8 := hbel.out.trans (hk.mono hbel.out.size)
        have ho6 : w8.ownsRow wr.heap.size 81 5 (.slice a6 n c6) n (cellsP (Q.take n)) := o6
        rw [v6, v7]
        clear hv hk v6 v7 o6
        have hzl := lt_of_block hz.out
        have HBL : Hid (w.heap.size + 1 < wr.heap.size) := hzl
        have hgl := lt_of_block hgg.out
        have HBZ : Hid (w.heap.size + 1 < b7 ∧ w.heap.size ≠ b7 ∧ w.heap.size + 1 ≠ b7) := ⟨by omega, by omega, by omega⟩
        refine wpList_store_row rfl 52 (.tmp 13) (.tmp 63) rfl b7 (mtA x R (.slice a6 n c6)) rfl rfl 52 _ f7 (by rw [meta18, mtA_size, H16.out]) (by rw [mtA_size, H16.out]; rfl) (mtA_one _ _ _ _ _) ?_
        have HM9 : Hid ((w8.setRow b7 (mtA x R (.slice a6 n c6))).heap[b7]? = some (.cells (mtA x R (.slice a6 n c6)) 52 (0, 0))) := setRow_heap _ _ _ _ _ _ f7
        have HZ9 : Hid ((w8.setRow b7 (mtA x R (.slice a6 n c6))).heap[w.heap.size + 1]? = some (.cells (mtA 0 zeroR (.slice none 0 0)) 52 (0, 0))) := (setRow_other _ _ _ _ HBZ.out.2.2).trans hz8
        have HG9 : Hid ((w8.setRow b7 (mtA x R (.slice a6 n c6))).heap[w.heap.size]? = some (.cells #[.int .i64 (n : Int), .int .i64 t] 23 (0, 0))) := (setRow_other _ _ _ _ HBZ.out.2.1).trans hg8
        have HE9 : Hid (Below w.heap.size w (w8.setRow b7 (mtA x R (.slice a6 n c6)))) := below_setRow he8 (by omega) _
        have HK9 : Hid (∀ q, q ≠ b7 → (w8.setRow b7 (mtA x R (.slice a6 n c6))).heap[q]? = w8.heap[q]?) := fun q hq => setRow_other _ _ _ _ hq
        have HS9 : Hid ((w8.setRow b7 (mtA x R (.slice a6 n c6))).heap.size = w8.heap.size) := by show _ = _; simp [World.setRow]
        generalize w8.setRow b7 (mtA x R (.slice a6 n c6)) = w9 at *
        have HO9 : Hid (w9.ownsRow wr.heap.size 81 5 (.slice a6 n c6) n (cellsP (Q.take n))) := own_keep ho6 (fun q hq => HK9.out q (by
          rintro rfl
          rcases ho6.2 with ⟨h9, _⟩ | ⟨g9, cap9, cur9, e1, e2, e3, e4⟩
          · rw [h9] at hq; cases hq
          · rw [e1] at hq; cases hq
            rw [e3] at f7; cases f7))
        have HP9 : Hid (PgsAt w9 (some ⟨lg, 0, none⟩) Q) := fun i p hp => by
          obtain ⟨g9, o9, e1, e2, e3⟩ := hp8 i p hp
          cases e1
          refine ⟨lg, 0, rfl, by rw [HS9.out]; exact e2, fun q u hu => ?_⟩
          rw [World.cell?_of_block (HK9.out lg (by omega))]; exact e3 q u hu
        have HSZ : Hid (∀ p ∈ Q.take n, p.size < 4611686018427387904) := fun p hp => by have := hqs.out p (List.mem_of_mem_take hp); omega
        have HLT : Hid ((Q.take n).length = n) := by show _ = _; rw [List.length_take]; omega
        have HMY : Hid (∀ w', Below w9.heap.size w9 w' → Calls Try.prog 30 #[.agg (mtA x R (.slice a6 n c6)), .agg #[.int .i64 (n : Int), .int .i64 t]] w' fun e w'' => e = .returned (.bool (mayM x (Q.take n))) ∧ Below w'.heap.size w' w'') := fun w' h =>
          mmay_c x R H16.out a6 n c6 t HGB.out (Q.take n) HLT.out HSZ.out w' ((pgs_of_own HO9.out).up h (Nat.le_refl _))
        clear ho6 hp8 he8 hg8 hz8 f7 hz hgg hx hbel hown hqs hsz HPQ hzl hgl hmn hm64 hm1 hql hmc hlg hb7
        go_wp2_with (first
          | (refine wpList_load_row rfl 52 (.tmp 13) rfl b7 rfl _ _ _ _ HM9.out Try.underlying52 rfl (by rw [meta18, mtA_size, H16.out]) ?_)
          | (refine wpList_load_row rfl 23 (.tmp 2) rfl w.heap.size rfl _ _ _ _ HG9.out Try.underlying23 rfl (by rw [geo2]; rfl) ?_)
          | fail)
        refine (HMY.out w9 (Below.refl _ _)).mono ?_
        rintro e w10 ⟨rfl, hb10⟩
        have HM10 := Lib.hid ((hb10.block _ (lt_of_block HM9.out)).trans HM9.out)
        have HZZ := Lib.hid ((hb10.block _ (lt_of_block HZ9.out)).trans HZ9.out)
        have HG10 := Lib.hid ((hb10.block _ (lt_of_block HG9.out)).trans HG9.out)
        have HEE : Hid (Below w.heap.size w w10) := HE9.out.trans (hb10.mono HE9.out.size)
        have HO10 := Lib.hid (own_up HO9.out hb10)
        have HP10 := Lib.hid (HP9.out.up hb10 (Nat.le_refl _))
        have c10 := (cells_at HG10.out 0).trans (show _ = some (Value.int .i64 (n : Int)) from rfl)
        clear hb10 HM9 HZ9 HG9 HE9 HK9 HS9 HO9 HP9 HMY
        cases hmy : mayM x (Q.take n) with
        | false =>
          have HMN : Hid (metaN n L = none) := by show _ = _; rw [HMN1.out, hmy]; rfl
          clear hmy
          go_wp2_with (first
            | (refine wpList_store_row rfl 52 (.tmp 4) (.tmp 75) rfl (w.heap.size + 1) (mtA 0 zeroR (.slice none 0 0)) rfl rfl 52 _ HZZ.out (by rw [meta18]; rfl) rfl (mtA_one _ _ _ _ _) ?_)
            | fail)
          refine bodyPost_ret (results_row_tmp rfl _ _ (w.heap.size + 1) _ (mtA 0 zeroR (.slice none 0 0)) (0, 0) _ rfl (setRow_heap _ _ _ _ _ _ HZZ.out) Try.underlying52 rfl (by rw [meta18]; rfl)) rfl ?_
          exact ⟨by unfold MParse; rw [HMN.out]; rfl, below_setRow HEE.out (by omega) _⟩
        | true =>
          rw [hmy, Bool.true_and] at HMN1
          have HCF : Hid (Calls Try.prog 31 #[.slice (some ⟨lg, subP 0 c n, none⟩) (m - n) (c - n), .func (.func 32) #[] #[]] w10 fun e w' => e = .returned (.bool ((Q.drop n).any (fun p => !freeP p))) ∧ Below w10.heap.size w10 w') := by
            show Calls _ _ _ _ _
            refine cf_nonzero_c _ (m - n) (c - n) (Q.drop n) (by rw [List.length_drop, HNM.out.2.2.2]) (by have := HNM.out.2.1; omega) w10 (HP10.out.drop n ?_)
            rw [HNM.out.2.2.2]; exact HNM.out.2.2.1
          clear hmy
          go_wp2_with (first
            | (refine wpList_sliceP (by rfl) (.tmp 69) (.tmp 71) (l := n) rfl rfl rfl HNM.out.1 ?_)
            | fail)
          refine HCF.out.mono ?_
          rintro e w11 ⟨rfl, hb11⟩
          have HM11 := Lib.hid ((hb11.block _ (lt_of_block HM10.out)).trans HM10.out)
          have HZ11 := Lib.hid ((hb11.block _ (lt_of_block HZZ.out)).trans HZZ.out)
          have HE11 : Hid (Below w.heap.size w w11) := HEE.out.trans (hb11.mono HEE.out.size)
          have HO11 := Lib.hid (own_up HO10.out hb11)
          clear hb11 HM10 HZZ HG10 HEE HO10 HP10 HCF c10
          have HZZ := HZ11
          have HEE := HE11
          clear HZ11 HE11
          cases hnz : (Q.drop n).any (fun p => !freeP p) with
          | true =>
            have HMN : Hid (metaN n L = none) := by show _ = _; rw [HMN1.out, hnz]; rfl
            clear hnz
            go_wp2_with (first
              | (refine wpList_store_row rfl 52 (.tmp 4) (.tmp 75) rfl (w.heap.size + 1) (mtA 0 zeroR (.slice none 0 0)) rfl rfl 52 _ HZZ.out (by rw [meta18]; rfl) rfl (mtA_one _ _ _ _ _) ?_)
              | fail)
            refine bodyPost_ret (results_row_tmp rfl _ _ (w.heap.size + 1) _ (mtA 0 zeroR (.slice none 0 0)) (0, 0) _ rfl (setRow_heap _ _ _ _ _ _ HZZ.out) Try.underlying52 rfl (by rw [meta18]; rfl)) rfl ?_
            exact ⟨by unfold MParse; rw [HMN.out]; rfl, below_setRow HEE.out (by omega) _⟩
          | false =>
            have HMN : Hid (metaN n L = some (x, R, Q.take n)) := by show _ = _; rw [HMN1.out, hnz]; rfl
            clear hnz
            go_wp2_with (first
              | (refine wpList_load_row rfl 52 (.tmp 13) rfl b7 rfl _ _ _ _ HM11.out Try.underlying52 rfl (by rw [meta18, mtA_size, H16.out]) ?_)
              | (refine wpList_store_row rfl 52 (.tmp 4) (.tmp 76) rfl (w.heap.size + 1) (mtA x R (.slice a6 n c6)) rfl rfl 52 _ HZZ.out (by rw [meta18, mtA_size, H16.out]) (by simp [mtA_size, H16.out, zeroR]) (mtA_one _ _ _ _ _) ?_)
              | fail)
            refine bodyPost_ret (results_row_tmp rfl _ _ (w.heap.size + 1) _ (mtA x R (.slice a6 n c6)) (0, 0) _ rfl (setRow_heap _ _ _ _ _ _ HZZ.out) Try.underlying52 rfl (by rw [meta18, mtA_size, H16.out])) rfl ?_
            refine ⟨?_, below_setRow HEE.out (by omega) _⟩
            unfold MParse
            rw [HMN.out]
            refine ⟨a6, c6, rfl, own_keep (own_mono HO11.out ?_) (fun q hq => setRow_other _ _ _ _ ?_)⟩
            · have := HBL.out; omega
            · have h9 := (HO11.out.lt q hq).1
              have := HBL.out
              omega
end Go.Proofs.Ytpbmjfjnmcpieaa
