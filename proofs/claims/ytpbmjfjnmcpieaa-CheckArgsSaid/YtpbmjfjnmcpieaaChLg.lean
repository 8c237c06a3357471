/- check.Blocks: its two regions that draw their order. Printed by gen_chl.py. -/
import Derived.Test.YtpbmjfjnmcpieaaChLf
import Derived.Test.YtpbmjfjnmcpieaaLate
set_option linter.unusedVariables false
set_option linter.unusedSimpArgs false
namespace Go.Proofs.Ytpbmjfjnmcpieaa
open Go Go.RowKit
def opsBP : {o : Array Oper // some o = (Try.f6.body.bind (Fre.findR 5))} := ⟨_, rfl⟩
theorem fitBP : Fre.fit .any opsBP.1 69 = true := by kernel_rfl
theorem sizeBP : opsBP.1.size = 11 := by kernel_rfl
theorem tailBP : Fre.lateFit .any opsBP.1 9 7 = true := by kernel_rfl
def VBP (gb g o k cap n x fi : Nat) (t : Int) (R : List Nat) (P : List Pg) (L : List (List Nat)) (B : Nat) (i : Nat) (v : Value) (w : World) : Prop := match i with
  | 0 => v = .agg #[.int .i64 (n : Int), .int .i64 t]
  | 1 => v = .slice (some ⟨g, o, none⟩) k cap
  | 2 => v = .int .i64 ((fi : Nat) : Int)
  | 3 => v = .slice (some ⟨g, o, none⟩) fi cap
  | 4 => ∃ a c, v = .tuple #[.agg (mtA x R (.slice a n c)), .int .i64 0] ∧ w.ownsRow B 81 5 (.slice a n c) n (cellsP P)
  | 5 => ∃ a c, v = .tuple #[.agg (mtA x R (.slice a n c)), .int .i64 0] ∧ w.ownsRow B 81 5 (.slice a n c) n (cellsP P)
  | 6 => ∃ a c, v = .agg (mtA x R (.slice a n c)) ∧ w.ownsRow B 81 5 (.slice a n c) n (cellsP P)
  | 7 => v = .int .i64 0
  | 8 => ∃ b, v = .pointer (some ⟨b, 0, none⟩) ∧ B ≤ b ∧ w.heap[b]? = some (.cells #[.int .u64 0, .int .u64 0, .int .u64 0, .int .u64 0, .int .u64 0, .int .u64 0, .int .u64 0, .int .u64 0, .int .u64 0, .int .u64 0, .int .u64 0, .int .u64 0, .int .u64 0, .int .u64 0, .int .u64 0, .int .u64 0, .int .u64 0, .slice none 0 0] 52 (0, 0))
  | _ => True
set_option maxRecDepth 100000 in
theorem stBP_0 {u0 u3 u4 u5 u6 u8 u9 u10 u11 u12 u13 u14 u15 u16 u17 u18 u19 u20 u21 u22 u23 u24 u25 u26 u27 u28 u29 u30 u31 u32 u33 u34 u35 u36 u37 u38 u39 u40 u41 u42 u43 u44 u45 u46 u47 u48 u49 u50 u51 u52 u53 u54 u55 u56 u57 u58 u59 u60 u61 u62 u63 u64 u65 u66 u67 u68 : Value} (gb g o k cap n x fi : Nat) (t : Int) (R : List Nat) (P : List Pg) (L : List (List Nat)) (B : Nat) (w0 : World) (h0 : w0.heap[gb]? = some (.cells #[.int .i64 (n : Int), .int .i64 t] 23 (0, 0))) (hg : geoB n t = true) (hL : L.length = k) (hfi : fi = 1 + mapsN n) (hk : fi ≤ k) (hcap : k ≤ cap) (h256 : ∀ l ∈ L, l.length = 256) (hR : RowsAt w0 (some ⟨g, o, none⟩) L) (hm : metaN n (L.take fi) = some (x, R, P)) (hB : B ≤ w0.heap.size) : Fre.StepB Try.prog opsBP.1 ⟨#[u0, .slice (some ⟨g, o, none⟩) k cap, .pointer (some ⟨gb, 0, none⟩), u3, u4, u5, u6, .int .i64 ((fi : Nat) : Int), u8, u9, u10, u11, u12, u13, u14, u15, u16, u17, u18, u19, u20, u21, u22, u23, u24, u25, u26, u27, u28, u29, u30, u31, u32, u33, u34, u35, u36, u37, u38, u39, u40, u41, u42, u43, u44, u45, u46, u47, u48, u49, u50, u51, u52, u53, u54, u55, u56, u57, u58, u59, u60, u61, u62, u63, u64, u65, u66, u67, u68], []⟩ w0 (VBP gb g o k cap n x fi t R P L B) Fre.Kept 0 := by
  intro E w hc hf hE hV hN hS o ho
  obtain rfl := Option.some.inj ho
  clear ho
  simp only [opsBP, List.getElem_toArray, List.getElem_cons_succ, List.getElem_cons_zero]
  have b2 : E (.tmp 2) = .pointer (some ⟨gb, 0, none⟩) := hE 2 (by kernel_rfl)
  have hb := (hS.block gb (lt_of_block h0)).trans h0
  have hr := run_loadVar_row w gb _ 23 #[.int .i64 (n : Int), .int .i64 t] _ _ hb Try.underlying23 rfl (by rw [geo2]; rfl)
  refine Fre.Does.value (v := .agg #[.int .i64 (n : Int), .int .i64 t]) (w' := w) ?_ ⟨rfl, Fre.Kept.refl _⟩
  unfold execOp
  simp only [b2, Instr.loadAt, Instr.sureAddr, Sem.run_bind, Sem.run_pure, Result.andThen_ok, hr]
set_option maxRecDepth 100000 in
theorem stBP_1 {u0 u3 u4 u5 u6 u8 u9 u10 u11 u12 u13 u14 u15 u16 u17 u18 u19 u20 u21 u22 u23 u24 u25 u26 u27 u28 u29 u30 u31 u32 u33 u34 u35 u36 u37 u38 u39 u40 u41 u42 u43 u44 u45 u46 u47 u48 u49 u50 u51 u52 u53 u54 u55 u56 u57 u58 u59 u60 u61 u62 u63 u64 u65 u66 u67 u68 : Value} (gb g o k cap n x fi : Nat) (t : Int) (R : List Nat) (P : List Pg) (L : List (List Nat)) (B : Nat) (w0 : World) (h0 : w0.heap[gb]? = some (.cells #[.int .i64 (n : Int), .int .i64 t] 23 (0, 0))) (hg : geoB n t = true) (hL : L.length = k) (hfi : fi = 1 + mapsN n) (hk : fi ≤ k) (hcap : k ≤ cap) (h256 : ∀ l ∈ L, l.length = 256) (hR : RowsAt w0 (some ⟨g, o, none⟩) L) (hm : metaN n (L.take fi) = some (x, R, P)) (hB : B ≤ w0.heap.size) : Fre.StepB Try.prog opsBP.1 ⟨#[u0, .slice (some ⟨g, o, none⟩) k cap, .pointer (some ⟨gb, 0, none⟩), u3, u4, u5, u6, .int .i64 ((fi : Nat) : Int), u8, u9, u10, u11, u12, u13, u14, u15, u16, u17, u18, u19, u20, u21, u22, u23, u24, u25, u26, u27, u28, u29, u30, u31, u32, u33, u34, u35, u36, u37, u38, u39, u40, u41, u42, u43, u44, u45, u46, u47, u48, u49, u50, u51, u52, u53, u54, u55, u56, u57, u58, u59, u60, u61, u62, u63, u64, u65, u66, u67, u68], []⟩ w0 (VBP gb g o k cap n x fi t R P L B) Fre.Kept 1 := by
  intro E w hc hf hE hV hN hS o ho
  obtain rfl := Option.some.inj ho
  clear ho
  simp only [opsBP, List.getElem_toArray, List.getElem_cons_succ, List.getElem_cons_zero]
  have b1 : E (.tmp 1) = .slice (some ⟨g, o, none⟩) k cap := hE 1 (by kernel_rfl)
  refine Fre.Does.value (v := .slice (some ⟨g, o, none⟩) k cap) (w' := w) ?_ ⟨rfl, Fre.Kept.refl _⟩
  go_simp
set_option maxRecDepth 100000 in
theorem stBP_2 {u0 u3 u4 u5 u6 u8 u9 u10 u11 u12 u13 u14 u15 u16 u17 u18 u19 u20 u21 u22 u23 u24 u25 u26 u27 u28 u29 u30 u31 u32 u33 u34 u35 u36 u37 u38 u39 u40 u41 u42 u43 u44 u45 u46 u47 u48 u49 u50 u51 u52 u53 u54 u55 u56 u57 u58 u59 u60 u61 u62 u63 u64 u65 u66 u67 u68 : Value} (gb g o k cap n x fi : Nat) (t : Int) (R : List Nat) (P : List Pg) (L : List (List Nat)) (B : Nat) (w0 : World) (h0 : w0.heap[gb]? = some (.cells #[.int .i64 (n : Int), .int .i64 t] 23 (0, 0))) (hg : geoB n t = true) (hL : L.length = k) (hfi : fi = 1 + mapsN n) (hk : fi ≤ k) (hcap : k ≤ cap) (h256 : ∀ l ∈ L, l.length = 256) (hR : RowsAt w0 (some ⟨g, o, none⟩) L) (hm : metaN n (L.take fi) = some (x, R, P)) (hB : B ≤ w0.heap.size) : Fre.StepB Try.prog opsBP.1 ⟨#[u0, .slice (some ⟨g, o, none⟩) k cap, .pointer (some ⟨gb, 0, none⟩), u3, u4, u5, u6, .int .i64 ((fi : Nat) : Int), u8, u9, u10, u11, u12, u13, u14, u15, u16, u17, u18, u19, u20, u21, u22, u23, u24, u25, u26, u27, u28, u29, u30, u31, u32, u33, u34, u35, u36, u37, u38, u39, u40, u41, u42, u43, u44, u45, u46, u47, u48, u49, u50, u51, u52, u53, u54, u55, u56, u57, u58, u59, u60, u61, u62, u63, u64, u65, u66, u67, u68], []⟩ w0 (VBP gb g o k cap n x fi t R P L B) Fre.Kept 2 := by
  intro E w hc hf hE hV hN hS o ho
  obtain rfl := Option.some.inj ho
  clear ho
  simp only [opsBP, List.getElem_toArray, List.getElem_cons_succ, List.getElem_cons_zero]
  have b7 : E (.tmp 7) = .int .i64 ((fi : Nat) : Int) := hE 7 (by kernel_rfl)
  refine Fre.Does.value (v := .int .i64 ((fi : Nat) : Int)) (w' := w) ?_ ⟨rfl, Fre.Kept.refl _⟩
  go_simp
set_option maxRecDepth 100000 in
theorem stBP_3 {u0 u3 u4 u5 u6 u8 u9 u10 u11 u12 u13 u14 u15 u16 u17 u18 u19 u20 u21 u22 u23 u24 u25 u26 u27 u28 u29 u30 u31 u32 u33 u34 u35 u36 u37 u38 u39 u40 u41 u42 u43 u44 u45 u46 u47 u48 u49 u50 u51 u52 u53 u54 u55 u56 u57 u58 u59 u60 u61 u62 u63 u64 u65 u66 u67 u68 : Value} (gb g o k cap n x fi : Nat) (t : Int) (R : List Nat) (P : List Pg) (L : List (List Nat)) (B : Nat) (w0 : World) (h0 : w0.heap[gb]? = some (.cells #[.int .i64 (n : Int), .int .i64 t] 23 (0, 0))) (hg : geoB n t = true) (hL : L.length = k) (hfi : fi = 1 + mapsN n) (hk : fi ≤ k) (hcap : k ≤ cap) (h256 : ∀ l ∈ L, l.length = 256) (hR : RowsAt w0 (some ⟨g, o, none⟩) L) (hm : metaN n (L.take fi) = some (x, R, P)) (hB : B ≤ w0.heap.size) : Fre.StepB Try.prog opsBP.1 ⟨#[u0, .slice (some ⟨g, o, none⟩) k cap, .pointer (some ⟨gb, 0, none⟩), u3, u4, u5, u6, .int .i64 ((fi : Nat) : Int), u8, u9, u10, u11, u12, u13, u14, u15, u16, u17, u18, u19, u20, u21, u22, u23, u24, u25, u26, u27, u28, u29, u30, u31, u32, u33, u34, u35, u36, u37, u38, u39, u40, u41, u42, u43, u44, u45, u46, u47, u48, u49, u50, u51, u52, u53, u54, u55, u56, u57, u58, u59, u60, u61, u62, u63, u64, u65, u66, u67, u68], []⟩ w0 (VBP gb g o k cap n x fi t R P L B) Fre.Kept 3 := by
  intro E w hc hf hE hV hN hS o ho
  obtain rfl := Option.some.inj ho
  clear ho
  simp only [opsBP, List.getElem_toArray, List.getElem_cons_succ, List.getElem_cons_zero]
  have d1 := hV 1 32 (by kernel_rfl) (by kernel_rfl)
  have d1 : E (.tmp 32) = .slice (some ⟨g, o, none⟩) k cap := d1
  have d2 := hV 2 33 (by kernel_rfl) (by kernel_rfl)
  have d2 : E (.tmp 33) = .int .i64 ((fi : Nat) : Int) := d2
  have hr := run_subRh g o k cap fi (by omega) w
  refine Fre.Does.value (v := .slice (some ⟨g, o, none⟩) fi cap) (w' := w) ?_ ⟨rfl, Fre.Kept.refl _⟩
  unfold execOp
  simp only [d1, d2, Option.map_some, Option.map_none, Sem.run_bind, hr, Result.andThen_ok]
  rfl
set_option maxRecDepth 100000 in
theorem stBP_4 {u0 u3 u4 u5 u6 u8 u9 u10 u11 u12 u13 u14 u15 u16 u17 u18 u19 u20 u21 u22 u23 u24 u25 u26 u27 u28 u29 u30 u31 u32 u33 u34 u35 u36 u37 u38 u39 u40 u41 u42 u43 u44 u45 u46 u47 u48 u49 u50 u51 u52 u53 u54 u55 u56 u57 u58 u59 u60 u61 u62 u63 u64 u65 u66 u67 u68 : Value} (gb g o k cap n x fi : Nat) (t : Int) (R : List Nat) (P : List Pg) (L : List (List Nat)) (B : Nat) (w0 : World) (h0 : w0.heap[gb]? = some (.cells #[.int .i64 (n : Int), .int .i64 t] 23 (0, 0))) (hg : geoB n t = true) (hL : L.length = k) (hfi : fi = 1 + mapsN n) (hk : fi ≤ k) (hcap : k ≤ cap) (h256 : ∀ l ∈ L, l.length = 256) (hR : RowsAt w0 (some ⟨g, o, none⟩) L) (hm : metaN n (L.take fi) = some (x, R, P)) (hB : B ≤ w0.heap.size) : Fre.StepB Try.prog opsBP.1 ⟨#[u0, .slice (some ⟨g, o, none⟩) k cap, .pointer (some ⟨gb, 0, none⟩), u3, u4, u5, u6, .int .i64 ((fi : Nat) : Int), u8, u9, u10, u11, u12, u13, u14, u15, u16, u17, u18, u19, u20, u21, u22, u23, u24, u25, u26, u27, u28, u29, u30, u31, u32, u33, u34, u35, u36, u37, u38, u39, u40, u41, u42, u43, u44, u45, u46, u47, u48, u49, u50, u51, u52, u53, u54, u55, u56, u57, u58, u59, u60, u61, u62, u63, u64, u65, u66, u67, u68], []⟩ w0 (VBP gb g o k cap n x fi t R P L B) Fre.Kept 4 := by
  intro E w hc hf hE hV hN hS o ho
  obtain rfl := Option.some.inj ho
  clear ho
  simp only [opsBP, List.getElem_toArray, List.getElem_cons_succ, List.getElem_cons_zero]
  have d0 := hV 0 31 (by kernel_rfl) (by kernel_rfl)
  have d0 : E (.tmp 31) = .agg #[.int .i64 (n : Int), .int .i64 t] := d0
  have d3 := hV 3 34 (by kernel_rfl) (by kernel_rfl)
  have d3 : E (.tmp 34) = .slice (some ⟨g, o, none⟩) fi cap := d3
  refine Fre.Does.enter (f := 16) (args := #[.agg #[.int .i64 (n : Int), .int .i64 t], .slice (some ⟨g, o, none⟩) fi cap]) (w' := w) ?_ ((mparse_c n t hg g o fi cap (L.take fi) (by rw [List.length_take]; omega) hfi (by omega) (fun l hl => h256 l (List.mem_of_mem_take hl)) w ((hR.take _).up hS (Nat.le_refl _))).mono ?_)
  · go_simp
  · rintro e w' ⟨hp, hk'⟩
    unfold MParse at hp
    rw [hm] at hp
    obtain ⟨a, c, rfl, hown⟩ := hp
    exact ⟨_, rfl, ⟨a, c, rfl, own_mono hown (Nat.le_trans hB hS.size)⟩, hk'⟩
set_option maxRecDepth 100000 in
theorem stBP_5 {u0 u3 u4 u5 u6 u8 u9 u10 u11 u12 u13 u14 u15 u16 u17 u18 u19 u20 u21 u22 u23 u24 u25 u26 u27 u28 u29 u30 u31 u32 u33 u34 u35 u36 u37 u38 u39 u40 u41 u42 u43 u44 u45 u46 u47 u48 u49 u50 u51 u52 u53 u54 u55 u56 u57 u58 u59 u60 u61 u62 u63 u64 u65 u66 u67 u68 : Value} (gb g o k cap n x fi : Nat) (t : Int) (R : List Nat) (P : List Pg) (L : List (List Nat)) (B : Nat) (w0 : World) (h0 : w0.heap[gb]? = some (.cells #[.int .i64 (n : Int), .int .i64 t] 23 (0, 0))) (hg : geoB n t = true) (hL : L.length = k) (hfi : fi = 1 + mapsN n) (hk : fi ≤ k) (hcap : k ≤ cap) (h256 : ∀ l ∈ L, l.length = 256) (hR : RowsAt w0 (some ⟨g, o, none⟩) L) (hm : metaN n (L.take fi) = some (x, R, P)) (hB : B ≤ w0.heap.size) : Fre.StepB Try.prog opsBP.1 ⟨#[u0, .slice (some ⟨g, o, none⟩) k cap, .pointer (some ⟨gb, 0, none⟩), u3, u4, u5, u6, .int .i64 ((fi : Nat) : Int), u8, u9, u10, u11, u12, u13, u14, u15, u16, u17, u18, u19, u20, u21, u22, u23, u24, u25, u26, u27, u28, u29, u30, u31, u32, u33, u34, u35, u36, u37, u38, u39, u40, u41, u42, u43, u44, u45, u46, u47, u48, u49, u50, u51, u52, u53, u54, u55, u56, u57, u58, u59, u60, u61, u62, u63, u64, u65, u66, u67, u68], []⟩ w0 (VBP gb g o k cap n x fi t R P L B) Fre.Kept 5 := by
  intro E w hc hf hE hV hN hS o ho
  obtain rfl := Option.some.inj ho
  clear ho
  simp only [opsBP, List.getElem_toArray, List.getElem_cons_succ, List.getElem_cons_zero]
  have d4 := hV 4 35 (by kernel_rfl) (by kernel_rfl)
  replace d4 : (fun v : Value => ∃ a c, v = .tuple #[.agg (mtA x R (.slice a n c)), .int .i64 0] ∧ w.ownsRow B 81 5 (.slice a n c) n (cellsP P)) (E (.tmp 35)) := d4
  simp only at d4
  refine Fre.Does.value (v := E (.tmp 35)) (w' := w) ?_ ⟨d4, Fre.Kept.refl _⟩
  go_simp
set_option maxRecDepth 100000 in
theorem stBP_6 {u0 u3 u4 u5 u6 u8 u9 u10 u11 u12 u13 u14 u15 u16 u17 u18 u19 u20 u21 u22 u23 u24 u25 u26 u27 u28 u29 u30 u31 u32 u33 u34 u35 u36 u37 u38 u39 u40 u41 u42 u43 u44 u45 u46 u47 u48 u49 u50 u51 u52 u53 u54 u55 u56 u57 u58 u59 u60 u61 u62 u63 u64 u65 u66 u67 u68 : Value} (gb g o k cap n x fi : Nat) (t : Int) (R : List Nat) (P : List Pg) (L : List (List Nat)) (B : Nat) (w0 : World) (h0 : w0.heap[gb]? = some (.cells #[.int .i64 (n : Int), .int .i64 t] 23 (0, 0))) (hg : geoB n t = true) (hL : L.length = k) (hfi : fi = 1 + mapsN n) (hk : fi ≤ k) (hcap : k ≤ cap) (h256 : ∀ l ∈ L, l.length = 256) (hR : RowsAt w0 (some ⟨g, o, none⟩) L) (hm : metaN n (L.take fi) = some (x, R, P)) (hB : B ≤ w0.heap.size) : Fre.StepB Try.prog opsBP.1 ⟨#[u0, .slice (some ⟨g, o, none⟩) k cap, .pointer (some ⟨gb, 0, none⟩), u3, u4, u5, u6, .int .i64 ((fi : Nat) : Int), u8, u9, u10, u11, u12, u13, u14, u15, u16, u17, u18, u19, u20, u21, u22, u23, u24, u25, u26, u27, u28, u29, u30, u31, u32, u33, u34, u35, u36, u37, u38, u39, u40, u41, u42, u43, u44, u45, u46, u47, u48, u49, u50, u51, u52, u53, u54, u55, u56, u57, u58, u59, u60, u61, u62, u63, u64, u65, u66, u67, u68], []⟩ w0 (VBP gb g o k cap n x fi t R P L B) Fre.Kept 6 := by
  intro E w hc hf hE hV hN hS o ho
  obtain rfl := Option.some.inj ho
  clear ho
  simp only [opsBP, List.getElem_toArray, List.getElem_cons_succ, List.getElem_cons_zero]
  have d5 := hV 5 30 (by kernel_rfl) (by kernel_rfl)
  replace d5 : (fun v : Value => ∃ a c, v = .tuple #[.agg (mtA x R (.slice a n c)), .int .i64 0] ∧ w.ownsRow B 81 5 (.slice a n c) n (cellsP P)) (E (.tmp 30)) := d5
  simp only at d5
  obtain ⟨a, c, e, f⟩ := d5
  refine Fre.Does.value (v := .agg (mtA x R (.slice a n c))) (w' := w) ?_ ⟨⟨a, c, rfl, f⟩, Fre.Kept.refl _⟩
  unfold execOp
  simp only [e]
  go_simp
set_option maxRecDepth 100000 in
theorem stBP_7 {u0 u3 u4 u5 u6 u8 u9 u10 u11 u12 u13 u14 u15 u16 u17 u18 u19 u20 u21 u22 u23 u24 u25 u26 u27 u28 u29 u30 u31 u32 u33 u34 u35 u36 u37 u38 u39 u40 u41 u42 u43 u44 u45 u46 u47 u48 u49 u50 u51 u52 u53 u54 u55 u56 u57 u58 u59 u60 u61 u62 u63 u64 u65 u66 u67 u68 : Value} (gb g o k cap n x fi : Nat) (t : Int) (R : List Nat) (P : List Pg) (L : List (List Nat)) (B : Nat) (w0 : World) (h0 : w0.heap[gb]? = some (.cells #[.int .i64 (n : Int), .int .i64 t] 23 (0, 0))) (hg : geoB n t = true) (hL : L.length = k) (hfi : fi = 1 + mapsN n) (hk : fi ≤ k) (hcap : k ≤ cap) (h256 : ∀ l ∈ L, l.length = 256) (hR : RowsAt w0 (some ⟨g, o, none⟩) L) (hm : metaN n (L.take fi) = some (x, R, P)) (hB : B ≤ w0.heap.size) : Fre.StepB Try.prog opsBP.1 ⟨#[u0, .slice (some ⟨g, o, none⟩) k cap, .pointer (some ⟨gb, 0, none⟩), u3, u4, u5, u6, .int .i64 ((fi : Nat) : Int), u8, u9, u10, u11, u12, u13, u14, u15, u16, u17, u18, u19, u20, u21, u22, u23, u24, u25, u26, u27, u28, u29, u30, u31, u32, u33, u34, u35, u36, u37, u38, u39, u40, u41, u42, u43, u44, u45, u46, u47, u48, u49, u50, u51, u52, u53, u54, u55, u56, u57, u58, u59, u60, u61, u62, u63, u64, u65, u66, u67, u68], []⟩ w0 (VBP gb g o k cap n x fi t R P L B) Fre.Kept 7 := by
  intro E w hc hf hE hV hN hS o ho
  obtain rfl := Option.some.inj ho
  clear ho
  simp only [opsBP, List.getElem_toArray, List.getElem_cons_succ, List.getElem_cons_zero]
  have d5 := hV 5 30 (by kernel_rfl) (by kernel_rfl)
  replace d5 : (fun v : Value => ∃ a c, v = .tuple #[.agg (mtA x R (.slice a n c)), .int .i64 0] ∧ w.ownsRow B 81 5 (.slice a n c) n (cellsP P)) (E (.tmp 30)) := d5
  simp only at d5
  obtain ⟨a, c, e, f⟩ := d5
  refine Fre.Does.value (v := .int .i64 0) (w' := w) ?_ ⟨rfl, Fre.Kept.refl _⟩
  unfold execOp
  simp only [e]
  go_simp
set_option maxRecDepth 100000 in
theorem stBP_8 {u0 u3 u4 u5 u6 u8 u9 u10 u11 u12 u13 u14 u15 u16 u17 u18 u19 u20 u21 u22 u23 u24 u25 u26 u27 u28 u29 u30 u31 u32 u33 u34 u35 u36 u37 u38 u39 u40 u41 u42 u43 u44 u45 u46 u47 u48 u49 u50 u51 u52 u53 u54 u55 u56 u57 u58 u59 u60 u61 u62 u63 u64 u65 u66 u67 u68 : Value} (gb g o k cap n x fi : Nat) (t : Int) (R : List Nat) (P : List Pg) (L : List (List Nat)) (B : Nat) (w0 : World) (h0 : w0.heap[gb]? = some (.cells #[.int .i64 (n : Int), .int .i64 t] 23 (0, 0))) (hg : geoB n t = true) (hL : L.length = k) (hfi : fi = 1 + mapsN n) (hk : fi ≤ k) (hcap : k ≤ cap) (h256 : ∀ l ∈ L, l.length = 256) (hR : RowsAt w0 (some ⟨g, o, none⟩) L) (hm : metaN n (L.take fi) = some (x, R, P)) (hB : B ≤ w0.heap.size) : Fre.StepB Try.prog opsBP.1 ⟨#[u0, .slice (some ⟨g, o, none⟩) k cap, .pointer (some ⟨gb, 0, none⟩), u3, u4, u5, u6, .int .i64 ((fi : Nat) : Int), u8, u9, u10, u11, u12, u13, u14, u15, u16, u17, u18, u19, u20, u21, u22, u23, u24, u25, u26, u27, u28, u29, u30, u31, u32, u33, u34, u35, u36, u37, u38, u39, u40, u41, u42, u43, u44, u45, u46, u47, u48, u49, u50, u51, u52, u53, u54, u55, u56, u57, u58, u59, u60, u61, u62, u63, u64, u65, u66, u67, u68], []⟩ w0 (VBP gb g o k cap n x fi t R P L B) Fre.Kept 8 := by
  intro E w hc hf hE hV hN hS o ho
  obtain rfl := Option.some.inj ho
  clear ho
  simp only [opsBP, List.getElem_toArray, List.getElem_cons_succ, List.getElem_cons_zero]
  refine Fre.Does.value (v := .pointer (some ⟨w.heap.size, 0, none⟩)) (w' := w.alloc (.cells #[.int .u64 0, .int .u64 0, .int .u64 0, .int .u64 0, .int .u64 0, .int .u64 0, .int .u64 0, .int .u64 0, .int .u64 0, .int .u64 0, .int .u64 0, .int .u64 0, .int .u64 0, .int .u64 0, .int .u64 0, .int .u64 0, .int .u64 0, .slice none 0 0] 52)) ?_ ⟨⟨_, rfl, Nat.le_trans hB hS.size, heap_new' _ _⟩, below_box _ _⟩
  go_simp
theorem kpBP (gb g o k cap n x fi : Nat) (t : Int) (R : List Nat) (P : List Pg) (L : List (List Nat)) (B : Nat) : ∀ j v w w', j < 9 → VBP gb g o k cap n x fi t R P L B j v w → Fre.Kept w w' → VBP gb g o k cap n x fi t R P L B j v w' := by
  intro j v w w' hj h hs
  have hc : j = 0 ∨ j = 1 ∨ j = 2 ∨ j = 3 ∨ j = 4 ∨ j = 5 ∨ j = 6 ∨ j = 7 ∨ j = 8 := by omega
  rcases hc with rfl | rfl | rfl | rfl | rfl | rfl | rfl | rfl | rfl
  · exact h
  · exact h
  · exact h
  · exact h
  · change ∃ a c, v = .tuple #[.agg (mtA x R (.slice a n c)), .int .i64 0] ∧ w.ownsRow B 81 5 (.slice a n c) n (cellsP P) at h
    obtain ⟨a, c, h1, h2⟩ := h
    exact ⟨a, c, h1, own_up h2 hs⟩
  · change ∃ a c, v = .tuple #[.agg (mtA x R (.slice a n c)), .int .i64 0] ∧ w.ownsRow B 81 5 (.slice a n c) n (cellsP P) at h
    obtain ⟨a, c, h1, h2⟩ := h
    exact ⟨a, c, h1, own_up h2 hs⟩
  · change ∃ a c, v = .agg (mtA x R (.slice a n c)) ∧ w.ownsRow B 81 5 (.slice a n c) n (cellsP P) at h
    obtain ⟨a, c, h1, h2⟩ := h
    exact ⟨a, c, h1, own_up h2 hs⟩
  · exact h
  · change ∃ b, v = .pointer (some ⟨b, 0, none⟩) ∧ B ≤ b ∧ w.heap[b]? = some (.cells #[.int .u64 0, .int .u64 0, .int .u64 0, .int .u64 0, .int .u64 0, .int .u64 0, .int .u64 0, .int .u64 0, .int .u64 0, .int .u64 0, .int .u64 0, .int .u64 0, .int .u64 0, .int .u64 0, .int .u64 0, .int .u64 0, .int .u64 0, .slice none 0 0] 52 (0, 0)) at h
    obtain ⟨b, h1, h2, h3⟩ := h
    exact ⟨b, h1, h2, (hs.block _ (lt_of_block h3)).trans h3⟩
set_option maxRecDepth 100000 in
theorem finBP {u0 u3 u4 u5 u6 u8 u9 u10 u11 u12 u13 u14 u15 u16 u17 u18 u19 u20 u21 u22 u23 u24 u25 u26 u27 u28 u29 u30 u31 u32 u33 u34 u35 u36 u37 u38 u39 u40 u41 u42 u43 u44 u45 u46 u47 u48 u49 u50 u51 u52 u53 u54 u55 u56 u57 u58 u59 u60 u61 u62 u63 u64 u65 u66 u67 u68 : Value} (gb g o k cap n x fi : Nat) (t : Int) (R : List Nat) (P : List Pg) (L : List (List Nat)) (B : Nat) (vs : Nat → Value) : Fre.finT opsBP.1 vs #[u0, .slice (some ⟨g, o, none⟩) k cap, .pointer (some ⟨gb, 0, none⟩), u3, u4, u5, u6, .int .i64 ((fi : Nat) : Int), u8, u9, u10, u11, u12, u13, u14, u15, u16, u17, u18, u19, u20, u21, u22, u23, u24, u25, u26, u27, u28, u29, u30, u31, u32, u33, u34, u35, u36, u37, u38, u39, u40, u41, u42, u43, u44, u45, u46, u47, u48, u49, u50, u51, u52, u53, u54, u55, u56, u57, u58, u59, u60, u61, u62, u63, u64, u65, u66, u67, u68] 9 = #[u0, .slice (some ⟨g, o, none⟩) k cap, .pointer (some ⟨gb, 0, none⟩), u3, u4, u5, u6, .int .i64 ((fi : Nat) : Int), vs 8, u9, u10, u11, u12, u13, u14, u15, u16, u17, u18, u19, u20, u21, u22, u23, u24, u25, u26, u27, u28, u29, vs 5, vs 0, vs 1, vs 2, vs 3, vs 4, vs 6, vs 7, u38, u39, u40, u41, u42, u43, u44, u45, u46, u47, u48, u49, u50, u51, u52, u53, u54, u55, u56, u57, u58, u59, u60, u61, u62, u63, u64, u65, u66, u67, u68] := by kernel_rfl
set_option maxRecDepth 100000 in
set_option maxHeartbeats 400000 in
theorem regionBP {u0 u3 u4 u5 u6 u8 u9 u10 u11 u12 u13 u14 u15 u16 u17 u18 u19 u20 u21 u22 u23 u24 u25 u26 u27 u28 u29 u30 u31 u32 u33 u34 u35 u36 u37 u38 u39 u40 u41 u42 u43 u44 u45 u46 u47 u48 u49 u50 u51 u52 u53 u54 u55 u56 u57 u58 u59 u60 u61 u62 u63 u64 u65 u66 u67 u68 : Value} (gb g o k cap n x fi : Nat) (t : Int) (R : List Nat) (P : List Pg) (L : List (List Nat)) (B : Nat) (w0 : World) (h0 : w0.heap[gb]? = some (.cells #[.int .i64 (n : Int), .int .i64 t] 23 (0, 0))) (hg : geoB n t = true) (hL : L.length = k) (hfi : fi = 1 + mapsN n) (hk : fi ≤ k) (hcap : k ≤ cap) (h256 : ∀ l ∈ L, l.length = 256) (hR : RowsAt w0 (some ⟨g, o, none⟩) L) (hm : metaN n (L.take fi) = some (x, R, P)) (hB : B ≤ w0.heap.size) {QQ : Exit → Act → World → Prop} (hQ : ∀ (vs : Nat → Value) w, (∀ j, j < 9 → VBP gb g o k cap n x fi t R P L B j (vs j) w) → Fre.Kept w0 w → wpList Try.prog opsBP.1 QQ (opsBP.1.toList.drop 9) ⟨#[u0, .slice (some ⟨g, o, none⟩) k cap, .pointer (some ⟨gb, 0, none⟩), u3, u4, u5, u6, .int .i64 ((fi : Nat) : Int), vs 8, u9, u10, u11, u12, u13, u14, u15, u16, u17, u18, u19, u20, u21, u22, u23, u24, u25, u26, u27, u28, u29, vs 5, vs 0, vs 1, vs 2, vs 3, vs 4, vs 6, vs 7, u38, u39, u40, u41, u42, u43, u44, u45, u46, u47, u48, u49, u50, u51, u52, u53, u54, u55, u56, u57, u58, u59, u60, u61, u62, u63, u64, u65, u66, u67, u68], []⟩ w) (hQ2 : ∀ (vs : Nat → Value) w, (∀ j, j < 9 → j ≠ 7 → VBP gb g o k cap n x fi t R P L B j (vs j) w) → Fre.Kept w0 w → wpList Try.prog opsBP.1 QQ (opsBP.1[9]'(by rw [sizeBP]; omega) :: opsBP.1[7]'(by rw [sizeBP]; omega) :: opsBP.1.toList.drop 10) ⟨#[u0, .slice (some ⟨g, o, none⟩) k cap, .pointer (some ⟨gb, 0, none⟩), u3, u4, u5, u6, .int .i64 ((fi : Nat) : Int), vs 8, u9, u10, u11, u12, u13, u14, u15, u16, u17, u18, u19, u20, u21, u22, u23, u24, u25, u26, u27, u28, u29, vs 5, vs 0, vs 1, vs 2, vs 3, vs 4, vs 6, u37, u38, u39, u40, u41, u42, u43, u44, u45, u46, u47, u48, u49, u50, u51, u52, u53, u54, u55, u56, u57, u58, u59, u60, u61, u62, u63, u64, u65, u66, u67, u68], []⟩ w) : (Code.region 5 opsBP.1 true).wp Try.prog QQ ⟨#[u0, .slice (some ⟨g, o, none⟩) k cap, .pointer (some ⟨gb, 0, none⟩), u3, u4, u5, u6, .int .i64 ((fi : Nat) : Int), u8, u9, u10, u11, u12, u13, u14, u15, u16, u17, u18, u19, u20, u21, u22, u23, u24, u25, u26, u27, u28, u29, u30, u31, u32, u33, u34, u35, u36, u37, u38, u39, u40, u41, u42, u43, u44, u45, u46, u47, u48, u49, u50, u51, u52, u53, u54, u55, u56, u57, u58, u59, u60, u61, u62, u63, u64, u65, u66, u67, u68], []⟩ w0 := by
  refine Fre.region_late 69 9 7 (by omega) (by rw [sizeBP]; omega) (by kernel_rfl) fitBP rfl tailBP (by rw [sizeBP]; omega) (VBP gb g o k cap n x fi t R P L B) (kpBP gb g o k cap n x fi t R P L B) (fun i hi => ?_) (fun vs w h1 h2 => ?_) (fun vs w h1 h3 h2 => ?_)
  case refine_2 => show wpList _ _ _ _ ⟨Fre.finT opsBP.1 vs #[u0, .slice (some ⟨g, o, none⟩) k cap, .pointer (some ⟨gb, 0, none⟩), u3, u4, u5, u6, .int .i64 ((fi : Nat) : Int), u8, u9, u10, u11, u12, u13, u14, u15, u16, u17, u18, u19, u20, u21, u22, u23, u24, u25, u26, u27, u28, u29, u30, u31, u32, u33, u34, u35, u36, u37, u38, u39, u40, u41, u42, u43, u44, u45, u46, u47, u48, u49, u50, u51, u52, u53, u54, u55, u56, u57, u58, u59, u60, u61, u62, u63, u64, u65, u66, u67, u68] 9, []⟩ w; rw [finBP gb g o k cap n x fi t R P L B vs]; exact hQ vs w h1 h2
  case refine_3 =>
    have e3 : vs 7 = u37 := (Option.some.inj (h3 37 (by kernel_rfl))).symm
    show wpList _ _ _ _ ⟨Fre.finT opsBP.1 vs #[u0, .slice (some ⟨g, o, none⟩) k cap, .pointer (some ⟨gb, 0, none⟩), u3, u4, u5, u6, .int .i64 ((fi : Nat) : Int), u8, u9, u10, u11, u12, u13, u14, u15, u16, u17, u18, u19, u20, u21, u22, u23, u24, u25, u26, u27, u28, u29, u30, u31, u32, u33, u34, u35, u36, u37, u38, u39, u40, u41, u42, u43, u44, u45, u46, u47, u48, u49, u50, u51, u52, u53, u54, u55, u56, u57, u58, u59, u60, u61, u62, u63, u64, u65, u66, u67, u68] 9, []⟩ w; rw [finBP gb g o k cap n x fi t R P L B vs, e3]; exact hQ2 vs w h1 h2
  have hc : i = 0 ∨ i = 1 ∨ i = 2 ∨ i = 3 ∨ i = 4 ∨ i = 5 ∨ i = 6 ∨ i = 7 ∨ i = 8 := by omega
  rcases hc with rfl | rfl | rfl | rfl | rfl | rfl | rfl | rfl | rfl
  · exact stBP_0 gb g o k cap n x fi t R P L B w0 h0 hg hL hfi hk hcap h256 hR hm hB
  · exact stBP_1 gb g o k cap n x fi t R P L B w0 h0 hg hL hfi hk hcap h256 hR hm hB
  · exact stBP_2 gb g o k cap n x fi t R P L B w0 h0 hg hL hfi hk hcap h256 hR hm hB
  · exact stBP_3 gb g o k cap n x fi t R P L B w0 h0 hg hL hfi hk hcap h256 hR hm hB
  · exact stBP_4 gb g o k cap n x fi t R P L B w0 h0 hg hL hfi hk hcap h256 hR hm hB
  · exact stBP_5 gb g o k cap n x fi t R P L B w0 h0 hg hL hfi hk hcap h256 hR hm hB
  · exact stBP_6 gb g o k cap n x fi t R P L B w0 h0 hg hL hfi hk hcap h256 hR hm hB
  · exact stBP_7 gb g o k cap n x fi t R P L B w0 h0 hg hL hfi hk hcap h256 hR hm hB
  · exact stBP_8 gb g o k cap n x fi t R P L B w0 h0 hg hL hfi hk hcap h256 hR hm hB
theorem run_build_lk (x : Nat) (R : List Nat) (h16 : R.length = 16) (a : Option Addr) (n c : Nat) (qa : Option Addr) (m d : Nat) (E : Operand → Value) (o : Oper) (ho : o.op = .build 60 #[(0, .tmp 42), (1, .tmp 45)]) (h57 : E (.tmp 42) = .agg (mtA x R (.slice a n c))) (h62 : E (.tmp 45) = .slice qa m d) (w : World) :
    (execOp E o).run Try.prog w = .ok (.value (.agg (lkA x R (.slice a n c) (.slice qa m d) (.slice none 0 0) (.slice none 0 0)))) w := by
  obtain ⟨r0, r1, r2, r3, r4, r5, r6, r7, r8, r9, r10, r11, r12, r13, r14, r15, rfl⟩ := sixteenU h16
  unfold execOp
  simp only [ho]
  unfold mtA at h57
  unfold lkA mtA
  simp only [List.map_cons, List.map_nil, List.cons_append, List.nil_append, List.append_toArray] at h57 ⊢
  go_simp
def opsBL : {o : Array Oper // some o = (Try.f6.body.bind (Fre.findR 8))} := ⟨_, rfl⟩
theorem fitBL : Fre.fit .any opsBL.1 69 = true := by kernel_rfl
theorem sizeBL : opsBL.1.size = 7 := by kernel_rfl
def VBL (mb g o k cap n x fi : Nat) (R : List Nat) (pa : Option Addr) (pc : Nat) (B : Nat) (i : Nat) (v : Value) (w : World) : Prop := match i with
  | 0 => v = .agg (mtA x R (.slice pa n pc))
  | 1 => v = .slice (some ⟨g, o, none⟩) k cap
  | 2 => v = .int .i64 ((fi : Nat) : Int)
  | 3 => v = .slice (some ⟨g, subO o cap fi, none⟩) (k - fi) (cap - fi)
  | 4 => v = .agg (lkA x R (.slice pa n pc) (.slice (some ⟨g, subO o cap fi, none⟩) (k - fi) (cap - fi)) (.slice none 0 0) (.slice none 0 0))
  | 5 => ∃ b, v = .pointer (some ⟨b, 0, none⟩) ∧ B ≤ b ∧ w.heap[b]? = some (.cells (lkA x R (.slice pa n pc) (.slice (some ⟨g, subO o cap fi, none⟩) (k - fi) (cap - fi)) (.slice none 0 0) (.slice none 0 0)) 60 (0, 0))
  | 6 => ∃ b, v = .pointer (some ⟨b, 0, none⟩) ∧ B ≤ b ∧ w.heap[b]? = some (.cells (lkA x R (.slice pa n pc) (.slice (some ⟨g, subO o cap fi, none⟩) (k - fi) (cap - fi)) (.slice none 0 0) (.slice none 0 0)) 60 (0, 0))
  | _ => True
set_option maxRecDepth 100000 in
theorem stBL_0 {u0 u2 u3 u4 u5 u6 u9 u10 u11 u12 u13 u14 u15 u16 u17 u18 u19 u20 u21 u22 u23 u24 u25 u26 u27 u28 u29 u30 u31 u32 u33 u34 u35 u36 u37 u38 u39 u40 u41 u42 u43 u44 u45 u46 u47 u48 u49 u50 u51 u52 u53 u54 u55 u56 u57 u58 u59 u60 u61 u62 u63 u64 u65 u66 u67 u68 : Value} (mb g o k cap n x fi : Nat) (R : List Nat) (pa : Option Addr) (pc : Nat) (B : Nat) (w0 : World) (h0 : w0.heap[mb]? = some (.cells (mtA x R (.slice pa n pc)) 52 (0, 0))) (h16 : R.length = 16) (hk : fi ≤ k) (hcap : k ≤ cap) (hB : B ≤ w0.heap.size) : Fre.StepB Try.prog opsBL.1 ⟨#[u0, .slice (some ⟨g, o, none⟩) k cap, u2, u3, u4, u5, u6, .int .i64 ((fi : Nat) : Int), .pointer (some ⟨mb, 0, none⟩), u9, u10, u11, u12, u13, u14, u15, u16, u17, u18, u19, u20, u21, u22, u23, u24, u25, u26, u27, u28, u29, u30, u31, u32, u33, u34, u35, u36, u37, u38, u39, u40, u41, u42, u43, u44, u45, u46, u47, u48, u49, u50, u51, u52, u53, u54, u55, u56, u57, u58, u59, u60, u61, u62, u63, u64, u65, u66, u67, u68], []⟩ w0 (VBL mb g o k cap n x fi R pa pc B) Fre.Kept 0 := by
  intro E w hc hf hE hV hN hS o ho
  obtain rfl := Option.some.inj ho
  clear ho
  simp only [opsBL, List.getElem_toArray, List.getElem_cons_succ, List.getElem_cons_zero]
  have b8 : E (.tmp 8) = .pointer (some ⟨mb, 0, none⟩) := hE 8 (by kernel_rfl)
  have hb := (hS.block mb (lt_of_block h0)).trans h0
  have hr := run_loadVar_row w mb _ 52 (mtA x R (.slice pa n pc)) _ _ hb Try.underlying52 rfl (by rw [meta18, mtA_size, h16])
  refine Fre.Does.value (v := .agg (mtA x R (.slice pa n pc))) (w' := w) ?_ ⟨rfl, Fre.Kept.refl _⟩
  unfold execOp
  simp only [b8, Instr.loadAt, Instr.sureAddr, Sem.run_bind, Sem.run_pure, Result.andThen_ok, hr]
set_option maxRecDepth 100000 in
theorem stBL_1 {u0 u2 u3 u4 u5 u6 u9 u10 u11 u12 u13 u14 u15 u16 u17 u18 u19 u20 u21 u22 u23 u24 u25 u26 u27 u28 u29 u30 u31 u32 u33 u34 u35 u36 u37 u38 u39 u40 u41 u42 u43 u44 u45 u46 u47 u48 u49 u50 u51 u52 u53 u54 u55 u56 u57 u58 u59 u60 u61 u62 u63 u64 u65 u66 u67 u68 : Value} (mb g o k cap n x fi : Nat) (R : List Nat) (pa : Option Addr) (pc : Nat) (B : Nat) (w0 : World) (h0 : w0.heap[mb]? = some (.cells (mtA x R (.slice pa n pc)) 52 (0, 0))) (h16 : R.length = 16) (hk : fi ≤ k) (hcap : k ≤ cap) (hB : B ≤ w0.heap.size) : Fre.StepB Try.prog opsBL.1 ⟨#[u0, .slice (some ⟨g, o, none⟩) k cap, u2, u3, u4, u5, u6, .int .i64 ((fi : Nat) : Int), .pointer (some ⟨mb, 0, none⟩), u9, u10, u11, u12, u13, u14, u15, u16, u17, u18, u19, u20, u21, u22, u23, u24, u25, u26, u27, u28, u29, u30, u31, u32, u33, u34, u35, u36, u37, u38, u39, u40, u41, u42, u43, u44, u45, u46, u47, u48, u49, u50, u51, u52, u53, u54, u55, u56, u57, u58, u59, u60, u61, u62, u63, u64, u65, u66, u67, u68], []⟩ w0 (VBL mb g o k cap n x fi R pa pc B) Fre.Kept 1 := by
  intro E w hc hf hE hV hN hS o ho
  obtain rfl := Option.some.inj ho
  clear ho
  simp only [opsBL, List.getElem_toArray, List.getElem_cons_succ, List.getElem_cons_zero]
  have b1 : E (.tmp 1) = .slice (some ⟨g, o, none⟩) k cap := hE 1 (by kernel_rfl)
  refine Fre.Does.value (v := .slice (some ⟨g, o, none⟩) k cap) (w' := w) ?_ ⟨rfl, Fre.Kept.refl _⟩
  go_simp
set_option maxRecDepth 100000 in
theorem stBL_2 {u0 u2 u3 u4 u5 u6 u9 u10 u11 u12 u13 u14 u15 u16 u17 u18 u19 u20 u21 u22 u23 u24 u25 u26 u27 u28 u29 u30 u31 u32 u33 u34 u35 u36 u37 u38 u39 u40 u41 u42 u43 u44 u45 u46 u47 u48 u49 u50 u51 u52 u53 u54 u55 u56 u57 u58 u59 u60 u61 u62 u63 u64 u65 u66 u67 u68 : Value} (mb g o k cap n x fi : Nat) (R : List Nat) (pa : Option Addr) (pc : Nat) (B : Nat) (w0 : World) (h0 : w0.heap[mb]? = some (.cells (mtA x R (.slice pa n pc)) 52 (0, 0))) (h16 : R.length = 16) (hk : fi ≤ k) (hcap : k ≤ cap) (hB : B ≤ w0.heap.size) : Fre.StepB Try.prog opsBL.1 ⟨#[u0, .slice (some ⟨g, o, none⟩) k cap, u2, u3, u4, u5, u6, .int .i64 ((fi : Nat) : Int), .pointer (some ⟨mb, 0, none⟩), u9, u10, u11, u12, u13, u14, u15, u16, u17, u18, u19, u20, u21, u22, u23, u24, u25, u26, u27, u28, u29, u30, u31, u32, u33, u34, u35, u36, u37, u38, u39, u40, u41, u42, u43, u44, u45, u46, u47, u48, u49, u50, u51, u52, u53, u54, u55, u56, u57, u58, u59, u60, u61, u62, u63, u64, u65, u66, u67, u68], []⟩ w0 (VBL mb g o k cap n x fi R pa pc B) Fre.Kept 2 := by
  intro E w hc hf hE hV hN hS o ho
  obtain rfl := Option.some.inj ho
  clear ho
  simp only [opsBL, List.getElem_toArray, List.getElem_cons_succ, List.getElem_cons_zero]
  have b7 : E (.tmp 7) = .int .i64 ((fi : Nat) : Int) := hE 7 (by kernel_rfl)
  refine Fre.Does.value (v := .int .i64 ((fi : Nat) : Int)) (w' := w) ?_ ⟨rfl, Fre.Kept.refl _⟩
  go_simp
set_option maxRecDepth 100000 in
theorem stBL_3 {u0 u2 u3 u4 u5 u6 u9 u10 u11 u12 u13 u14 u15 u16 u17 u18 u19 u20 u21 u22 u23 u24 u25 u26 u27 u28 u29 u30 u31 u32 u33 u34 u35 u36 u37 u38 u39 u40 u41 u42 u43 u44 u45 u46 u47 u48 u49 u50 u51 u52 u53 u54 u55 u56 u57 u58 u59 u60 u61 u62 u63 u64 u65 u66 u67 u68 : Value} (mb g o k cap n x fi : Nat) (R : List Nat) (pa : Option Addr) (pc : Nat) (B : Nat) (w0 : World) (h0 : w0.heap[mb]? = some (.cells (mtA x R (.slice pa n pc)) 52 (0, 0))) (h16 : R.length = 16) (hk : fi ≤ k) (hcap : k ≤ cap) (hB : B ≤ w0.heap.size) : Fre.StepB Try.prog opsBL.1 ⟨#[u0, .slice (some ⟨g, o, none⟩) k cap, u2, u3, u4, u5, u6, .int .i64 ((fi : Nat) : Int), .pointer (some ⟨mb, 0, none⟩), u9, u10, u11, u12, u13, u14, u15, u16, u17, u18, u19, u20, u21, u22, u23, u24, u25, u26, u27, u28, u29, u30, u31, u32, u33, u34, u35, u36, u37, u38, u39, u40, u41, u42, u43, u44, u45, u46, u47, u48, u49, u50, u51, u52, u53, u54, u55, u56, u57, u58, u59, u60, u61, u62, u63, u64, u65, u66, u67, u68], []⟩ w0 (VBL mb g o k cap n x fi R pa pc B) Fre.Kept 3 := by
  intro E w hc hf hE hV hN hS o ho
  obtain rfl := Option.some.inj ho
  clear ho
  simp only [opsBL, List.getElem_toArray, List.getElem_cons_succ, List.getElem_cons_zero]
  have d1 := hV 1 43 (by kernel_rfl) (by kernel_rfl)
  have d1 : E (.tmp 43) = .slice (some ⟨g, o, none⟩) k cap := d1
  have d2 := hV 2 44 (by kernel_rfl) (by kernel_rfl)
  have d2 : E (.tmp 44) = .int .i64 ((fi : Nat) : Int) := d2
  have hr := run_subRl g o k cap fi (by omega) w
  refine Fre.Does.value (v := .slice (some ⟨g, subO o cap fi, none⟩) (k - fi) (cap - fi)) (w' := w) ?_ ⟨rfl, Fre.Kept.refl _⟩
  unfold execOp
  simp only [d1, d2, Option.map_some, Option.map_none, Sem.run_bind, hr, Result.andThen_ok]
  rfl
set_option maxRecDepth 100000 in
theorem stBL_4 {u0 u2 u3 u4 u5 u6 u9 u10 u11 u12 u13 u14 u15 u16 u17 u18 u19 u20 u21 u22 u23 u24 u25 u26 u27 u28 u29 u30 u31 u32 u33 u34 u35 u36 u37 u38 u39 u40 u41 u42 u43 u44 u45 u46 u47 u48 u49 u50 u51 u52 u53 u54 u55 u56 u57 u58 u59 u60 u61 u62 u63 u64 u65 u66 u67 u68 : Value} (mb g o k cap n x fi : Nat) (R : List Nat) (pa : Option Addr) (pc : Nat) (B : Nat) (w0 : World) (h0 : w0.heap[mb]? = some (.cells (mtA x R (.slice pa n pc)) 52 (0, 0))) (h16 : R.length = 16) (hk : fi ≤ k) (hcap : k ≤ cap) (hB : B ≤ w0.heap.size) : Fre.StepB Try.prog opsBL.1 ⟨#[u0, .slice (some ⟨g, o, none⟩) k cap, u2, u3, u4, u5, u6, .int .i64 ((fi : Nat) : Int), .pointer (some ⟨mb, 0, none⟩), u9, u10, u11, u12, u13, u14, u15, u16, u17, u18, u19, u20, u21, u22, u23, u24, u25, u26, u27, u28, u29, u30, u31, u32, u33, u34, u35, u36, u37, u38, u39, u40, u41, u42, u43, u44, u45, u46, u47, u48, u49, u50, u51, u52, u53, u54, u55, u56, u57, u58, u59, u60, u61, u62, u63, u64, u65, u66, u67, u68], []⟩ w0 (VBL mb g o k cap n x fi R pa pc B) Fre.Kept 4 := by
  intro E w hc hf hE hV hN hS o ho
  obtain rfl := Option.some.inj ho
  clear ho
  simp only [opsBL, List.getElem_toArray, List.getElem_cons_succ, List.getElem_cons_zero]
  have d0 := hV 0 42 (by kernel_rfl) (by kernel_rfl)
  have d0 : E (.tmp 42) = .agg (mtA x R (.slice pa n pc)) := d0
  have d3 := hV 3 45 (by kernel_rfl) (by kernel_rfl)
  have d3 : E (.tmp 45) = .slice (some ⟨g, subO o cap fi, none⟩) (k - fi) (cap - fi) := d3
  refine Fre.Does.value (v := .agg (lkA x R (.slice pa n pc) (.slice (some ⟨g, subO o cap fi, none⟩) (k - fi) (cap - fi)) (.slice none 0 0) (.slice none 0 0))) (w' := w) ?_ ⟨rfl, Fre.Kept.refl _⟩
  exact run_build_lk x R h16 _ _ _ _ _ _ E _ rfl d0 d3 w
set_option maxRecDepth 100000 in
theorem stBL_5 {u0 u2 u3 u4 u5 u6 u9 u10 u11 u12 u13 u14 u15 u16 u17 u18 u19 u20 u21 u22 u23 u24 u25 u26 u27 u28 u29 u30 u31 u32 u33 u34 u35 u36 u37 u38 u39 u40 u41 u42 u43 u44 u45 u46 u47 u48 u49 u50 u51 u52 u53 u54 u55 u56 u57 u58 u59 u60 u61 u62 u63 u64 u65 u66 u67 u68 : Value} (mb g o k cap n x fi : Nat) (R : List Nat) (pa : Option Addr) (pc : Nat) (B : Nat) (w0 : World) (h0 : w0.heap[mb]? = some (.cells (mtA x R (.slice pa n pc)) 52 (0, 0))) (h16 : R.length = 16) (hk : fi ≤ k) (hcap : k ≤ cap) (hB : B ≤ w0.heap.size) : Fre.StepB Try.prog opsBL.1 ⟨#[u0, .slice (some ⟨g, o, none⟩) k cap, u2, u3, u4, u5, u6, .int .i64 ((fi : Nat) : Int), .pointer (some ⟨mb, 0, none⟩), u9, u10, u11, u12, u13, u14, u15, u16, u17, u18, u19, u20, u21, u22, u23, u24, u25, u26, u27, u28, u29, u30, u31, u32, u33, u34, u35, u36, u37, u38, u39, u40, u41, u42, u43, u44, u45, u46, u47, u48, u49, u50, u51, u52, u53, u54, u55, u56, u57, u58, u59, u60, u61, u62, u63, u64, u65, u66, u67, u68], []⟩ w0 (VBL mb g o k cap n x fi R pa pc B) Fre.Kept 5 := by
  intro E w hc hf hE hV hN hS o ho
  obtain rfl := Option.some.inj ho
  clear ho
  simp only [opsBL, List.getElem_toArray, List.getElem_cons_succ, List.getElem_cons_zero]
  have d4 := hV 4 46 (by kernel_rfl) (by kernel_rfl)
  have d4 : E (.tmp 46) = .agg (lkA x R (.slice pa n pc) (.slice (some ⟨g, subO o cap fi, none⟩) (k - fi) (cap - fi)) (.slice none 0 0) (.slice none 0 0)) := d4
  refine Fre.Does.value (v := .pointer (some ⟨w.heap.size, 0, none⟩)) (w' := w.alloc (.cells (lkA x R (.slice pa n pc) (.slice (some ⟨g, subO o cap fi, none⟩) (k - fi) (cap - fi)) (.slice none 0 0) (.slice none 0 0)) 60)) ?_ ⟨⟨_, rfl, Nat.le_trans hB hS.size, heap_new' _ _⟩, below_box _ _⟩
  unfold execOp
  simp only [d4]
  go_simp
set_option maxRecDepth 100000 in
theorem stBL_6 {u0 u2 u3 u4 u5 u6 u9 u10 u11 u12 u13 u14 u15 u16 u17 u18 u19 u20 u21 u22 u23 u24 u25 u26 u27 u28 u29 u30 u31 u32 u33 u34 u35 u36 u37 u38 u39 u40 u41 u42 u43 u44 u45 u46 u47 u48 u49 u50 u51 u52 u53 u54 u55 u56 u57 u58 u59 u60 u61 u62 u63 u64 u65 u66 u67 u68 : Value} (mb g o k cap n x fi : Nat) (R : List Nat) (pa : Option Addr) (pc : Nat) (B : Nat) (w0 : World) (h0 : w0.heap[mb]? = some (.cells (mtA x R (.slice pa n pc)) 52 (0, 0))) (h16 : R.length = 16) (hk : fi ≤ k) (hcap : k ≤ cap) (hB : B ≤ w0.heap.size) : Fre.StepB Try.prog opsBL.1 ⟨#[u0, .slice (some ⟨g, o, none⟩) k cap, u2, u3, u4, u5, u6, .int .i64 ((fi : Nat) : Int), .pointer (some ⟨mb, 0, none⟩), u9, u10, u11, u12, u13, u14, u15, u16, u17, u18, u19, u20, u21, u22, u23, u24, u25, u26, u27, u28, u29, u30, u31, u32, u33, u34, u35, u36, u37, u38, u39, u40, u41, u42, u43, u44, u45, u46, u47, u48, u49, u50, u51, u52, u53, u54, u55, u56, u57, u58, u59, u60, u61, u62, u63, u64, u65, u66, u67, u68], []⟩ w0 (VBL mb g o k cap n x fi R pa pc B) Fre.Kept 6 := by
  intro E w hc hf hE hV hN hS o ho
  obtain rfl := Option.some.inj ho
  clear ho
  simp only [opsBL, List.getElem_toArray, List.getElem_cons_succ, List.getElem_cons_zero]
  have d5 := hV 5 47 (by kernel_rfl) (by kernel_rfl)
  replace d5 : (fun v : Value => ∃ b, v = .pointer (some ⟨b, 0, none⟩) ∧ B ≤ b ∧ w.heap[b]? = some (.cells (lkA x R (.slice pa n pc) (.slice (some ⟨g, subO o cap fi, none⟩) (k - fi) (cap - fi)) (.slice none 0 0) (.slice none 0 0)) 60 (0, 0))) (E (.tmp 47)) := d5
  simp only at d5
  refine Fre.Does.value (v := E (.tmp 47)) (w' := w) ?_ ⟨d5, Fre.Kept.refl _⟩
  go_simp
theorem kpBL (mb g o k cap n x fi : Nat) (R : List Nat) (pa : Option Addr) (pc : Nat) (B : Nat) : ∀ j v w w', j < opsBL.1.size → VBL mb g o k cap n x fi R pa pc B j v w → Fre.Kept w w' → VBL mb g o k cap n x fi R pa pc B j v w' := by
  intro j v w w' hj h hs
  rw [sizeBL] at hj
  have hc : j = 0 ∨ j = 1 ∨ j = 2 ∨ j = 3 ∨ j = 4 ∨ j = 5 ∨ j = 6 := by omega
  rcases hc with rfl | rfl | rfl | rfl | rfl | rfl | rfl
  · exact h
  · exact h
  · exact h
  · exact h
  · exact h
  · change ∃ b, v = .pointer (some ⟨b, 0, none⟩) ∧ B ≤ b ∧ w.heap[b]? = some (.cells (lkA x R (.slice pa n pc) (.slice (some ⟨g, subO o cap fi, none⟩) (k - fi) (cap - fi)) (.slice none 0 0) (.slice none 0 0)) 60 (0, 0)) at h
    obtain ⟨b, h1, h2, h3⟩ := h
    exact ⟨b, h1, h2, (hs.block _ (lt_of_block h3)).trans h3⟩
  · change ∃ b, v = .pointer (some ⟨b, 0, none⟩) ∧ B ≤ b ∧ w.heap[b]? = some (.cells (lkA x R (.slice pa n pc) (.slice (some ⟨g, subO o cap fi, none⟩) (k - fi) (cap - fi)) (.slice none 0 0) (.slice none 0 0)) 60 (0, 0)) at h
    obtain ⟨b, h1, h2, h3⟩ := h
    exact ⟨b, h1, h2, (hs.block _ (lt_of_block h3)).trans h3⟩
set_option maxRecDepth 100000 in
theorem finBL {u0 u2 u3 u4 u5 u6 u9 u10 u11 u12 u13 u14 u15 u16 u17 u18 u19 u20 u21 u22 u23 u24 u25 u26 u27 u28 u29 u30 u31 u32 u33 u34 u35 u36 u37 u38 u39 u40 u41 u42 u43 u44 u45 u46 u47 u48 u49 u50 u51 u52 u53 u54 u55 u56 u57 u58 u59 u60 u61 u62 u63 u64 u65 u66 u67 u68 : Value} (mb g o k cap n x fi : Nat) (R : List Nat) (pa : Option Addr) (pc : Nat) (B : Nat) (vs : Nat → Value) : Fre.finT opsBL.1 vs #[u0, .slice (some ⟨g, o, none⟩) k cap, u2, u3, u4, u5, u6, .int .i64 ((fi : Nat) : Int), .pointer (some ⟨mb, 0, none⟩), u9, u10, u11, u12, u13, u14, u15, u16, u17, u18, u19, u20, u21, u22, u23, u24, u25, u26, u27, u28, u29, u30, u31, u32, u33, u34, u35, u36, u37, u38, u39, u40, u41, u42, u43, u44, u45, u46, u47, u48, u49, u50, u51, u52, u53, u54, u55, u56, u57, u58, u59, u60, u61, u62, u63, u64, u65, u66, u67, u68] opsBL.1.size = #[u0, .slice (some ⟨g, o, none⟩) k cap, u2, u3, u4, u5, u6, .int .i64 ((fi : Nat) : Int), .pointer (some ⟨mb, 0, none⟩), u9, vs 6, u11, u12, u13, u14, u15, u16, u17, u18, u19, u20, u21, u22, u23, u24, u25, u26, u27, u28, u29, u30, u31, u32, u33, u34, u35, u36, u37, u38, u39, u40, u41, vs 0, vs 1, vs 2, vs 3, vs 4, vs 5, u48, u49, u50, u51, u52, u53, u54, u55, u56, u57, u58, u59, u60, u61, u62, u63, u64, u65, u66, u67, u68] := by kernel_rfl
set_option maxRecDepth 100000 in
set_option maxHeartbeats 400000 in
theorem regionBL {u0 u2 u3 u4 u5 u6 u9 u10 u11 u12 u13 u14 u15 u16 u17 u18 u19 u20 u21 u22 u23 u24 u25 u26 u27 u28 u29 u30 u31 u32 u33 u34 u35 u36 u37 u38 u39 u40 u41 u42 u43 u44 u45 u46 u47 u48 u49 u50 u51 u52 u53 u54 u55 u56 u57 u58 u59 u60 u61 u62 u63 u64 u65 u66 u67 u68 : Value} (mb g o k cap n x fi : Nat) (R : List Nat) (pa : Option Addr) (pc : Nat) (B : Nat) (w0 : World) (h0 : w0.heap[mb]? = some (.cells (mtA x R (.slice pa n pc)) 52 (0, 0))) (h16 : R.length = 16) (hk : fi ≤ k) (hcap : k ≤ cap) (hB : B ≤ w0.heap.size) {QQ : Exit → Act → World → Prop} (hQ : ∀ (vs : Nat → Value) w, (∀ j, j < 7 → VBL mb g o k cap n x fi R pa pc B j (vs j) w) → Fre.Kept w0 w → QQ .normal ⟨#[u0, .slice (some ⟨g, o, none⟩) k cap, u2, u3, u4, u5, u6, .int .i64 ((fi : Nat) : Int), .pointer (some ⟨mb, 0, none⟩), u9, vs 6, u11, u12, u13, u14, u15, u16, u17, u18, u19, u20, u21, u22, u23, u24, u25, u26, u27, u28, u29, u30, u31, u32, u33, u34, u35, u36, u37, u38, u39, u40, u41, vs 0, vs 1, vs 2, vs 3, vs 4, vs 5, u48, u49, u50, u51, u52, u53, u54, u55, u56, u57, u58, u59, u60, u61, u62, u63, u64, u65, u66, u67, u68], []⟩ w) : (Code.region 8 opsBL.1 true).wp Try.prog QQ ⟨#[u0, .slice (some ⟨g, o, none⟩) k cap, u2, u3, u4, u5, u6, .int .i64 ((fi : Nat) : Int), .pointer (some ⟨mb, 0, none⟩), u9, u10, u11, u12, u13, u14, u15, u16, u17, u18, u19, u20, u21, u22, u23, u24, u25, u26, u27, u28, u29, u30, u31, u32, u33, u34, u35, u36, u37, u38, u39, u40, u41, u42, u43, u44, u45, u46, u47, u48, u49, u50, u51, u52, u53, u54, u55, u56, u57, u58, u59, u60, u61, u62, u63, u64, u65, u66, u67, u68], []⟩ w0 := by
  refine Fre.region_kept 69 (by kernel_rfl) fitBL rfl (VBL mb g o k cap n x fi R pa pc B) (kpBL mb g o k cap n x fi R pa pc B) (fun i hi => ?_) (fun vs w h1 h2 => ?_)
  case refine_2 =>
    have e9 := finBL (u0 := u0) (u2 := u2) (u3 := u3) (u4 := u4) (u5 := u5) (u6 := u6) (u9 := u9) (u10 := u10) (u11 := u11) (u12 := u12) (u13 := u13) (u14 := u14) (u15 := u15) (u16 := u16) (u17 := u17) (u18 := u18) (u19 := u19) (u20 := u20) (u21 := u21) (u22 := u22) (u23 := u23) (u24 := u24) (u25 := u25) (u26 := u26) (u27 := u27) (u28 := u28) (u29 := u29) (u30 := u30) (u31 := u31) (u32 := u32) (u33 := u33) (u34 := u34) (u35 := u35) (u36 := u36) (u37 := u37) (u38 := u38) (u39 := u39) (u40 := u40) (u41 := u41) (u42 := u42) (u43 := u43) (u44 := u44) (u45 := u45) (u46 := u46) (u47 := u47) (u48 := u48) (u49 := u49) (u50 := u50) (u51 := u51) (u52 := u52) (u53 := u53) (u54 := u54) (u55 := u55) (u56 := u56) (u57 := u57) (u58 := u58) (u59 := u59) (u60 := u60) (u61 := u61) (u62 := u62) (u63 := u63) (u64 := u64) (u65 := u65) (u66 := u66) (u67 := u67) (u68 := u68) mb g o k cap n x fi R pa pc B vs
    have h9 := hQ vs w (fun j hj => h1 j (by rw [sizeBL]; exact hj)) h2
    rw [← e9] at h9
    exact h9
  rw [sizeBL] at hi
  have hc : i = 0 ∨ i = 1 ∨ i = 2 ∨ i = 3 ∨ i = 4 ∨ i = 5 ∨ i = 6 := by omega
  rcases hc with rfl | rfl | rfl | rfl | rfl | rfl | rfl
  · exact stBL_0 mb g o k cap n x fi R pa pc B w0 h0 h16 hk hcap hB
  · exact stBL_1 mb g o k cap n x fi R pa pc B w0 h0 h16 hk hcap hB
  · exact stBL_2 mb g o k cap n x fi R pa pc B w0 h0 h16 hk hcap hB
  · exact stBL_3 mb g o k cap n x fi R pa pc B w0 h0 h16 hk hcap hB
  · exact stBL_4 mb g o k cap n x fi R pa pc B w0 h0 h16 hk hcap hB
  · exact stBL_5 mb g o k cap n x fi R pa pc B w0 h0 h16 hk hcap hB
  · exact stBL_6 mb g o k cap n x fi R pa pc B w0 h0 h16 hk hcap hB
end Go.Proofs.Ytpbmjfjnmcpieaa
