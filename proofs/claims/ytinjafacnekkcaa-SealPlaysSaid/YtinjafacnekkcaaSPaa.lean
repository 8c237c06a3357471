/- Texts SpW, put together by pack.py. -/
import Derived.Test.YtinjafacnekkcaaSPy
import Derived.Test.YtinjafacnekkcaaSPz
import Derived.Deep.CutRange
import Derived.Deep.CutBlock
set_option linter.unusedVariables false
set_option linter.unusedSimpArgs false
namespace Go.Proofs.Ytinjafacnekkcaa
open Go Go.RowKit GfM
theorem below_drewN {B : Nat} {a b : World} (h : Below B a b) (n : Nat) : Below B a (b.drewN n) := ⟨h.os, h.tape, h.output, h.size, h.block⟩
theorem isrow_up {w w' : World} {k : IntKind} {a : Option Addr} {len cap : Nat} {zs : List Int} (h : IsRow k w a len cap zs) (hb : Below w.heap.size w w') : IsRow k w' a len cap zs := by
  rcases h with h | ⟨p, h1, h2, h3, h4, h5, h6⟩
  · exact .inl h
  · exact .inr ⟨p, h1, h2, h3, h4, fun i hi => (hb.cell (cell_lt (h5 i hi))).trans (h5 i hi), h6⟩
theorem Fre.region_keptW {P : Program} {ops : Array Oper} {id : Nat} {Q : Exit → Act → World → Prop} {a0 : Act} {w0 : World} (N : Nat) (hm : P.follows .mixedOrders = true) (hf : Fre.fit .any ops N = true) (hN : a0.tmps.size = N) (V : Nat → Value → World → Prop)
    (hst : ∀ j v w w', j < ops.size → V j v w → Fre.Kept w w' → V j v w') (hop : ∀ i, i < ops.size → Fre.StepB P ops a0 w0 V Fre.Kept i)
    (hQ : ∀ (vs : Nat → Value) w, (∀ j, j < ops.size → V j (vs j) w) → Fre.Kept w0 w → Q .normal ⟨Fre.finT ops vs a0.tmps ops.size, a0.defers⟩ w) : (Code.region id ops true).wp P Q a0 w0 :=
  Fre.region_free N hm hf hN V Fre.Kept Fre.Kept.refl (Fre.Kept.drew _) (fun _ _ _ h k => h.trans k) hst (fun i hi => (hop i hi).step) hQ
def opsW1 : {o : Array Oper // some o = (Try.f3.body.bind (Fre.findR 1))} := ⟨_, rfl⟩
theorem fitW1 : Fre.fit .any opsW1.1 108 = true := by kernel_rfl
theorem sizeW1 : opsW1.1.size = 8 := by kernel_rfl
def VW1 (k : List Nat) (a : Option Addr) (len cap kb B : Nat) (i : Nat) (v : Value) (w : World) : Prop := match i with
  | 0 => v = .agg (bA k)
  | 1 => ∃ s m, v = .pointer (some ⟨s, 0, none⟩) ∧ Slr w B s m k [] none
  | 2 => v = .slice (some ⟨kb, 0, none⟩) 16 16
  | 3 => ∃ c g cp, v = .pointer (some ⟨c, 0, none⟩) ∧ RCip w c g (4 * (k.length / 4 + 7)) cp (roundsK k) (wordsK k)
  | 4 => ∃ c g cp, v = .agg #[.pointer (some ⟨c, 0, none⟩), .slice none 0 0, .bool false, .int .u64 0, .int .i64 0, .slice none 0 0] ∧ RCip w c g (4 * (k.length / 4 + 7)) cp (roundsK k) (wordsK k)
  | 5 => ∃ r, v = .pointer (some ⟨r, 0, none⟩) ∧ B ≤ r ∧ RSlr w r k [] none
  | 6 => ∃ s m, v = .pointer (some ⟨s, 0, none⟩) ∧ Slr w B s m k [] none
  | 7 => ∃ r, v = .pointer (some ⟨r, 0, none⟩) ∧ B ≤ r ∧ RSlr w r k [] none
  | _ => True
set_option maxRecDepth 100000 in
theorem stW1_0 (k : List Nat) (a : Option Addr) (len cap kb B : Nat) (a0 : Act) (g92 : a0.tmps.getD 2 undef = .pointer (some ⟨kb, 0, none⟩)) (w0 : World) (hk : k.length = 16) (hkb : ∀ x ∈ k, x < 256) (hB : B ≤ w0.heap.size) (h2 : w0.heap[kb]? = some (.cells (bA k) 22 (0, 0))) : Fre.StepB Try.prog opsW1.1 a0 w0 (VW1 k a len cap kb B) Fre.Kept 0 := by
  intro E w hc hf hE hV hN hS o ho
  obtain rfl := Option.some.inj ho
  clear ho
  simp only [opsW1, List.getElem_toArray, List.getElem_cons_succ, List.getElem_cons_zero]
  have b2 : E (.tmp 2) = .pointer (some ⟨kb, 0, none⟩) := (hE 2 (by kernel_rfl)).trans g92
  clear g92
  have hbk2 := (hS.block kb (lt_of_block h2)).trans h2
  refine Fre.Does.value (v := .agg (bA k)) (w' := w) ?_ ⟨rfl, Fre.Kept.refl _⟩
  have hrow := run_loadVar_row (P := Try.prog) w kb 22 22 (bA k) (0, 0) _ hbk2 Try.underlying22 rfl (by rw [zero16', bA_size, hk])
  unfold execOp
  simp only [b2, Instr.loadAt, Instr.sureAddr, Sem.run_bind, Sem.run_pure, Result.andThen_ok, hrow]
set_option maxRecDepth 100000 in
theorem stW1_1 (k : List Nat) (a : Option Addr) (len cap kb B : Nat) (a0 : Act)  (w0 : World) (hk : k.length = 16) (hkb : ∀ x ∈ k, x < 256) (hB : B ≤ w0.heap.size) (h2 : w0.heap[kb]? = some (.cells (bA k) 22 (0, 0))) : Fre.StepB Try.prog opsW1.1 a0 w0 (VW1 k a len cap kb B) Fre.Kept 1 := by
  intro E w hc hf hE hV hN hS o ho
  obtain rfl := Option.some.inj ho
  clear ho
  simp only [opsW1, List.getElem_toArray, List.getElem_cons_succ, List.getElem_cons_zero]
  have d0 := hV 0 14 (by kernel_rfl) (by kernel_rfl)
  have d0 : E (.tmp 14) = .agg (bA k) := d0
  refine Fre.Does.enter (f := 4) (args := #[.agg (bA k)]) (w' := w) ?_ ((made_c k hk hkb w).mono ?_)
  · unfold execOp; simp only [d0]; go_simp
  · rintro e w' ⟨s, m, rfl, h1, h2'⟩
    exact ⟨_, rfl, ⟨s, m, rfl, ⟨h1.blk, h1.map, Nat.le_trans (Nat.le_trans hB hS.size) h1.ms, Nat.le_trans (Nat.le_trans hB hS.size) h1.mm⟩⟩, h2'⟩
set_option maxRecDepth 100000 in
theorem stW1_2 (k : List Nat) (a : Option Addr) (len cap kb B : Nat) (a0 : Act) (g92 : a0.tmps.getD 2 undef = .pointer (some ⟨kb, 0, none⟩)) (w0 : World) (hk : k.length = 16) (hkb : ∀ x ∈ k, x < 256) (hB : B ≤ w0.heap.size) (h2 : w0.heap[kb]? = some (.cells (bA k) 22 (0, 0))) : Fre.StepB Try.prog opsW1.1 a0 w0 (VW1 k a len cap kb B) Fre.Kept 2 := by
  intro E w hc hf hE hV hN hS o ho
  obtain rfl := Option.some.inj ho
  clear ho
  simp only [opsW1, List.getElem_toArray, List.getElem_cons_succ, List.getElem_cons_zero]
  have b2 : E (.tmp 2) = .pointer (some ⟨kb, 0, none⟩) := (hE 2 (by kernel_rfl)).trans g92
  clear g92
  refine Fre.Does.value (v := .slice (some ⟨kb, 0, none⟩) 16 16) (w' := w) ?_ ⟨rfl, Fre.Kept.refl _⟩
  go_simp
set_option maxRecDepth 100000 in
theorem stW1_3 (k : List Nat) (a : Option Addr) (len cap kb B : Nat) (a0 : Act)  (w0 : World) (hk : k.length = 16) (hkb : ∀ x ∈ k, x < 256) (hB : B ≤ w0.heap.size) (h2 : w0.heap[kb]? = some (.cells (bA k) 22 (0, 0))) : Fre.StepB Try.prog opsW1.1 a0 w0 (VW1 k a len cap kb B) Fre.Kept 3 := by
  intro E w hc hf hE hV hN hS o ho
  obtain rfl := Option.some.inj ho
  clear ho
  simp only [opsW1, List.getElem_toArray, List.getElem_cons_succ, List.getElem_cons_zero]
  have d2 := hV 2 16 (by kernel_rfl) (by kernel_rfl)
  have d2 : E (.tmp 16) = .slice (some ⟨kb, 0, none⟩) 16 16 := d2
  have hbk2 := (hS.block kb (lt_of_block h2)).trans h2
  have hlb := lt_of_block hbk2
  have hcell : ∀ j, j < k.length → w.cell? ⟨kb, j, none⟩ = some (.int .u8 ((k.getD j 0 : Nat) : Int)) := fun j hj => by rw [cells_at hbk2 j, bA_get k j hj]
  have hnk := rnew_key k (.inl hk) hkb kb 16 (by omega) w hlb hcell
  rw [hk] at hnk
  refine Fre.Does.enter (f := 5) (args := #[.slice (some ⟨kb, 0, none⟩) 16 16]) (w' := w) ?_ (hnk.mono ?_)
  · unfold execOp; simp only [d2]; go_simp
  · rintro e w' ⟨c, g, cp, rfl, h1, h2'⟩
    rw [← hk] at h1
    exact ⟨_, rfl, ⟨c, g, cp, rfl, h1⟩, h2'⟩
set_option maxRecDepth 100000 in
theorem stW1_4 (k : List Nat) (a : Option Addr) (len cap kb B : Nat) (a0 : Act)  (w0 : World) (hk : k.length = 16) (hkb : ∀ x ∈ k, x < 256) (hB : B ≤ w0.heap.size) (h2 : w0.heap[kb]? = some (.cells (bA k) 22 (0, 0))) : Fre.StepB Try.prog opsW1.1 a0 w0 (VW1 k a len cap kb B) Fre.Kept 4 := by
  intro E w hc hf hE hV hN hS o ho
  obtain rfl := Option.some.inj ho
  clear ho
  simp only [opsW1, List.getElem_toArray, List.getElem_cons_succ, List.getElem_cons_zero]
  have d3 := hV 3 17 (by kernel_rfl) (by kernel_rfl)
  replace d3 : (fun v : Value => ∃ c g cp, v = .pointer (some ⟨c, 0, none⟩) ∧ RCip w c g (4 * (k.length / 4 + 7)) cp (roundsK k) (wordsK k)) (E (.tmp 17)) := d3
  simp only at d3
  obtain ⟨c, g, cp, e, h1⟩ := d3
  refine Fre.Does.value (v := .agg #[.pointer (some ⟨c, 0, none⟩), .slice none 0 0, .bool false, .int .u64 0, .int .i64 0, .slice none 0 0]) (w' := w) ?_ ⟨⟨c, g, cp, rfl, h1⟩, Fre.Kept.refl _⟩
  unfold execOp
  simp only [e]
  go_simp
set_option maxRecDepth 100000 in
theorem stW1_5 (k : List Nat) (a : Option Addr) (len cap kb B : Nat) (a0 : Act)  (w0 : World) (hk : k.length = 16) (hkb : ∀ x ∈ k, x < 256) (hB : B ≤ w0.heap.size) (h2 : w0.heap[kb]? = some (.cells (bA k) 22 (0, 0))) : Fre.StepB Try.prog opsW1.1 a0 w0 (VW1 k a len cap kb B) Fre.Kept 5 := by
  intro E w hc hf hE hV hN hS o ho
  obtain rfl := Option.some.inj ho
  clear ho
  simp only [opsW1, List.getElem_toArray, List.getElem_cons_succ, List.getElem_cons_zero]
  have d4 := hV 4 18 (by kernel_rfl) (by kernel_rfl)
  replace d4 : (fun v : Value => ∃ c g cp, v = .agg #[.pointer (some ⟨c, 0, none⟩), .slice none 0 0, .bool false, .int .u64 0, .int .i64 0, .slice none 0 0] ∧ RCip w c g (4 * (k.length / 4 + 7)) cp (roundsK k) (wordsK k)) (E (.tmp 18)) := d4
  simp only at d4
  obtain ⟨c, g, cp, e, h1⟩ := d4
  refine Fre.Does.value (v := .pointer (some ⟨w.heap.size, 0, none⟩)) (w' := w.alloc (.cells #[.pointer (some ⟨c, 0, none⟩), .slice none 0 0, .bool false, .int .u64 0, .int .i64 0, .slice none 0 0] 35)) ?_ ⟨⟨_, rfl, Nat.le_trans hB hS.size, ⟨c, g, _, cp, none, 0, [], ⟨heap_new' _ _, h1.up (below_box1 _ _) (Nat.le_refl _), Nat.le_refl _, fun _ => rfl, (fun p hp => by cases hp), RowK.nil _ _, ⟨rfl, fun i x y hx => by cases hx⟩⟩⟩⟩, below_box1 _ _⟩
  unfold execOp
  simp only [e]
  go_simp
set_option maxRecDepth 100000 in
theorem stW1_6 (k : List Nat) (a : Option Addr) (len cap kb B : Nat) (a0 : Act)  (w0 : World) (hk : k.length = 16) (hkb : ∀ x ∈ k, x < 256) (hB : B ≤ w0.heap.size) (h2 : w0.heap[kb]? = some (.cells (bA k) 22 (0, 0))) : Fre.StepB Try.prog opsW1.1 a0 w0 (VW1 k a len cap kb B) Fre.Kept 6 := by
  intro E w hc hf hE hV hN hS o ho
  obtain rfl := Option.some.inj ho
  clear ho
  simp only [opsW1, List.getElem_toArray, List.getElem_cons_succ, List.getElem_cons_zero]
  have d1 := hV 1 15 (by kernel_rfl) (by kernel_rfl)
  replace d1 : (fun v : Value => ∃ s m, v = .pointer (some ⟨s, 0, none⟩) ∧ Slr w B s m k [] none) (E (.tmp 15)) := d1
  simp only at d1
  refine Fre.Does.value (v := E (.tmp 15)) (w' := w) ?_ ⟨d1, Fre.Kept.refl _⟩
  go_simp
set_option maxRecDepth 100000 in
theorem stW1_7 (k : List Nat) (a : Option Addr) (len cap kb B : Nat) (a0 : Act)  (w0 : World) (hk : k.length = 16) (hkb : ∀ x ∈ k, x < 256) (hB : B ≤ w0.heap.size) (h2 : w0.heap[kb]? = some (.cells (bA k) 22 (0, 0))) : Fre.StepB Try.prog opsW1.1 a0 w0 (VW1 k a len cap kb B) Fre.Kept 7 := by
  intro E w hc hf hE hV hN hS o ho
  obtain rfl := Option.some.inj ho
  clear ho
  simp only [opsW1, List.getElem_toArray, List.getElem_cons_succ, List.getElem_cons_zero]
  have d5 := hV 5 19 (by kernel_rfl) (by kernel_rfl)
  replace d5 : (fun v : Value => ∃ r, v = .pointer (some ⟨r, 0, none⟩) ∧ B ≤ r ∧ RSlr w r k [] none) (E (.tmp 19)) := d5
  simp only at d5
  refine Fre.Does.value (v := E (.tmp 19)) (w' := w) ?_ ⟨d5, Fre.Kept.refl _⟩
  go_simp
theorem kpW1 (k : List Nat) (a : Option Addr) (len cap kb B : Nat) : ∀ j v w w', j < opsW1.1.size → VW1 k a len cap kb B j v w → Fre.Kept w w' → VW1 k a len cap kb B j v w' := by
  intro j v w w' hj h hs
  rw [sizeW1] at hj
  have hc : j = 0 ∨ j = 1 ∨ j = 2 ∨ j = 3 ∨ j = 4 ∨ j = 5 ∨ j = 6 ∨ j = 7 := by omega
  rcases hc with rfl | rfl | rfl | rfl | rfl | rfl | rfl | rfl
  · exact h
  · change ∃ s m, v = .pointer (some ⟨s, 0, none⟩) ∧ Slr w B s m k [] none at h
    obtain ⟨s, m, h1, h2⟩ := h
    exact ⟨s, m, h1, h2.up hs (Nat.le_refl _)⟩
  · exact h
  · change ∃ c g cp, v = .pointer (some ⟨c, 0, none⟩) ∧ RCip w c g (4 * (k.length / 4 + 7)) cp (roundsK k) (wordsK k) at h
    obtain ⟨c, g, cp, h1, h2⟩ := h
    exact ⟨c, g, cp, h1, h2.up hs (Nat.le_refl _)⟩
  · change ∃ c g cp, v = .agg #[.pointer (some ⟨c, 0, none⟩), .slice none 0 0, .bool false, .int .u64 0, .int .i64 0, .slice none 0 0] ∧ RCip w c g (4 * (k.length / 4 + 7)) cp (roundsK k) (wordsK k) at h
    obtain ⟨c, g, cp, h1, h2⟩ := h
    exact ⟨c, g, cp, h1, h2.up hs (Nat.le_refl _)⟩
  · change ∃ r, v = .pointer (some ⟨r, 0, none⟩) ∧ B ≤ r ∧ RSlr w r k [] none at h
    obtain ⟨r, h1, h2, h3⟩ := h
    obtain ⟨_, _, _, _, _, _, _, h3⟩ := h3
    exact ⟨r, h1, h2, _, _, _, _, _, _, _, h3.up hs⟩
  · change ∃ s m, v = .pointer (some ⟨s, 0, none⟩) ∧ Slr w B s m k [] none at h
    obtain ⟨s, m, h1, h2⟩ := h
    exact ⟨s, m, h1, h2.up hs (Nat.le_refl _)⟩
  · change ∃ r, v = .pointer (some ⟨r, 0, none⟩) ∧ B ≤ r ∧ RSlr w r k [] none at h
    obtain ⟨r, h1, h2, h3⟩ := h
    obtain ⟨_, _, _, _, _, _, _, h3⟩ := h3
    exact ⟨r, h1, h2, _, _, _, _, _, _, _, h3.up hs⟩
set_option maxRecDepth 100000 in
theorem finW1 {u3 u5 u6 u7 u8 u9 u10 u11 u12 u13 u14 u15 u16 u17 u18 u19 u20 u21 u22 u23 u24 u25 u26 u27 u28 u29 u30 u31 u32 u33 u34 u35 u36 u37 u38 u39 u40 u41 u42 u43 u44 u45 u46 u47 u48 u49 u50 u51 u52 u53 u54 u55 u56 u57 u58 u59 u60 u61 u62 u63 u64 u65 u66 u67 u68 u69 u70 u71 u72 u73 u74 u75 u76 u77 u78 u79 u80 u81 u82 u83 u84 u85 u86 u87 u88 u89 u90 u91 u92 u93 u94 u95 u96 u97 u98 u99 u100 u101 u102 u103 u104 u105 u106 u107 : Value} (k : List Nat) (a : Option Addr) (len cap kb B : Nat) (vs : Nat → Value) : Fre.finT opsW1.1 vs #[.agg (bA k), .slice a len cap, .pointer (some ⟨kb, 0, none⟩), u3, .bool false, u5, u6, u7, u8, u9, u10, u11, u12, u13, u14, u15, u16, u17, u18, u19, u20, u21, u22, u23, u24, u25, u26, u27, u28, u29, u30, u31, u32, u33, u34, u35, u36, u37, u38, u39, u40, u41, u42, u43, u44, u45, u46, u47, u48, u49, u50, u51, u52, u53, u54, u55, u56, u57, u58, u59, u60, u61, u62, u63, u64, u65, u66, u67, u68, u69, u70, u71, u72, u73, u74, u75, u76, u77, u78, u79, u80, u81, u82, u83, u84, u85, u86, u87, u88, u89, u90, u91, u92, u93, u94, u95, u96, u97, u98, u99, u100, u101, u102, u103, u104, u105, u106, u107] opsW1.1.size = #[.agg (bA k), .slice a len cap, .pointer (some ⟨kb, 0, none⟩), u3, .bool false, vs 6, vs 7, u7, u8, u9, u10, u11, u12, u13, vs 0, vs 1, vs 2, vs 3, vs 4, vs 5, u20, u21, u22, u23, u24, u25, u26, u27, u28, u29, u30, u31, u32, u33, u34, u35, u36, u37, u38, u39, u40, u41, u42, u43, u44, u45, u46, u47, u48, u49, u50, u51, u52, u53, u54, u55, u56, u57, u58, u59, u60, u61, u62, u63, u64, u65, u66, u67, u68, u69, u70, u71, u72, u73, u74, u75, u76, u77, u78, u79, u80, u81, u82, u83, u84, u85, u86, u87, u88, u89, u90, u91, u92, u93, u94, u95, u96, u97, u98, u99, u100, u101, u102, u103, u104, u105, u106, u107] := by kernel_rfl
set_option maxRecDepth 100000 in
set_option maxHeartbeats 400000 in
theorem regionW1 {u3 u5 u6 u7 u8 u9 u10 u11 u12 u13 u14 u15 u16 u17 u18 u19 u20 u21 u22 u23 u24 u25 u26 u27 u28 u29 u30 u31 u32 u33 u34 u35 u36 u37 u38 u39 u40 u41 u42 u43 u44 u45 u46 u47 u48 u49 u50 u51 u52 u53 u54 u55 u56 u57 u58 u59 u60 u61 u62 u63 u64 u65 u66 u67 u68 u69 u70 u71 u72 u73 u74 u75 u76 u77 u78 u79 u80 u81 u82 u83 u84 u85 u86 u87 u88 u89 u90 u91 u92 u93 u94 u95 u96 u97 u98 u99 u100 u101 u102 u103 u104 u105 u106 u107 : Value} (k : List Nat) (a : Option Addr) (len cap kb B : Nat) (w0 : World) (hk : k.length = 16) (hkb : ∀ x ∈ k, x < 256) (hB : B ≤ w0.heap.size) (h2 : w0.heap[kb]? = some (.cells (bA k) 22 (0, 0))) {QQ : Exit → Act → World → Prop} (hQ : ∀ (vs : Nat → Value) w, (∀ j, j < 8 → VW1 k a len cap kb B j (vs j) w) → Fre.Kept w0 w → QQ .normal ⟨#[.agg (bA k), .slice a len cap, .pointer (some ⟨kb, 0, none⟩), u3, .bool false, vs 6, vs 7, u7, u8, u9, u10, u11, u12, u13, vs 0, vs 1, vs 2, vs 3, vs 4, vs 5, u20, u21, u22, u23, u24, u25, u26, u27, u28, u29, u30, u31, u32, u33, u34, u35, u36, u37, u38, u39, u40, u41, u42, u43, u44, u45, u46, u47, u48, u49, u50, u51, u52, u53, u54, u55, u56, u57, u58, u59, u60, u61, u62, u63, u64, u65, u66, u67, u68, u69, u70, u71, u72, u73, u74, u75, u76, u77, u78, u79, u80, u81, u82, u83, u84, u85, u86, u87, u88, u89, u90, u91, u92, u93, u94, u95, u96, u97, u98, u99, u100, u101, u102, u103, u104, u105, u106, u107], []⟩ w) : (Code.region 1 opsW1.1 true).wp Try.prog QQ ⟨#[.agg (bA k), .slice a len cap, .pointer (some ⟨kb, 0, none⟩), u3, .bool false, u5, u6, u7, u8, u9, u10, u11, u12, u13, u14, u15, u16, u17, u18, u19, u20, u21, u22, u23, u24, u25, u26, u27, u28, u29, u30, u31, u32, u33, u34, u35, u36, u37, u38, u39, u40, u41, u42, u43, u44, u45, u46, u47, u48, u49, u50, u51, u52, u53, u54, u55, u56, u57, u58, u59, u60, u61, u62, u63, u64, u65, u66, u67, u68, u69, u70, u71, u72, u73, u74, u75, u76, u77, u78, u79, u80, u81, u82, u83, u84, u85, u86, u87, u88, u89, u90, u91, u92, u93, u94, u95, u96, u97, u98, u99, u100, u101, u102, u103, u104, u105, u106, u107], []⟩ w0 := by
  refine Fre.region_keptW 108 (by kernel_rfl) fitW1 rfl (VW1 k a len cap kb B) (kpW1 k a len cap kb B) (fun i hi => ?_) (fun vs w h1 h2 => ?_)
  case refine_2 =>
    have e9 := @finW1 u3 u5 u6 u7 u8 u9 u10 u11 u12 u13 u14 u15 u16 u17 u18 u19 u20 u21 u22 u23 u24 u25 u26 u27 u28 u29 u30 u31 u32 u33 u34 u35 u36 u37 u38 u39 u40 u41 u42 u43 u44 u45 u46 u47 u48 u49 u50 u51 u52 u53 u54 u55 u56 u57 u58 u59 u60 u61 u62 u63 u64 u65 u66 u67 u68 u69 u70 u71 u72 u73 u74 u75 u76 u77 u78 u79 u80 u81 u82 u83 u84 u85 u86 u87 u88 u89 u90 u91 u92 u93 u94 u95 u96 u97 u98 u99 u100 u101 u102 u103 u104 u105 u106 u107 k a len cap kb B vs
    have h9 := hQ vs w (fun j hj => h1 j (by rw [sizeW1]; exact hj)) h2
    rw [← e9] at h9
    exact h9
  rw [sizeW1] at hi
  have hc : i = 0 ∨ i = 1 ∨ i = 2 ∨ i = 3 ∨ i = 4 ∨ i = 5 ∨ i = 6 ∨ i = 7 := by omega
  rcases hc with rfl | rfl | rfl | rfl | rfl | rfl | rfl | rfl
  · exact stW1_0 k a len cap kb B _ rfl w0 hk hkb hB h2
  · exact stW1_1 k a len cap kb B _  w0 hk hkb hB h2
  · exact stW1_2 k a len cap kb B _ rfl w0 hk hkb hB h2
  · exact stW1_3 k a len cap kb B _  w0 hk hkb hB h2
  · exact stW1_4 k a len cap kb B _  w0 hk hkb hB h2
  · exact stW1_5 k a len cap kb B _  w0 hk hkb hB h2
  · exact stW1_6 k a len cap kb B _  w0 hk hkb hB h2
  · exact stW1_7 k a len cap kb B _  w0 hk hkb hB h2
theorem info81 : (Try.prog.info? 37).map (·.size) = some 4 := by kernel_rfl
theorem opS_one (kd : Int) (ep : Nat) (bk : Int) (pa : Option Addr) (pl pc : Nat) : (opS kd ep bk pa pl pc).all (·.oneCell') = true := by simp [opS, Value.oneCell']
set_option maxRecDepth 100000 in
set_option maxHeartbeats 16000000 in
theorem walkSealPlays (w : World) (k : List Nat) (hk : k.length = 16) (hkb : ∀ x ∈ k, x < 256) (a : Option Addr) (len cap : Nat) (L0 : List OpRow) (hops : OpsIn w a len cap L0) :
    Calls Try.prog 3 #[.agg (bA k), .slice a len cap] w fun e w' => e = .returned (.bool true) ∧ Below w.heap.size w w' := by
  obtain ⟨hl0, hlc, hcm, hop⟩ := hops
  have HOP := Lib.hid (And.intro hl0 hop)
  have HK := Lib.hid (And.intro hk hkb)
  have HLC := Lib.hid (And.intro hlc hcm)
  obtain ⟨w1, hw1⟩ : ∃ w1, w1 = w.alloc (.cells (bA k) 22) := ⟨_, rfl⟩
  have H2 : Hid (w1.heap[w.heap.size]? = some (.cells (bA k) 22 (0, 0))) := by show _ = _; rw [hw1]; exact heap_new' _ _
  have HB1 : Hid (Below w.heap.size w w1) := by rw [hw1]; exact below_box1 _ _
  clear hk hkb hop hl0 hlc hcm
  go_enter Try.func3, Try.ntmps3
  go_wp2_with fail
  rw [← hw1]
  clear hw1
  refine regionW1 k a len cap w.heap.size w.heap.size w1 HK.out.1 HK.out.2 HB1.out.size H2.out ?_
  intro vs w2 hv hk2
  obtain ⟨s, m, v6, hs6⟩ : ∃ s m, vs 6 = .pointer (some ⟨s, 0, none⟩) ∧ Slr w2 w.heap.size s m k [] none := hv 6 (by omega)
  obtain ⟨r, v7, br7, hr7⟩ : ∃ r, vs 7 = .pointer (some ⟨r, 0, none⟩) ∧ w.heap.size ≤ r ∧ RSlr w2 r k [] none := hv 7 (by omega)
  rw [v6, v7]
  have HB2 : Hid (Below w.heap.size w w2) := HB1.out.trans (hk2.mono HB1.out.size)
  have HST : Hid (∃ M L T, Bo w2 w.heap.size s m r k M L T ∧ L.length ≤ 0) := ⟨[], [], none, ⟨hs6, hr7, ⟨List.Perm.refl _, List.Pairwise.nil⟩, br7⟩, Nat.le_refl _⟩
  clear hv v6 v7 hs6 br7 hr7 hk2 H2 HB1
  go_upto_block 0 with fail
  go_cut [] from 7 to 34 (fun wx => ∃ M L T, Hid (Bo wx w.heap.size s m r k M L T ∧ L.length ≤ 12) ∧ Hid (Below w.heap.size w wx))
  case first =>
    go_wp2
    go_loopw [22] (fun vi wr => ∃ i : Nat, i ≤ len ∧ i ≤ 12 ∧ vi = .int .i64 (i : Int) ∧ Hid (∃ M L T, Bo wr w.heap.size s m r k M L T ∧ L.length ≤ i) ∧ Hid (Below w.heap.size w wr)) (fun vi _ => 13 - (intOf vi).toNat)
    case atStart => exact ⟨0, by omega, by omega, rfl, HST.out, HB2.out⟩
    case round =>
      clear HST HB2
      obtain ⟨i, hi, hi12, rfl, hst, hbel⟩ := hrel
      by_cases hlt : i < len
      · have dl : (i : Int) < (len : Int) := by omega
        have hil : i < L0.length := by rw [HOP.out.1]; exact hlt
        obtain ⟨w1', w2', ⟨zs, hrow⟩, g, o, ha, hg, c0, c1, c2, c3⟩ := HOP.out.2 i L0[i] (List.getElem?_eq_getElem hil)
        subst ha
        obtain ⟨ep, hep, hee⟩ := wf_nat64 w1'
        rw [hee] at c1
        obtain ⟨kd, hkd⟩ : ∃ kd, kd = (L0[i]).kd := ⟨_, rfl⟩
        obtain ⟨bk, hbk⟩ : ∃ bk, bk = (L0[i]).bk := ⟨_, rfl⟩
        obtain ⟨pa, hpa⟩ : ∃ pa, pa = (L0[i]).pa := ⟨_, rfl⟩
        obtain ⟨pl, hpl⟩ : ∃ pl, pl = (L0[i]).pl := ⟨_, rfl⟩
        obtain ⟨pc, hpc⟩ : ∃ pc, pc = (L0[i]).pc := ⟨_, rfl⟩
        rw [← hkd] at c0
        rw [← hbk] at c2
        rw [← hpa, ← hpl, ← hpc] at c3 hrow
        have HR : Hid (∀ w', Below w.heap.size w w' → w'.rangeAt g (o + i * 4) (opS kd ep bk pa pl pc).toList) := fun w' hb => by
          have hcc : ∀ d, w'.cell? ⟨g, d, none⟩ = w.cell? ⟨g, d, none⟩ := fun d => hb.cell (p := ⟨g, d, none⟩) hg
          intro t v hv
          have ht : t < 4 := by
            have := (List.getElem?_eq_some_iff.1 hv).1; simpa [opS] using this
          rw [hcc]
          rcases (by omega : t = 0 ∨ t = 1 ∨ t = 2 ∨ t = 3) with rfl | rfl | rfl | rfl
          · rw [Nat.add_zero, c0]; exact hv
          · rw [c1]; exact hv
          · rw [c2]; exact hv
          · rw [c3]; exact hv
        have HROW : Hid (∀ w', Below w.heap.size w w' → IsRow .u8 w' pa pl pc zs) := fun w' hb => isrow_up hrow hb
        have HEP := Lib.hid hep
        clear c0 c1 c2 c3 hrow hep hee hkd hbk hpa hpl hpc w1' w2' hg hil
        by_cases h12 : i < 12
        · have d12 : ¬ (12 : Int) ≤ (i : Int) := by omega
          go_wp2_with (first
            | (refine wpList_load_mid rfl 37 (.tmp 25) rfl g (o + i * 4) rfl _ _ (HR.out _ hbel.out) Try.underlying37 rfl (by rw [info81]; simp [opS]) ?_)
            | (refine wpList_store_row rfl 37 (.tmp 8) (.tmp 26) rfl wr.heap.size (opS kd ep bk pa pl pc) rfl rfl 37 _ (heap_new' _ _) (by rw [info81]; rfl) (by rfl) (opS_one _ _ _ _ _ _) ?_; generalize hW5 : World.setRow _ _ _ = W5; have HO5 : Hid (W5.heap[wr.heap.size]? = some (.cells (opS kd ep bk pa pl pc) 37 (0, 0))) := (by rw [← hW5]; exact setRow_heap _ _ _ _ _ _ (heap_new' _ _)); have HB5 : Hid (Below wr.heap.size wr W5) := (by rw [← hW5]; exact below_setRow ((Below.refl _ _).alloc (Nat.le_refl _) _) (Nat.le_refl _) _); clear hW5)
            | (refine wpList_load_row rfl 37 (.tmp 8) rfl wr.heap.size rfl _ _ _ _ HO5.out Try.underlying37 rfl (by rw [info81]; rfl) ?_)
            | fail)
          obtain ⟨M, L, T, hbo, hll⟩ := hst.out
          have hw5 : Below w.heap.size w W5 := hbel.out.trans (HB5.out.mono hbel.out.size)
          have hsc := step_c (.inl HK.out.1) W5 hw5.size (by omega) (hbo.up HB5.out) kd ep HEP.out bk pa pl pc zs (HROW.out W5 hw5)
          refine hsc.mono ?_
          rintro e w6 ⟨rfl, M', L', T', hbo', hll', hb6⟩
          have HST6 : Hid (∃ M L T, Bo w6 w.heap.size s m r k M L T ∧ L.length ≤ i + 1) := ⟨M', L', T', hbo', by omega⟩
          have HB6 : Hid (Below w.heap.size w w6) := hw5.trans hb6
          clear hsc hbo hbo' hb6 hw5 hst hbel HO5 HB5 HR HROW
          go_wp2
          go_roundw
          case rel => exact ⟨i + 1, by omega, by omega, by go_num, HST6.out, HB6.out⟩
          case measure => simp [intOf]; omega
        · have d12 : (12 : Int) ≤ (i : Int) := by omega
          go_wp2_with (first
            | (refine wpList_load_mid rfl 37 (.tmp 25) rfl g (o + i * 4) rfl _ _ (HR.out _ hbel.out) Try.underlying37 rfl (by rw [info81]; simp [opS]) ?_)
            | (refine wpList_store_row rfl 37 (.tmp 8) (.tmp 26) rfl wr.heap.size (opS kd ep bk pa pl pc) rfl rfl 37 _ (heap_new' _ _) (by rw [info81]; rfl) (by rfl) (opS_one _ _ _ _ _ _) ?_; generalize hW5 : World.setRow _ _ _ = W5; have HB5 : Hid (Below wr.heap.size wr W5) := (by rw [← hW5]; exact below_setRow ((Below.refl _ _).alloc (Nat.le_refl _) _) (Nat.le_refl _) _); clear hW5)
            | fail)
          go_meet
          obtain ⟨M, L, T, hbo, hll⟩ := hst.out
          exact ⟨M, L, T, Lib.hid ⟨hbo.up HB5.out, by omega⟩, Lib.hid (hbel.out.trans (HB5.out.mono hbel.out.size))⟩
      · have dl : ¬ (i : Int) < (len : Int) := by omega
        go_wp2
        go_meet
        obtain ⟨M, L, T, hbo, hll⟩ := hst.out
        exact ⟨M, L, T, Lib.hid ⟨hbo, by omega⟩, hbel⟩
  case rest =>
    obtain ⟨M, L, T, hbo, hbel⟩ := hcut
    have hM : M.length ≤ 12 := by rw [← hbo.out.1.inv.perm.length_eq]; exact hbo.out.2
    go_wp2_with fail
    refine (used_c hM wc hbo.out.1.slr).mono ?_
    rintro e w3 ⟨⟨ua, uc, ss, rfl, huc, hup, hus, hurow, huspot, hunil⟩, hb3⟩
    have hse := used_eq hbo.out.1.inv hup hus
    obtain ⟨N, hN⟩ : ∃ N, L.length = N := ⟨_, rfl⟩
    have hsn : ss.length = N := by rw [hse, List.length_map, hN]
    have hN12 : N ≤ 12 := by rw [← hN]; exact hbo.out.2
    rw [hsn] at huc ⊢
    have hbo3 := hbo.out.1.up hb3
    obtain ⟨c, g, nw, cp, al, cl, X, hR⟩ := hbo3.rsl
    have c1 : w3.cell? ⟨r, 1, none⟩ = some (.slice al N cl) := by rw [← hN]; exact (cells_at hR.blk 1).trans rfl
    have HR := Lib.hid hR
    have HB3 : Hid (Below w.heap.size w w3) := hbel.out.trans (hb3.mono hbel.out.size)
    have HU := Lib.hid (And.intro hurow (And.intro huspot (And.intro hunil huc)))
    have HSE := Lib.hid hse
    have HN := Lib.hid hN
    have HS3 := Lib.hid hbo3.slr
    clear hup hus hurow huspot hunil hse hbo3 hR hN hb3 hM hsn huc hbo hbel
    go_upto_block 2 with fail
    clear c1
    go_cut [] from 10 to 73 (fun wx => Hid (Below w3.heap.size w3 wx))
    case first =>
      go_wp2
      go_loopw [50] (fun vi wr => ∃ i : Nat, i ≤ N ∧ vi = .int .i64 (i : Int) ∧ Hid (Below w3.heap.size w3 wr)) (fun vi _ => N - (intOf vi).toNat)
      case atStart => exact ⟨0, by omega, rfl, Below.refl _ _⟩
      case round =>
        obtain ⟨i, hi, rfl, hbr⟩ := hrel
        by_cases hlt : i < N
        · have dl : (i : Int) < (N : Int) := by omega
          have hil : i < L.length := by rw [HN.out]; exact hlt
          obtain ⟨x, hx⟩ : ∃ x, L[i]? = some x := ⟨_, List.getElem?_eq_getElem hil⟩
          obtain ⟨y, hy⟩ : ∃ y, X[i]? = some y := ⟨_, List.getElem?_eq_getElem (by rw [HR.out.ones.1]; exact hil)⟩
          obtain ⟨hxy, _⟩ := HR.out.ones.2 i y x hy hx
          obtain ⟨gx, ox, hax, hgx, hcx⟩ := HR.out.row i y hy
          have hsx : ss[i]? = some y.n := by rw [HSE.out, List.getElem?_map, hx, hxy]; rfl
          obtain ⟨gu, ou, hau, hgu, hcu⟩ := HU.out.1 i y.n hsx
          subst hax
          subst hau
          obtain ⟨⟨ny, by_⟩, ya, yc⟩ := y
          have q0 : wr.cell? ⟨gx, ox + i * 3, none⟩ = some (.int .u64 (ny : Int)) := (hbr.out.cell (p := ⟨gx, ox + i * 3, none⟩) hgx).trans (hcx 0 _ rfl)
          have q1 : wr.cell? ⟨gx, ox + i * 3 + 1, none⟩ = some (.int .i64 (by_ : Int)) := (hbr.out.cell (p := ⟨gx, ox + i * 3 + 1, none⟩) hgx).trans (hcx 1 _ rfl)
          have q2 : wr.cell? ⟨gx, ox + i * 3 + 2, none⟩ = some (.slice ya 256 yc) := (hbr.out.cell (p := ⟨gx, ox + i * 3 + 2, none⟩) hgx).trans (hcx 2 _ rfl)
          have gur : gu < wr.heap.size := Nat.lt_of_lt_of_le hgu hbr.out.size
          have u0' : ∀ o, (wr.alloc o).cell? ⟨gu, ou + i * 2, none⟩ = some (.int .u64 (ny : Int)) := fun o => ((below_box1 wr o).cell (p := ⟨gu, ou + i * 2, none⟩) gur).trans ((hbr.out.cell (p := ⟨gu, ou + i * 2, none⟩) hgu).trans (hcu 0 _ rfl))
          have u1' : ∀ o, (wr.alloc o).cell? ⟨gu, ou + i * 2 + 1, none⟩ = some (.int .i64 (by_ : Int)) := fun o => ((below_box1 wr o).cell (p := ⟨gu, ou + i * 2 + 1, none⟩) gur).trans ((hbr.out.cell (p := ⟨gu, ou + i * 2 + 1, none⟩) hgu).trans (hcu 1 _ rfl))
          clear hcx hcu hx hy hxy hsx hgx hgu hil
          have HBA : Hid (∀ o, Below w3.heap.size w3 (wr.alloc o)) := fun o => hbr.out.trans ((below_box1 wr o).mono hbr.out.size)
          go_wp2
          go_quiet (fail)
          go_wp2
          go_roundw
          case rel => exact ⟨i + 1, by omega, by go_num, Lib.hid (below_drewN (HBA.out _) _)⟩
          case measure => simp [intOf]; omega
        · have dl : ¬ (i : Int) < (N : Int) := by omega
          go_wp2
          go_meet
          exact hbr
    case rest =>
      have hb4 := hcut.out
      have hS4 := HS3.out.up hb4 (Nat.le_refl _)
      have hR4 := HR.out.up hb4
      have HB4 : Hid (Below w.heap.size w wc) := HB3.out.trans (hb4.mono HB3.out.size)
      have HS4 := Lib.hid hS4
      have HR4 := Lib.hid hR4
      clear hb4 hS4 hR4 HB3 HS3 HR hcut HU HSE
      go_wp2_with fail
      refine (stwice_c wc HS4.out).mono ?_
      rintro e w5 ⟨rfl, hb5⟩
      obtain ⟨tb, htb⟩ : ∃ tb, tb = T.isSome := ⟨_, rfl⟩
      obtain ⟨te, hte⟩ : ∃ te, te = (T.getD (0, 0)).1 := ⟨_, rfl⟩
      obtain ⟨tk, htk⟩ : ∃ tk, tk = (T.getD (0, 0)).2 := ⟨_, rfl⟩
      have hnv : nonV (T.getD (0, 0)) = .agg #[.int .u64 (te : Int), .int .i64 (tk : Int)] := by rw [hte, htk]; rfl
      rw [hnv, ← htb]
      have hbl5 := (hb5.block r (lt_of_block HR4.out.blk)).trans HR4.out.blk
      rw [← htb, ← hte, ← htk] at hbl5
      have HBL5 := Lib.hid hbl5
      have HB5 : Hid (Below w.heap.size w w5) := HB4.out.trans (hb5.mono HB4.out.size)
      clear hb5 hbl5 hnv htb hte htk HS4 HR4 HB4
      go_wp2
      obtain ⟨w6, hw6⟩ : ∃ w6, w6 = w5.alloc (.cells #[.int .u64 (te : Int), .int .i64 (tk : Int)] 42) := ⟨_, rfl⟩
      rw [← hw6]
      have hb6 : Below w5.heap.size w5 w6 := by rw [hw6]; exact below_box1 _ _
      have hn6 : w6.heap[w5.heap.size]? = some (.cells #[.int .u64 (te : Int), .int .i64 (tk : Int)] 42 (0, 0)) := by rw [hw6]; exact heap_new' _ _
      have hr6 := (hb6.block r (lt_of_block HBL5.out)).trans HBL5.out
      have HB6 : Hid (Below w.heap.size w w6) := HB5.out.trans (hb6.mono HB5.out.size)
      obtain ⟨nb, hnb⟩ : ∃ nb, nb = w5.heap.size := ⟨_, rfl⟩
      rw [← hnb] at hn6 ⊢
      have C0 : Hid (∀ w', Below w6.heap.size w6 w' → w'.cell? ⟨nb, 0, none⟩ = some (.int .u64 (te : Int))) := fun w' h => (cells_at ((h.block nb (lt_of_block hn6)).trans hn6) 0).trans rfl
      have C1 : Hid (∀ w', Below w6.heap.size w6 w' → w'.cell? ⟨nb, 1, none⟩ = some (.int .i64 (tk : Int))) := fun w' h => (cells_at ((h.block nb (lt_of_block hn6)).trans hn6) 1).trans rfl
      have R2 : Hid (∀ w', Below w6.heap.size w6 w' → w'.cell? ⟨r, 2, none⟩ = some (.bool tb)) := fun w' h => (cells_at ((h.block r (lt_of_block hr6)).trans hr6) 2).trans rfl
      have R3 : Hid (∀ w', Below w6.heap.size w6 w' → w'.cell? ⟨r, 3, none⟩ = some (.int .u64 (te : Int))) := fun w' h => (cells_at ((h.block r (lt_of_block hr6)).trans hr6) 3).trans rfl
      have R4 : Hid (∀ w', Below w6.heap.size w6 w' → w'.cell? ⟨r, 4, none⟩ = some (.int .i64 (tk : Int))) := fun w' h => (cells_at ((h.block r (lt_of_block hr6)).trans hr6) 4).trans rfl
      clear hw6 hb6 hn6 hr6 hnb HBL5 HB5
      refine wp_region_held_drew (S := fun w' => Below w6.heap.size w6 w') (by kernel_rfl) (Below.refl _ _).drew ?_
      intro hS
      generalize w6.drew = WD at hS ⊢
      change wpAnyH _ _ _ _ _ 30 #[false, false, false, false, false, false, false, false, false, false, false, false, false, false, false, false, false, false, false, false, false, false, false, false, false, false, false, false, false, false] _ _
      refine wpAnyH_take (i := 0) (v := ?_) rfl (by kernel_rfl) (by kernel_rfl) (by kernel_rfl) (fun _ _ _ h => h) (Or.inl ⟨by rfl, ?hy⟩) hS ?_
      case hy => intro w' hSw; go_simp; try with_reducible rfl
      simp only [List.getElem_toArray, List.getElem_cons_succ, List.getElem_cons_zero, Act.put, List.setIfInBounds_toArray, List.set_cons_zero, List.set_cons_succ]
      change wpAnyH _ _ _ _ _ 29 #[true, false, false, false, false, false, false, false, false, false, false, false, false, false, false, false, false, false, false, false, false, false, false, false, false, false, false, false, false, false] _ _
      refine wpAnyH_take (i := 1) (v := ?_) rfl (by kernel_rfl) (by kernel_rfl) (by kernel_rfl) (fun _ _ _ h => h) (Or.inl ⟨by rfl, ?hy⟩) hS ?_
      case hy => intro w' hSw; go_simp; try with_reducible rfl
      simp only [List.getElem_toArray, List.getElem_cons_succ, List.getElem_cons_zero, Act.put, List.setIfInBounds_toArray, List.set_cons_zero, List.set_cons_succ]
      change wpAnyH _ _ _ _ _ 28 #[true, true, false, false, false, false, false, false, false, false, false, false, false, false, false, false, false, false, false, false, false, false, false, false, false, false, false, false, false, false] _ _
      refine wpAnyH_take (i := 2) (v := ?_) rfl (by kernel_rfl) (by kernel_rfl) (by kernel_rfl) (fun _ _ _ h => h) (Or.inl ⟨by rfl, ?hy⟩) hS ?_
      case hy => intro w' hSw; go_simp; try with_reducible rfl
      simp only [List.getElem_toArray, List.getElem_cons_succ, List.getElem_cons_zero, Act.put, List.setIfInBounds_toArray, List.set_cons_zero, List.set_cons_succ]
      change wpAnyH _ _ _ _ _ 27 #[true, true, true, false, false, false, false, false, false, false, false, false, false, false, false, false, false, false, false, false, false, false, false, false, false, false, false, false, false, false] _ _
      refine wpAnyH_take (i := 3) (v := ?_) rfl (by kernel_rfl) (by kernel_rfl) (by kernel_rfl) (fun _ _ _ h => h) (Or.inl ⟨by rfl, ?hy⟩) hS ?_
      case hy => intro w' hSw; go_simp; try with_reducible rfl
      simp only [List.getElem_toArray, List.getElem_cons_succ, List.getElem_cons_zero, Act.put, List.setIfInBounds_toArray, List.set_cons_zero, List.set_cons_succ]
      change wpAnyH _ _ _ _ _ 26 #[true, true, true, true, false, false, false, false, false, false, false, false, false, false, false, false, false, false, false, false, false, false, false, false, false, false, false, false, false, false] _ _
      refine wpAnyH_take (i := 4) (v := ?_) rfl (by kernel_rfl) (by kernel_rfl) (by kernel_rfl) (fun _ _ _ h => h) (Or.inl ⟨by rfl, ?hy⟩) hS ?_
      case hy => intro w' hSw; have c0 := C0.out w' hSw; have c1 := C1.out w' hSw; have r2 := R2.out w' hSw; have r3 := R3.out w' hSw; have r4 := R4.out w' hSw; go_simp; try with_reducible rfl
      simp only [List.getElem_toArray, List.getElem_cons_succ, List.getElem_cons_zero, Act.put, List.setIfInBounds_toArray, List.set_cons_zero, List.set_cons_succ]
      change wpAnyH _ _ _ _ _ 25 #[true, true, true, true, true, false, false, false, false, false, false, false, false, false, false, false, false, false, false, false, false, false, false, false, false, false, false, false, false, false] _ _
      refine wpAnyH_take (i := 5) (v := ?_) rfl (by kernel_rfl) (by kernel_rfl) (by kernel_rfl) (fun _ _ _ h => h) (Or.inl ⟨by rfl, ?hy⟩) hS ?_
      case hy => intro w' hSw; go_simp; try with_reducible rfl
      simp only [List.getElem_toArray, List.getElem_cons_succ, List.getElem_cons_zero, Act.put, List.setIfInBounds_toArray, List.set_cons_zero, List.set_cons_succ]
      change wpAnyH _ _ _ _ _ 24 #[true, true, true, true, true, true, false, false, false, false, false, false, false, false, false, false, false, false, false, false, false, false, false, false, false, false, false, false, false, false] _ _
      refine wpAnyH_take (i := 6) (v := ?_) rfl (by kernel_rfl) (by kernel_rfl) (by kernel_rfl) (fun _ _ _ h => h) (Or.inl ⟨by rfl, ?hy⟩) hS ?_
      case hy => intro w' hSw; go_simp; try with_reducible rfl
      simp only [List.getElem_toArray, List.getElem_cons_succ, List.getElem_cons_zero, Act.put, List.setIfInBounds_toArray, List.set_cons_zero, List.set_cons_succ]
      change wpAnyH _ _ _ _ _ 23 #[true, true, true, true, true, true, true, false, false, false, false, false, false, false, false, false, false, false, false, false, false, false, false, false, false, false, false, false, false, false] _ _
      refine wpAnyH_take (i := 7) (v := ?_) rfl (by kernel_rfl) (by kernel_rfl) (by kernel_rfl) (fun _ _ _ h => h) (Or.inl ⟨by rfl, ?hy⟩) hS ?_
      case hy => intro w' hSw; go_simp; try with_reducible rfl
      simp only [List.getElem_toArray, List.getElem_cons_succ, List.getElem_cons_zero, Act.put, List.setIfInBounds_toArray, List.set_cons_zero, List.set_cons_succ]
      change wpAnyH _ _ _ _ _ 22 #[true, true, true, true, true, true, true, true, false, false, false, false, false, false, false, false, false, false, false, false, false, false, false, false, false, false, false, false, false, false] _ _
      refine wpAnyH_take (i := 8) (v := ?_) rfl (by kernel_rfl) (by kernel_rfl) (by kernel_rfl) (fun _ _ _ h => h) (Or.inl ⟨by rfl, ?hy⟩) hS ?_
      case hy => intro w' hSw; have c0 := C0.out w' hSw; have c1 := C1.out w' hSw; have r2 := R2.out w' hSw; have r3 := R3.out w' hSw; have r4 := R4.out w' hSw; go_simp; try with_reducible rfl
      simp only [List.getElem_toArray, List.getElem_cons_succ, List.getElem_cons_zero, Act.put, List.setIfInBounds_toArray, List.set_cons_zero, List.set_cons_succ]
      change wpAnyH _ _ _ _ _ 21 #[true, true, true, true, true, true, true, true, true, false, false, false, false, false, false, false, false, false, false, false, false, false, false, false, false, false, false, false, false, false] _ _
      refine wpAnyH_take (i := 9) (v := ?_) rfl (by kernel_rfl) (by kernel_rfl) (by kernel_rfl) (fun _ _ _ h => h) (Or.inl ⟨by rfl, ?hy⟩) hS ?_
      case hy => intro w' hSw; go_simp; try with_reducible rfl
      simp only [List.getElem_toArray, List.getElem_cons_succ, List.getElem_cons_zero, Act.put, List.setIfInBounds_toArray, List.set_cons_zero, List.set_cons_succ]
      change wpAnyH _ _ _ _ _ 20 #[true, true, true, true, true, true, true, true, true, true, false, false, false, false, false, false, false, false, false, false, false, false, false, false, false, false, false, false, false, false] _ _
      refine wpAnyH_take (i := 10) (v := ?_) rfl (by kernel_rfl) (by kernel_rfl) (by kernel_rfl) (fun _ _ _ h => h) (Or.inl ⟨by rfl, ?hy⟩) hS ?_
      case hy => intro w' hSw; go_simp; try with_reducible rfl
      simp only [List.getElem_toArray, List.getElem_cons_succ, List.getElem_cons_zero, Act.put, List.setIfInBounds_toArray, List.set_cons_zero, List.set_cons_succ]
      change wpAnyH _ _ _ _ _ 19 #[true, true, true, true, true, true, true, true, true, true, true, false, false, false, false, false, false, false, false, false, false, false, false, false, false, false, false, false, false, false] _ _
      refine wpAnyH_take (i := 11) (v := ?_) rfl (by kernel_rfl) (by kernel_rfl) (by kernel_rfl) (fun _ _ _ h => h) (Or.inl ⟨by rfl, ?hy⟩) hS ?_
      case hy => intro w' hSw; go_simp; try with_reducible rfl
      simp only [List.getElem_toArray, List.getElem_cons_succ, List.getElem_cons_zero, Act.put, List.setIfInBounds_toArray, List.set_cons_zero, List.set_cons_succ]
      change wpAnyH _ _ _ _ _ 18 #[true, true, true, true, true, true, true, true, true, true, true, true, false, false, false, false, false, false, false, false, false, false, false, false, false, false, false, false, false, false] _ _
      refine wpAnyH_take (i := 12) (v := ?_) rfl (by kernel_rfl) (by kernel_rfl) (by kernel_rfl) (fun _ _ _ h => h) (Or.inl ⟨by rfl, ?hy⟩) hS ?_
      case hy => intro w' hSw; go_simp; try with_reducible rfl
      simp only [List.getElem_toArray, List.getElem_cons_succ, List.getElem_cons_zero, Act.put, List.setIfInBounds_toArray, List.set_cons_zero, List.set_cons_succ]
      change wpAnyH _ _ _ _ _ 17 #[true, true, true, true, true, true, true, true, true, true, true, true, true, false, false, false, false, false, false, false, false, false, false, false, false, false, false, false, false, false] _ _
      refine wpAnyH_take (i := 13) (v := ?_) rfl (by kernel_rfl) (by kernel_rfl) (by kernel_rfl) (fun _ _ _ h => h) (Or.inl ⟨by rfl, ?hy⟩) hS ?_
      case hy => intro w' hSw; have c0 := C0.out w' hSw; have c1 := C1.out w' hSw; have r2 := R2.out w' hSw; have r3 := R3.out w' hSw; have r4 := R4.out w' hSw; go_simp; try with_reducible rfl
      simp only [List.getElem_toArray, List.getElem_cons_succ, List.getElem_cons_zero, Act.put, List.setIfInBounds_toArray, List.set_cons_zero, List.set_cons_succ]
      change wpAnyH _ _ _ _ _ 16 #[true, true, true, true, true, true, true, true, true, true, true, true, true, true, false, false, false, false, false, false, false, false, false, false, false, false, false, false, false, false] _ _
      refine wpAnyH_take (i := 14) (v := ?_) rfl (by kernel_rfl) (by kernel_rfl) (by kernel_rfl) (fun _ _ _ h => h) (Or.inl ⟨by rfl, ?hy⟩) hS ?_
      case hy => intro w' hSw; go_simp; try with_reducible rfl
      simp only [List.getElem_toArray, List.getElem_cons_succ, List.getElem_cons_zero, Act.put, List.setIfInBounds_toArray, List.set_cons_zero, List.set_cons_succ]
      change wpAnyH _ _ _ _ _ 15 #[true, true, true, true, true, true, true, true, true, true, true, true, true, true, true, false, false, false, false, false, false, false, false, false, false, false, false, false, false, false] _ _
      refine wpAnyH_take (i := 15) (v := ?_) rfl (by kernel_rfl) (by kernel_rfl) (by kernel_rfl) (fun _ _ _ h => h) (Or.inl ⟨by rfl, ?hy⟩) hS ?_
      case hy => intro w' hSw; go_simp; try with_reducible rfl
      simp only [List.getElem_toArray, List.getElem_cons_succ, List.getElem_cons_zero, Act.put, List.setIfInBounds_toArray, List.set_cons_zero, List.set_cons_succ]
      change wpAnyH _ _ _ _ _ 14 #[true, true, true, true, true, true, true, true, true, true, true, true, true, true, true, true, false, false, false, false, false, false, false, false, false, false, false, false, false, false] _ _
      refine wpAnyH_take (i := 16) (v := ?_) rfl (by kernel_rfl) (by kernel_rfl) (by kernel_rfl) (fun _ _ _ h => h) (Or.inl ⟨by rfl, ?hy⟩) hS ?_
      case hy => intro w' hSw; go_simp; try with_reducible rfl
      simp only [List.getElem_toArray, List.getElem_cons_succ, List.getElem_cons_zero, Act.put, List.setIfInBounds_toArray, List.set_cons_zero, List.set_cons_succ]
      change wpAnyH _ _ _ _ _ 13 #[true, true, true, true, true, true, true, true, true, true, true, true, true, true, true, true, true, false, false, false, false, false, false, false, false, false, false, false, false, false] _ _
      refine wpAnyH_take (i := 17) (v := ?_) rfl (by kernel_rfl) (by kernel_rfl) (by kernel_rfl) (fun _ _ _ h => h) (Or.inl ⟨by rfl, ?hy⟩) hS ?_
      case hy => intro w' hSw; go_simp; try with_reducible rfl
      simp only [List.getElem_toArray, List.getElem_cons_succ, List.getElem_cons_zero, Act.put, List.setIfInBounds_toArray, List.set_cons_zero, List.set_cons_succ]
      change wpAnyH _ _ _ _ _ 12 #[true, true, true, true, true, true, true, true, true, true, true, true, true, true, true, true, true, true, false, false, false, false, false, false, false, false, false, false, false, false] _ _
      refine wpAnyH_take (i := 18) (v := ?_) rfl (by kernel_rfl) (by kernel_rfl) (by kernel_rfl) (fun _ _ _ h => h) (Or.inl ⟨by rfl, ?hy⟩) hS ?_
      case hy => intro w' hSw; have c0 := C0.out w' hSw; have c1 := C1.out w' hSw; have r2 := R2.out w' hSw; have r3 := R3.out w' hSw; have r4 := R4.out w' hSw; go_simp; try with_reducible rfl
      simp only [List.getElem_toArray, List.getElem_cons_succ, List.getElem_cons_zero, Act.put, List.setIfInBounds_toArray, List.set_cons_zero, List.set_cons_succ]
      change wpAnyH _ _ _ _ _ 11 #[true, true, true, true, true, true, true, true, true, true, true, true, true, true, true, true, true, true, true, false, false, false, false, false, false, false, false, false, false, false] _ _
      refine wpAnyH_take (i := 19) (v := ?_) rfl (by kernel_rfl) (by kernel_rfl) (by kernel_rfl) (fun _ _ _ h => h) (Or.inl ⟨by rfl, ?hy⟩) hS ?_
      case hy => intro w' hSw; go_simp; try with_reducible rfl
      simp only [List.getElem_toArray, List.getElem_cons_succ, List.getElem_cons_zero, Act.put, List.setIfInBounds_toArray, List.set_cons_zero, List.set_cons_succ]
      change wpAnyH _ _ _ _ _ 10 #[true, true, true, true, true, true, true, true, true, true, true, true, true, true, true, true, true, true, true, true, false, false, false, false, false, false, false, false, false, false] _ _
      refine wpAnyH_take (i := 20) (v := ?_) rfl (by kernel_rfl) (by kernel_rfl) (by kernel_rfl) (fun _ _ _ h => h) (Or.inl ⟨by rfl, ?hy⟩) hS ?_
      case hy => intro w' hSw; go_simp; try with_reducible rfl
      simp only [List.getElem_toArray, List.getElem_cons_succ, List.getElem_cons_zero, Act.put, List.setIfInBounds_toArray, List.set_cons_zero, List.set_cons_succ]
      change wpAnyH _ _ _ _ _ 9 #[true, true, true, true, true, true, true, true, true, true, true, true, true, true, true, true, true, true, true, true, true, false, false, false, false, false, false, false, false, false] _ _
      refine wpAnyH_take (i := 21) (v := ?_) rfl (by kernel_rfl) (by kernel_rfl) (by kernel_rfl) (fun _ _ _ h => h) (Or.inl ⟨by rfl, ?hy⟩) hS ?_
      case hy => intro w' hSw; go_simp; try with_reducible rfl
      simp only [List.getElem_toArray, List.getElem_cons_succ, List.getElem_cons_zero, Act.put, List.setIfInBounds_toArray, List.set_cons_zero, List.set_cons_succ]
      change wpAnyH _ _ _ _ _ 8 #[true, true, true, true, true, true, true, true, true, true, true, true, true, true, true, true, true, true, true, true, true, true, false, false, false, false, false, false, false, false] _ _
      refine wpAnyH_take (i := 22) (v := ?_) rfl (by kernel_rfl) (by kernel_rfl) (by kernel_rfl) (fun _ _ _ h => h) (Or.inl ⟨by rfl, ?hy⟩) hS ?_
      case hy => intro w' hSw; go_simp; try with_reducible rfl
      simp only [List.getElem_toArray, List.getElem_cons_succ, List.getElem_cons_zero, Act.put, List.setIfInBounds_toArray, List.set_cons_zero, List.set_cons_succ]
      change wpAnyH _ _ _ _ _ 7 #[true, true, true, true, true, true, true, true, true, true, true, true, true, true, true, true, true, true, true, true, true, true, true, false, false, false, false, false, false, false] _ _
      refine wpAnyH_take (i := 23) (v := ?_) rfl (by kernel_rfl) (by kernel_rfl) (by kernel_rfl) (fun _ _ _ h => h) (Or.inl ⟨by rfl, ?hy⟩) hS ?_
      case hy => intro w' hSw; have c0 := C0.out w' hSw; have c1 := C1.out w' hSw; have r2 := R2.out w' hSw; have r3 := R3.out w' hSw; have r4 := R4.out w' hSw; go_simp; try with_reducible rfl
      simp only [List.getElem_toArray, List.getElem_cons_succ, List.getElem_cons_zero, Act.put, List.setIfInBounds_toArray, List.set_cons_zero, List.set_cons_succ]
      change wpAnyH _ _ _ _ _ 6 #[true, true, true, true, true, true, true, true, true, true, true, true, true, true, true, true, true, true, true, true, true, true, true, true, false, false, false, false, false, false] _ _
      refine wpAnyH_take (i := 24) (v := ?_) rfl (by kernel_rfl) (by kernel_rfl) (by kernel_rfl) (fun _ _ _ h => h) (Or.inl ⟨by rfl, ?hy⟩) hS ?_
      case hy => intro w' hSw; go_simp; try with_reducible rfl
      simp only [List.getElem_toArray, List.getElem_cons_succ, List.getElem_cons_zero, Act.put, List.setIfInBounds_toArray, List.set_cons_zero, List.set_cons_succ]
      change wpAnyH _ _ _ _ _ 5 #[true, true, true, true, true, true, true, true, true, true, true, true, true, true, true, true, true, true, true, true, true, true, true, true, true, false, false, false, false, false] _ _
      refine wpAnyH_take (i := 25) (v := ?_) rfl (by kernel_rfl) (by kernel_rfl) (by kernel_rfl) (fun _ _ _ h => h) (Or.inl ⟨by rfl, ?hy⟩) hS ?_
      case hy => intro w' hSw; go_simp; try with_reducible rfl
      simp only [List.getElem_toArray, List.getElem_cons_succ, List.getElem_cons_zero, Act.put, List.setIfInBounds_toArray, List.set_cons_zero, List.set_cons_succ]
      change wpAnyH _ _ _ _ _ 4 #[true, true, true, true, true, true, true, true, true, true, true, true, true, true, true, true, true, true, true, true, true, true, true, true, true, true, false, false, false, false] _ _
      refine wpAnyH_take (i := 26) (v := ?_) rfl (by kernel_rfl) (by kernel_rfl) (by kernel_rfl) (fun _ _ _ h => h) (Or.inl ⟨by rfl, ?hy⟩) hS ?_
      case hy => intro w' hSw; go_simp; try with_reducible rfl
      simp only [List.getElem_toArray, List.getElem_cons_succ, List.getElem_cons_zero, Act.put, List.setIfInBounds_toArray, List.set_cons_zero, List.set_cons_succ]
      change wpAnyH _ _ _ _ _ 3 #[true, true, true, true, true, true, true, true, true, true, true, true, true, true, true, true, true, true, true, true, true, true, true, true, true, true, true, false, false, false] _ _
      refine wpAnyH_ready (rs := [27]) (by kernel_rfl) (by simp) ?_
      refine AllReadyH.cons rfl (fun K hK => ?_) AllReadyH.nil
      rw [if_pos (by rfl)]
      go_simp
      refine (awake10_c WD).mono ?_
      rintro r9 w9 ⟨rfl, hb9⟩
      refine hK.out _ _ (hS.trans (hb9.mono hS.size)) (fun hS9 => ?_)
      clear hK K
      simp only [List.getElem_toArray, List.getElem_cons_succ, List.getElem_cons_zero, Act.put, List.setIfInBounds_toArray, List.set_cons_zero, List.set_cons_succ]
      change wpAnyH _ _ _ _ _ 2 #[true, true, true, true, true, true, true, true, true, true, true, true, true, true, true, true, true, true, true, true, true, true, true, true, true, true, true, true, false, false] _ _
      refine wpAnyH_take (i := 28) (v := ?_) rfl (by kernel_rfl) (by kernel_rfl) (by kernel_rfl) (fun _ _ _ h => h) (Or.inl ⟨by rfl, ?hy⟩) hS9 ?_
      case hy => intro w' hSw; go_simp; try with_reducible rfl
      simp only [List.getElem_toArray, List.getElem_cons_succ, List.getElem_cons_zero, Act.put, List.setIfInBounds_toArray, List.set_cons_zero, List.set_cons_succ]
      change wpAnyH _ _ _ _ _ 1 #[true, true, true, true, true, true, true, true, true, true, true, true, true, true, true, true, true, true, true, true, true, true, true, true, true, true, true, true, true, false] _ _
      refine wpAnyH_take (i := 29) (v := ?_) rfl (by kernel_rfl) (by kernel_rfl) (by kernel_rfl) (fun _ _ _ h => h) (Or.inl ⟨by rfl, ?hy⟩) hS9 ?_
      case hy => intro w' hSw; go_simp; try with_reducible rfl
      simp only [List.getElem_toArray, List.getElem_cons_succ, List.getElem_cons_zero, Act.put, List.setIfInBounds_toArray, List.set_cons_zero, List.set_cons_succ]
      change wpAnyH _ _ _ _ _ 0 #[true, true, true, true, true, true, true, true, true, true, true, true, true, true, true, true, true, true, true, true, true, true, true, true, true, true, true, true, true, true] _ _
      refine wpAnyH_done (by kernel_rfl) ?_ _
      go_wp2_with fail
      go_ret
      exact ⟨rfl, HB6.out.trans (hS9.mono HB6.out.size)⟩
end Go.Proofs.Ytinjafacnekkcaa
