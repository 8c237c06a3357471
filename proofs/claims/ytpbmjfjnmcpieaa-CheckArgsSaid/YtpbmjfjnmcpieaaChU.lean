/- package pages: Page.bytes. Printed by gen_chu.py. -/
import Derived.Test.YtpbmjfjnmcpieaaChT
import Derived.Test.YtpbmjfjnmcpieaaFree
set_option linter.unusedVariables false
set_option linter.unusedSimpArgs false
namespace Go.Proofs.Ytpbmjfjnmcpieaa
open Go Go.RowKit
def hdB (p : Pg) : List Nat := [p.kind % 256, p.cls % 256]
/-- a page's sixteen bytes -/
def pgB (p : Pg) : List Nat := hdB p ++ (lowB 2 p.run ++ (lowB 4 p.size ++ lowB 8 p.ser))
theorem hdB_lt (p : Pg) : ∀ x ∈ hdB p, x < 256 := by
  intro x hx
  simp only [hdB, List.mem_cons, List.not_mem_nil, or_false] at hx
  rcases hx with rfl | rfl <;> exact Nat.mod_lt _ (by decide)
theorem pgB_lt (p : Pg) : ∀ x ∈ pgB p, x < 256 := app_lt (hdB_lt p) (app_lt (lowB_lt _ _) (app_lt (lowB_lt _ _) (lowB_lt _ _)))
theorem pgB_len (p : Pg) : (pgB p).length = 16 := by simp [pgB, hdB, lowB_len]
def pgSegs (p : Pg) (b0 b1 b2 b3 : Nat) : List (Nat × List Nat) := [(b0, hdB p), (b1, lowB 2 p.run), (b2, lowB 4 p.size), (b3, lowB 8 p.ser)]
theorem pgSegs_tot (p : Pg) (b0 b1 b2 b3 : Nat) : totL (pgSegs p b0 b1 b2 b3) = 16 := by simp [pgSegs, totL, hdB, lowB_len]
theorem pgSegs_cat (p : Pg) (b0 b1 b2 b3 : Nat) : catL (pgSegs p b0 b1 b2 b3) = pgB p := by simp [pgSegs, catL, pgB]
theorem u8_of_nat (n : Nat) : IntKind.u8.wrap (n : Int) = ((n % 256 : Nat) : Int) := by rw [IntKind.wrap_u8]; omega
/-- a fresh block of bytes -/
def FreshB (w : World) (b : Nat) (l : List Nat) : Prop := w.heap[b]? = some (.cells (bA l) 5 (0, 0))
theorem FreshB.kept {w w' : World} {b : Nat} {l : List Nat} (h : FreshB w b l) (hk : Fre.Kept w w') : FreshB w' b l := (hk.block _ (lt_of_block h)).trans h
theorem put_f (n v : Nat) (hv : v < 18446744073709551616) (h1 : 1 ≤ n) (hn : n ≤ 8) (w : World) :
    Calls Try.prog 69 #[.int .i64 (n : Int), .int .u64 (v : Int)] w
      fun e w' => ∃ u, e = .returned u ∧ (∃ b, u = .slice (some ⟨b, 0, none⟩) n n ∧ FreshB w' b (lowB n v)) ∧ Fre.Kept w w' :=
  (put_c n v hv h1 hn n v rfl rfl w).mono fun e w' ⟨b, he, _, _, hb, hk⟩ => ⟨_, he, ⟨b, rfl, hb⟩, hk⟩
def opsPB : {o : Array Oper // some o = (Try.f52.body.bind (Fre.findR 1))} := ⟨_, rfl⟩
theorem fitPB : Fre.fit .any opsPB.1 23 = true := by kernel_rfl
theorem sizePB : opsPB.1.size = 21 := by kernel_rfl
def VPB (p : Pg) (g B : Nat) (i : Nat) (v : Value) (w : World) : Prop := match i with
  | 0 => v = .pointer (some ⟨g, 0, none⟩)
  | 1 => v = .int .i64 (p.kind : Int)
  | 2 => v = .int .u8 ((p.kind % 256 : Nat) : Int)
  | 3 => v = .pointer (some ⟨g, 1, none⟩)
  | 4 => v = .int .i64 (p.cls : Int)
  | 5 => v = .int .u8 ((p.cls % 256 : Nat) : Int)
  | 6 => ∃ b, v = .slice (some ⟨b, 0, none⟩) 2 2 ∧ FreshB w b (hdB p)
  | 7 => v = .pointer (some ⟨g, 2, none⟩)
  | 8 => v = .int .i64 (p.run : Int)
  | 9 => v = .int .u64 (p.run : Int)
  | 10 => ∃ b, v = .slice (some ⟨b, 0, none⟩) 2 2 ∧ FreshB w b (lowB 2 p.run)
  | 11 => v = .pointer (some ⟨g, 3, none⟩)
  | 12 => v = .int .i64 (p.size : Int)
  | 13 => v = .int .u64 (p.size : Int)
  | 14 => ∃ b, v = .slice (some ⟨b, 0, none⟩) 4 4 ∧ FreshB w b (lowB 4 p.size)
  | 15 => v = .pointer (some ⟨g, 4, none⟩)
  | 16 => v = .int .u64 (p.ser : Int)
  | 17 => ∃ b, v = .slice (some ⟨b, 0, none⟩) 8 8 ∧ FreshB w b (lowB 8 p.ser)
  | 18 => ∃ b b0 b1 b2 b3, v = .slice (some ⟨b, 0, none⟩) 4 4 ∧ w.heap[b]? = some (.cells (segA (pgSegs p b0 b1 b2 b3)) 34 (0, 0)) ∧ SegsIn w (pgSegs p b0 b1 b2 b3)
  | 19 => w.ownsRow B 5 1 v 16 (bA (pgB p)).toList
  | 20 => w.ownsRow B 5 1 v 16 (bA (pgB p)).toList
  | _ => True
set_option maxRecDepth 100000 in
theorem stPB_0 (p : Pg) (g B : Nat) (w0 : World) (h0 : w0.heap[g]? = some (.cells (pgA p) 81 (0, 0))) (hsz : p.run < 9223372036854775808 ∧ p.size < 9223372036854775808 ∧ p.ser < 18446744073709551616) (hB : B ≤ w0.heap.size) : Fre.StepB Try.prog opsPB.1 ⟨#[.agg (pgA p), .pointer (some ⟨g, 0, none⟩), .slice none 0 0, undef, undef, undef, undef, undef, undef, undef, undef, undef, undef, undef, undef, undef, undef, undef, undef, undef, undef, undef, undef], []⟩ w0 (VPB p g B) Fre.Kept 0 := by
  intro E w hc hf hE hV hN hS o ho
  obtain rfl := Option.some.inj ho
  clear ho
  simp only [opsPB, List.getElem_toArray, List.getElem_cons_succ, List.getElem_cons_zero]
  have b1 : E (.tmp 1) = .pointer (some ⟨g, 0, none⟩) := hE 1 (by kernel_rfl)
  refine Fre.Does.value (v := .pointer (some ⟨g, 0, none⟩)) (w' := w) ?_ ⟨rfl, Fre.Kept.refl _⟩
  go_simp
set_option maxRecDepth 100000 in
theorem stPB_1 (p : Pg) (g B : Nat) (w0 : World) (h0 : w0.heap[g]? = some (.cells (pgA p) 81 (0, 0))) (hsz : p.run < 9223372036854775808 ∧ p.size < 9223372036854775808 ∧ p.ser < 18446744073709551616) (hB : B ≤ w0.heap.size) : Fre.StepB Try.prog opsPB.1 ⟨#[.agg (pgA p), .pointer (some ⟨g, 0, none⟩), .slice none 0 0, undef, undef, undef, undef, undef, undef, undef, undef, undef, undef, undef, undef, undef, undef, undef, undef, undef, undef, undef, undef], []⟩ w0 (VPB p g B) Fre.Kept 1 := by
  intro E w hc hf hE hV hN hS o ho
  obtain rfl := Option.some.inj ho
  clear ho
  simp only [opsPB, List.getElem_toArray, List.getElem_cons_succ, List.getElem_cons_zero]
  have d0 := hV 0 3 (by kernel_rfl) (by kernel_rfl)
  have d0 : E (.tmp 3) = .pointer (some ⟨g, 0, none⟩) := d0
  have hb := (hS.block g (lt_of_block h0)).trans h0
  have c0 := (cells_at hb 0).trans (show _ = some (.int .i64 (p.kind : Int)) from rfl)
  refine Fre.Does.value (v := .int .i64 (p.kind : Int)) (w' := w) ?_ ⟨rfl, Fre.Kept.refl _⟩
  go_simp
set_option maxRecDepth 100000 in
theorem stPB_2 (p : Pg) (g B : Nat) (w0 : World) (h0 : w0.heap[g]? = some (.cells (pgA p) 81 (0, 0))) (hsz : p.run < 9223372036854775808 ∧ p.size < 9223372036854775808 ∧ p.ser < 18446744073709551616) (hB : B ≤ w0.heap.size) : Fre.StepB Try.prog opsPB.1 ⟨#[.agg (pgA p), .pointer (some ⟨g, 0, none⟩), .slice none 0 0, undef, undef, undef, undef, undef, undef, undef, undef, undef, undef, undef, undef, undef, undef, undef, undef, undef, undef, undef, undef], []⟩ w0 (VPB p g B) Fre.Kept 2 := by
  intro E w hc hf hE hV hN hS o ho
  obtain rfl := Option.some.inj ho
  clear ho
  simp only [opsPB, List.getElem_toArray, List.getElem_cons_succ, List.getElem_cons_zero]
  have d1 := hV 1 4 (by kernel_rfl) (by kernel_rfl)
  have d1 : E (.tmp 4) = .int .i64 (p.kind : Int) := d1
  have e1 := u8_of_nat p.kind
  refine Fre.Does.value (v := .int .u8 ((p.kind % 256 : Nat) : Int)) (w' := w) ?_ ⟨rfl, Fre.Kept.refl _⟩
  go_simp
set_option maxRecDepth 100000 in
theorem stPB_3 (p : Pg) (g B : Nat) (w0 : World) (h0 : w0.heap[g]? = some (.cells (pgA p) 81 (0, 0))) (hsz : p.run < 9223372036854775808 ∧ p.size < 9223372036854775808 ∧ p.ser < 18446744073709551616) (hB : B ≤ w0.heap.size) : Fre.StepB Try.prog opsPB.1 ⟨#[.agg (pgA p), .pointer (some ⟨g, 0, none⟩), .slice none 0 0, undef, undef, undef, undef, undef, undef, undef, undef, undef, undef, undef, undef, undef, undef, undef, undef, undef, undef, undef, undef], []⟩ w0 (VPB p g B) Fre.Kept 3 := by
  intro E w hc hf hE hV hN hS o ho
  obtain rfl := Option.some.inj ho
  clear ho
  simp only [opsPB, List.getElem_toArray, List.getElem_cons_succ, List.getElem_cons_zero]
  have b1 : E (.tmp 1) = .pointer (some ⟨g, 0, none⟩) := hE 1 (by kernel_rfl)
  refine Fre.Does.value (v := .pointer (some ⟨g, 1, none⟩)) (w' := w) ?_ ⟨rfl, Fre.Kept.refl _⟩
  go_simp
set_option maxRecDepth 100000 in
theorem stPB_4 (p : Pg) (g B : Nat) (w0 : World) (h0 : w0.heap[g]? = some (.cells (pgA p) 81 (0, 0))) (hsz : p.run < 9223372036854775808 ∧ p.size < 9223372036854775808 ∧ p.ser < 18446744073709551616) (hB : B ≤ w0.heap.size) : Fre.StepB Try.prog opsPB.1 ⟨#[.agg (pgA p), .pointer (some ⟨g, 0, none⟩), .slice none 0 0, undef, undef, undef, undef, undef, undef, undef, undef, undef, undef, undef, undef, undef, undef, undef, undef, undef, undef, undef, undef], []⟩ w0 (VPB p g B) Fre.Kept 4 := by
  intro E w hc hf hE hV hN hS o ho
  obtain rfl := Option.some.inj ho
  clear ho
  simp only [opsPB, List.getElem_toArray, List.getElem_cons_succ, List.getElem_cons_zero]
  have d3 := hV 3 6 (by kernel_rfl) (by kernel_rfl)
  have d3 : E (.tmp 6) = .pointer (some ⟨g, 1, none⟩) := d3
  have hb := (hS.block g (lt_of_block h0)).trans h0
  have c0 := (cells_at hb 1).trans (show _ = some (.int .i64 (p.cls : Int)) from rfl)
  refine Fre.Does.value (v := .int .i64 (p.cls : Int)) (w' := w) ?_ ⟨rfl, Fre.Kept.refl _⟩
  go_simp
set_option maxRecDepth 100000 in
theorem stPB_5 (p : Pg) (g B : Nat) (w0 : World) (h0 : w0.heap[g]? = some (.cells (pgA p) 81 (0, 0))) (hsz : p.run < 9223372036854775808 ∧ p.size < 9223372036854775808 ∧ p.ser < 18446744073709551616) (hB : B ≤ w0.heap.size) : Fre.StepB Try.prog opsPB.1 ⟨#[.agg (pgA p), .pointer (some ⟨g, 0, none⟩), .slice none 0 0, undef, undef, undef, undef, undef, undef, undef, undef, undef, undef, undef, undef, undef, undef, undef, undef, undef, undef, undef, undef], []⟩ w0 (VPB p g B) Fre.Kept 5 := by
  intro E w hc hf hE hV hN hS o ho
  obtain rfl := Option.some.inj ho
  clear ho
  simp only [opsPB, List.getElem_toArray, List.getElem_cons_succ, List.getElem_cons_zero]
  have d4 := hV 4 7 (by kernel_rfl) (by kernel_rfl)
  have d4 : E (.tmp 7) = .int .i64 (p.cls : Int) := d4
  have e1 := u8_of_nat p.cls
  refine Fre.Does.value (v := .int .u8 ((p.cls % 256 : Nat) : Int)) (w' := w) ?_ ⟨rfl, Fre.Kept.refl _⟩
  go_simp
set_option maxRecDepth 100000 in
theorem stPB_6 (p : Pg) (g B : Nat) (w0 : World) (h0 : w0.heap[g]? = some (.cells (pgA p) 81 (0, 0))) (hsz : p.run < 9223372036854775808 ∧ p.size < 9223372036854775808 ∧ p.ser < 18446744073709551616) (hB : B ≤ w0.heap.size) : Fre.StepB Try.prog opsPB.1 ⟨#[.agg (pgA p), .pointer (some ⟨g, 0, none⟩), .slice none 0 0, undef, undef, undef, undef, undef, undef, undef, undef, undef, undef, undef, undef, undef, undef, undef, undef, undef, undef, undef, undef], []⟩ w0 (VPB p g B) Fre.Kept 6 := by
  intro E w hc hf hE hV hN hS o ho
  obtain rfl := Option.some.inj ho
  clear ho
  simp only [opsPB, List.getElem_toArray, List.getElem_cons_succ, List.getElem_cons_zero]
  have d2 := hV 2 5 (by kernel_rfl) (by kernel_rfl)
  have d2 : E (.tmp 5) = .int .u8 ((p.kind % 256 : Nat) : Int) := d2
  have d5 := hV 5 8 (by kernel_rfl) (by kernel_rfl)
  have d5 : E (.tmp 8) = .int .u8 ((p.cls % 256 : Nat) : Int) := d5
  refine Fre.Does.value (v := .slice (some ⟨w.heap.size, 0, none⟩) 2 2) (w' := w.alloc (.cells (bA (hdB p)) 5)) ?_ ⟨⟨_, rfl, heap_new' _ _⟩, below_box _ _⟩
  unfold bA hdB
  go_simp
set_option maxRecDepth 100000 in
theorem stPB_7 (p : Pg) (g B : Nat) (w0 : World) (h0 : w0.heap[g]? = some (.cells (pgA p) 81 (0, 0))) (hsz : p.run < 9223372036854775808 ∧ p.size < 9223372036854775808 ∧ p.ser < 18446744073709551616) (hB : B ≤ w0.heap.size) : Fre.StepB Try.prog opsPB.1 ⟨#[.agg (pgA p), .pointer (some ⟨g, 0, none⟩), .slice none 0 0, undef, undef, undef, undef, undef, undef, undef, undef, undef, undef, undef, undef, undef, undef, undef, undef, undef, undef, undef, undef], []⟩ w0 (VPB p g B) Fre.Kept 7 := by
  intro E w hc hf hE hV hN hS o ho
  obtain rfl := Option.some.inj ho
  clear ho
  simp only [opsPB, List.getElem_toArray, List.getElem_cons_succ, List.getElem_cons_zero]
  have b1 : E (.tmp 1) = .pointer (some ⟨g, 0, none⟩) := hE 1 (by kernel_rfl)
  refine Fre.Does.value (v := .pointer (some ⟨g, 2, none⟩)) (w' := w) ?_ ⟨rfl, Fre.Kept.refl _⟩
  go_simp
set_option maxRecDepth 100000 in
theorem stPB_8 (p : Pg) (g B : Nat) (w0 : World) (h0 : w0.heap[g]? = some (.cells (pgA p) 81 (0, 0))) (hsz : p.run < 9223372036854775808 ∧ p.size < 9223372036854775808 ∧ p.ser < 18446744073709551616) (hB : B ≤ w0.heap.size) : Fre.StepB Try.prog opsPB.1 ⟨#[.agg (pgA p), .pointer (some ⟨g, 0, none⟩), .slice none 0 0, undef, undef, undef, undef, undef, undef, undef, undef, undef, undef, undef, undef, undef, undef, undef, undef, undef, undef, undef, undef], []⟩ w0 (VPB p g B) Fre.Kept 8 := by
  intro E w hc hf hE hV hN hS o ho
  obtain rfl := Option.some.inj ho
  clear ho
  simp only [opsPB, List.getElem_toArray, List.getElem_cons_succ, List.getElem_cons_zero]
  have d7 := hV 7 10 (by kernel_rfl) (by kernel_rfl)
  have d7 : E (.tmp 10) = .pointer (some ⟨g, 2, none⟩) := d7
  have hb := (hS.block g (lt_of_block h0)).trans h0
  have c0 := (cells_at hb 2).trans (show _ = some (.int .i64 (p.run : Int)) from rfl)
  refine Fre.Does.value (v := .int .i64 (p.run : Int)) (w' := w) ?_ ⟨rfl, Fre.Kept.refl _⟩
  go_simp
set_option maxRecDepth 100000 in
theorem stPB_9 (p : Pg) (g B : Nat) (w0 : World) (h0 : w0.heap[g]? = some (.cells (pgA p) 81 (0, 0))) (hsz : p.run < 9223372036854775808 ∧ p.size < 9223372036854775808 ∧ p.ser < 18446744073709551616) (hB : B ≤ w0.heap.size) : Fre.StepB Try.prog opsPB.1 ⟨#[.agg (pgA p), .pointer (some ⟨g, 0, none⟩), .slice none 0 0, undef, undef, undef, undef, undef, undef, undef, undef, undef, undef, undef, undef, undef, undef, undef, undef, undef, undef, undef, undef], []⟩ w0 (VPB p g B) Fre.Kept 9 := by
  intro E w hc hf hE hV hN hS o ho
  obtain rfl := Option.some.inj ho
  clear ho
  simp only [opsPB, List.getElem_toArray, List.getElem_cons_succ, List.getElem_cons_zero]
  have d8 := hV 8 11 (by kernel_rfl) (by kernel_rfl)
  have d8 : E (.tmp 11) = .int .i64 (p.run : Int) := d8
  have e1 : IntKind.u64.wrap (p.run : Int) = (p.run : Int) := by rw [IntKind.wrap_u64]; omega
  refine Fre.Does.value (v := .int .u64 (p.run : Int)) (w' := w) ?_ ⟨rfl, Fre.Kept.refl _⟩
  go_simp
set_option maxRecDepth 100000 in
theorem stPB_10 (p : Pg) (g B : Nat) (w0 : World) (h0 : w0.heap[g]? = some (.cells (pgA p) 81 (0, 0))) (hsz : p.run < 9223372036854775808 ∧ p.size < 9223372036854775808 ∧ p.ser < 18446744073709551616) (hB : B ≤ w0.heap.size) : Fre.StepB Try.prog opsPB.1 ⟨#[.agg (pgA p), .pointer (some ⟨g, 0, none⟩), .slice none 0 0, undef, undef, undef, undef, undef, undef, undef, undef, undef, undef, undef, undef, undef, undef, undef, undef, undef, undef, undef, undef], []⟩ w0 (VPB p g B) Fre.Kept 10 := by
  intro E w hc hf hE hV hN hS o ho
  obtain rfl := Option.some.inj ho
  clear ho
  simp only [opsPB, List.getElem_toArray, List.getElem_cons_succ, List.getElem_cons_zero]
  have d9 := hV 9 12 (by kernel_rfl) (by kernel_rfl)
  have d9 : E (.tmp 12) = .int .u64 (p.run : Int) := d9
  refine Fre.Does.enter (f := 69) (args := #[.int .i64 ((2 : Nat) : Int), .int .u64 (p.run : Int)]) (w' := w) ?_ (put_f 2 p.run (by omega) (by omega) (by omega) w)
  go_simp
set_option maxRecDepth 100000 in
theorem stPB_11 (p : Pg) (g B : Nat) (w0 : World) (h0 : w0.heap[g]? = some (.cells (pgA p) 81 (0, 0))) (hsz : p.run < 9223372036854775808 ∧ p.size < 9223372036854775808 ∧ p.ser < 18446744073709551616) (hB : B ≤ w0.heap.size) : Fre.StepB Try.prog opsPB.1 ⟨#[.agg (pgA p), .pointer (some ⟨g, 0, none⟩), .slice none 0 0, undef, undef, undef, undef, undef, undef, undef, undef, undef, undef, undef, undef, undef, undef, undef, undef, undef, undef, undef, undef], []⟩ w0 (VPB p g B) Fre.Kept 11 := by
  intro E w hc hf hE hV hN hS o ho
  obtain rfl := Option.some.inj ho
  clear ho
  simp only [opsPB, List.getElem_toArray, List.getElem_cons_succ, List.getElem_cons_zero]
  have b1 : E (.tmp 1) = .pointer (some ⟨g, 0, none⟩) := hE 1 (by kernel_rfl)
  refine Fre.Does.value (v := .pointer (some ⟨g, 3, none⟩)) (w' := w) ?_ ⟨rfl, Fre.Kept.refl _⟩
  go_simp
set_option maxRecDepth 100000 in
theorem stPB_12 (p : Pg) (g B : Nat) (w0 : World) (h0 : w0.heap[g]? = some (.cells (pgA p) 81 (0, 0))) (hsz : p.run < 9223372036854775808 ∧ p.size < 9223372036854775808 ∧ p.ser < 18446744073709551616) (hB : B ≤ w0.heap.size) : Fre.StepB Try.prog opsPB.1 ⟨#[.agg (pgA p), .pointer (some ⟨g, 0, none⟩), .slice none 0 0, undef, undef, undef, undef, undef, undef, undef, undef, undef, undef, undef, undef, undef, undef, undef, undef, undef, undef, undef, undef], []⟩ w0 (VPB p g B) Fre.Kept 12 := by
  intro E w hc hf hE hV hN hS o ho
  obtain rfl := Option.some.inj ho
  clear ho
  simp only [opsPB, List.getElem_toArray, List.getElem_cons_succ, List.getElem_cons_zero]
  have d11 := hV 11 14 (by kernel_rfl) (by kernel_rfl)
  have d11 : E (.tmp 14) = .pointer (some ⟨g, 3, none⟩) := d11
  have hb := (hS.block g (lt_of_block h0)).trans h0
  have c0 := (cells_at hb 3).trans (show _ = some (.int .i64 (p.size : Int)) from rfl)
  refine Fre.Does.value (v := .int .i64 (p.size : Int)) (w' := w) ?_ ⟨rfl, Fre.Kept.refl _⟩
  go_simp
set_option maxRecDepth 100000 in
theorem stPB_13 (p : Pg) (g B : Nat) (w0 : World) (h0 : w0.heap[g]? = some (.cells (pgA p) 81 (0, 0))) (hsz : p.run < 9223372036854775808 ∧ p.size < 9223372036854775808 ∧ p.ser < 18446744073709551616) (hB : B ≤ w0.heap.size) : Fre.StepB Try.prog opsPB.1 ⟨#[.agg (pgA p), .pointer (some ⟨g, 0, none⟩), .slice none 0 0, undef, undef, undef, undef, undef, undef, undef, undef, undef, undef, undef, undef, undef, undef, undef, undef, undef, undef, undef, undef], []⟩ w0 (VPB p g B) Fre.Kept 13 := by
  intro E w hc hf hE hV hN hS o ho
  obtain rfl := Option.some.inj ho
  clear ho
  simp only [opsPB, List.getElem_toArray, List.getElem_cons_succ, List.getElem_cons_zero]
  have d12 := hV 12 15 (by kernel_rfl) (by kernel_rfl)
  have d12 : E (.tmp 15) = .int .i64 (p.size : Int) := d12
  have e1 : IntKind.u64.wrap (p.size : Int) = (p.size : Int) := by rw [IntKind.wrap_u64]; omega
  refine Fre.Does.value (v := .int .u64 (p.size : Int)) (w' := w) ?_ ⟨rfl, Fre.Kept.refl _⟩
  go_simp
set_option maxRecDepth 100000 in
theorem stPB_14 (p : Pg) (g B : Nat) (w0 : World) (h0 : w0.heap[g]? = some (.cells (pgA p) 81 (0, 0))) (hsz : p.run < 9223372036854775808 ∧ p.size < 9223372036854775808 ∧ p.ser < 18446744073709551616) (hB : B ≤ w0.heap.size) : Fre.StepB Try.prog opsPB.1 ⟨#[.agg (pgA p), .pointer (some ⟨g, 0, none⟩), .slice none 0 0, undef, undef, undef, undef, undef, undef, undef, undef, undef, undef, undef, undef, undef, undef, undef, undef, undef, undef, undef, undef], []⟩ w0 (VPB p g B) Fre.Kept 14 := by
  intro E w hc hf hE hV hN hS o ho
  obtain rfl := Option.some.inj ho
  clear ho
  simp only [opsPB, List.getElem_toArray, List.getElem_cons_succ, List.getElem_cons_zero]
  have d13 := hV 13 16 (by kernel_rfl) (by kernel_rfl)
  have d13 : E (.tmp 16) = .int .u64 (p.size : Int) := d13
  refine Fre.Does.enter (f := 69) (args := #[.int .i64 ((4 : Nat) : Int), .int .u64 (p.size : Int)]) (w' := w) ?_ (put_f 4 p.size (by omega) (by omega) (by omega) w)
  go_simp
set_option maxRecDepth 100000 in
theorem stPB_15 (p : Pg) (g B : Nat) (w0 : World) (h0 : w0.heap[g]? = some (.cells (pgA p) 81 (0, 0))) (hsz : p.run < 9223372036854775808 ∧ p.size < 9223372036854775808 ∧ p.ser < 18446744073709551616) (hB : B ≤ w0.heap.size) : Fre.StepB Try.prog opsPB.1 ⟨#[.agg (pgA p), .pointer (some ⟨g, 0, none⟩), .slice none 0 0, undef, undef, undef, undef, undef, undef, undef, undef, undef, undef, undef, undef, undef, undef, undef, undef, undef, undef, undef, undef], []⟩ w0 (VPB p g B) Fre.Kept 15 := by
  intro E w hc hf hE hV hN hS o ho
  obtain rfl := Option.some.inj ho
  clear ho
  simp only [opsPB, List.getElem_toArray, List.getElem_cons_succ, List.getElem_cons_zero]
  have b1 : E (.tmp 1) = .pointer (some ⟨g, 0, none⟩) := hE 1 (by kernel_rfl)
  refine Fre.Does.value (v := .pointer (some ⟨g, 4, none⟩)) (w' := w) ?_ ⟨rfl, Fre.Kept.refl _⟩
  go_simp
set_option maxRecDepth 100000 in
theorem stPB_16 (p : Pg) (g B : Nat) (w0 : World) (h0 : w0.heap[g]? = some (.cells (pgA p) 81 (0, 0))) (hsz : p.run < 9223372036854775808 ∧ p.size < 9223372036854775808 ∧ p.ser < 18446744073709551616) (hB : B ≤ w0.heap.size) : Fre.StepB Try.prog opsPB.1 ⟨#[.agg (pgA p), .pointer (some ⟨g, 0, none⟩), .slice none 0 0, undef, undef, undef, undef, undef, undef, undef, undef, undef, undef, undef, undef, undef, undef, undef, undef, undef, undef, undef, undef], []⟩ w0 (VPB p g B) Fre.Kept 16 := by
  intro E w hc hf hE hV hN hS o ho
  obtain rfl := Option.some.inj ho
  clear ho
  simp only [opsPB, List.getElem_toArray, List.getElem_cons_succ, List.getElem_cons_zero]
  have d15 := hV 15 18 (by kernel_rfl) (by kernel_rfl)
  have d15 : E (.tmp 18) = .pointer (some ⟨g, 4, none⟩) := d15
  have hb := (hS.block g (lt_of_block h0)).trans h0
  have c0 := (cells_at hb 4).trans (show _ = some (.int .u64 (p.ser : Int)) from rfl)
  refine Fre.Does.value (v := .int .u64 (p.ser : Int)) (w' := w) ?_ ⟨rfl, Fre.Kept.refl _⟩
  go_simp
set_option maxRecDepth 100000 in
theorem stPB_17 (p : Pg) (g B : Nat) (w0 : World) (h0 : w0.heap[g]? = some (.cells (pgA p) 81 (0, 0))) (hsz : p.run < 9223372036854775808 ∧ p.size < 9223372036854775808 ∧ p.ser < 18446744073709551616) (hB : B ≤ w0.heap.size) : Fre.StepB Try.prog opsPB.1 ⟨#[.agg (pgA p), .pointer (some ⟨g, 0, none⟩), .slice none 0 0, undef, undef, undef, undef, undef, undef, undef, undef, undef, undef, undef, undef, undef, undef, undef, undef, undef, undef, undef, undef], []⟩ w0 (VPB p g B) Fre.Kept 17 := by
  intro E w hc hf hE hV hN hS o ho
  obtain rfl := Option.some.inj ho
  clear ho
  simp only [opsPB, List.getElem_toArray, List.getElem_cons_succ, List.getElem_cons_zero]
  have d16 := hV 16 19 (by kernel_rfl) (by kernel_rfl)
  have d16 : E (.tmp 19) = .int .u64 (p.ser : Int) := d16
  refine Fre.Does.enter (f := 69) (args := #[.int .i64 ((8 : Nat) : Int), .int .u64 (p.ser : Int)]) (w' := w) ?_ (put_f 8 p.ser (by omega) (by omega) (by omega) w)
  go_simp
set_option maxRecDepth 100000 in
theorem stPB_18 (p : Pg) (g B : Nat) (w0 : World) (h0 : w0.heap[g]? = some (.cells (pgA p) 81 (0, 0))) (hsz : p.run < 9223372036854775808 ∧ p.size < 9223372036854775808 ∧ p.ser < 18446744073709551616) (hB : B ≤ w0.heap.size) : Fre.StepB Try.prog opsPB.1 ⟨#[.agg (pgA p), .pointer (some ⟨g, 0, none⟩), .slice none 0 0, undef, undef, undef, undef, undef, undef, undef, undef, undef, undef, undef, undef, undef, undef, undef, undef, undef, undef, undef, undef], []⟩ w0 (VPB p g B) Fre.Kept 18 := by
  intro E w hc hf hE hV hN hS o ho
  obtain rfl := Option.some.inj ho
  clear ho
  simp only [opsPB, List.getElem_toArray, List.getElem_cons_succ, List.getElem_cons_zero]
  have d6 := hV 6 9 (by kernel_rfl) (by kernel_rfl)
  replace d6 : (fun v : Value => ∃ b, v = .slice (some ⟨b, 0, none⟩) 2 2 ∧ FreshB w b (hdB p)) (E (.tmp 9)) := d6
  simp only at d6
  have d10 := hV 10 13 (by kernel_rfl) (by kernel_rfl)
  replace d10 : (fun v : Value => ∃ b, v = .slice (some ⟨b, 0, none⟩) 2 2 ∧ FreshB w b (lowB 2 p.run)) (E (.tmp 13)) := d10
  simp only at d10
  have d14 := hV 14 17 (by kernel_rfl) (by kernel_rfl)
  replace d14 : (fun v : Value => ∃ b, v = .slice (some ⟨b, 0, none⟩) 4 4 ∧ FreshB w b (lowB 4 p.size)) (E (.tmp 17)) := d14
  simp only at d14
  have d17 := hV 17 20 (by kernel_rfl) (by kernel_rfl)
  replace d17 : (fun v : Value => ∃ b, v = .slice (some ⟨b, 0, none⟩) 8 8 ∧ FreshB w b (lowB 8 p.ser)) (E (.tmp 20)) := d17
  simp only at d17
  obtain ⟨b0, e0, f0⟩ := d6
  obtain ⟨b1, e1, f1⟩ := d10
  obtain ⟨b2, e2, f2⟩ := d14
  obtain ⟨b3, e3, f3⟩ := d17
  have hk := below_box w (.cells (segA (pgSegs p b0 b1 b2 b3)) 34)
  refine Fre.Does.value (v := .slice (some ⟨w.heap.size, 0, none⟩) 4 4) (w' := w.alloc (.cells (segA (pgSegs p b0 b1 b2 b3)) 34)) ?_ ⟨⟨_, b0, b1, b2, b3, rfl, heap_new' _ _, ?_⟩, hk⟩
  · have hseg : segA (pgSegs p b0 b1 b2 b3) = #[.slice (some ⟨b0, 0, none⟩) 2 2, .slice (some ⟨b1, 0, none⟩) 2 2, .slice (some ⟨b2, 0, none⟩) 4 4, .slice (some ⟨b3, 0, none⟩) 8 8] := by simp [segA, pgSegs, segV, hdB, lowB_len]
    rw [hseg]
    go_simp
  · intro s hs
    simp only [pgSegs, List.mem_cons, List.not_mem_nil, or_false] at hs
    rcases hs with rfl | rfl | rfl | rfl
    · exact f0.kept hk
    · exact f1.kept hk
    · exact f2.kept hk
    · exact f3.kept hk
set_option maxRecDepth 100000 in
theorem stPB_19 (p : Pg) (g B : Nat) (w0 : World) (h0 : w0.heap[g]? = some (.cells (pgA p) 81 (0, 0))) (hsz : p.run < 9223372036854775808 ∧ p.size < 9223372036854775808 ∧ p.ser < 18446744073709551616) (hB : B ≤ w0.heap.size) : Fre.StepB Try.prog opsPB.1 ⟨#[.agg (pgA p), .pointer (some ⟨g, 0, none⟩), .slice none 0 0, undef, undef, undef, undef, undef, undef, undef, undef, undef, undef, undef, undef, undef, undef, undef, undef, undef, undef, undef, undef], []⟩ w0 (VPB p g B) Fre.Kept 19 := by
  intro E w hc hf hE hV hN hS o ho
  obtain rfl := Option.some.inj ho
  clear ho
  simp only [opsPB, List.getElem_toArray, List.getElem_cons_succ, List.getElem_cons_zero]
  have d18 := hV 18 21 (by kernel_rfl) (by kernel_rfl)
  replace d18 : (fun v : Value => ∃ b b0 b1 b2 b3, v = .slice (some ⟨b, 0, none⟩) 4 4 ∧ w.heap[b]? = some (.cells (segA (pgSegs p b0 b1 b2 b3)) 34 (0, 0)) ∧ SegsIn w (pgSegs p b0 b1 b2 b3)) (E (.tmp 21)) := d18
  simp only at d18
  obtain ⟨b, b0, b1, b2, b3, e0, f0, f1⟩ := d18
  refine Fre.Does.enter (f := 72) (args := #[.slice (some ⟨b, 0, none⟩) 4 4]) (w' := w) ?_ ((concat_c (pgSegs p b0 b1 b2 b3) b w f0 f1 (by rw [pgSegs_tot]; omega) (by rw [pgSegs_tot]; omega) (by simp [pgSegs])).mono ?_)
  · go_simp
  · rintro e w' ⟨u, rfl, hown, hk⟩
    rw [pgSegs_tot, pgSegs_cat] at hown
    refine ⟨u, rfl, ?_, hk⟩
    show World.ownsRow _ _ _ _ _ _ _
    have : (bA (pgB p)).toList = (pgB p).map fun (n : Nat) => Value.int .u8 (n : Int) := by simp [bA]
    rw [this]
    exact own_mono hown (Nat.le_trans hB hS.size)
set_option maxRecDepth 100000 in
theorem stPB_20 (p : Pg) (g B : Nat) (w0 : World) (h0 : w0.heap[g]? = some (.cells (pgA p) 81 (0, 0))) (hsz : p.run < 9223372036854775808 ∧ p.size < 9223372036854775808 ∧ p.ser < 18446744073709551616) (hB : B ≤ w0.heap.size) : Fre.StepB Try.prog opsPB.1 ⟨#[.agg (pgA p), .pointer (some ⟨g, 0, none⟩), .slice none 0 0, undef, undef, undef, undef, undef, undef, undef, undef, undef, undef, undef, undef, undef, undef, undef, undef, undef, undef, undef, undef], []⟩ w0 (VPB p g B) Fre.Kept 20 := by
  intro E w hc hf hE hV hN hS o ho
  obtain rfl := Option.some.inj ho
  clear ho
  simp only [opsPB, List.getElem_toArray, List.getElem_cons_succ, List.getElem_cons_zero]
  have d19 := hV 19 22 (by kernel_rfl) (by kernel_rfl)
  replace d19 : (fun v : Value => w.ownsRow B 5 1 v 16 (bA (pgB p)).toList) (E (.tmp 22)) := d19
  simp only at d19
  refine Fre.Does.value (v := E (.tmp 22)) (w' := w) ?_ ⟨d19, Fre.Kept.refl _⟩
  go_simp
theorem kpPB (p : Pg) (g B : Nat) : ∀ j v w w', j < opsPB.1.size → VPB p g B j v w → Fre.Kept w w' → VPB p g B j v w' := by
  intro j v w w' hj h hs
  rw [sizePB] at hj
  have hc : j = 0 ∨ j = 1 ∨ j = 2 ∨ j = 3 ∨ j = 4 ∨ j = 5 ∨ j = 6 ∨ j = 7 ∨ j = 8 ∨ j = 9 ∨ j = 10 ∨ j = 11 ∨ j = 12 ∨ j = 13 ∨ j = 14 ∨ j = 15 ∨ j = 16 ∨ j = 17 ∨ j = 18 ∨ j = 19 ∨ j = 20 := by omega
  rcases hc with rfl | rfl | rfl | rfl | rfl | rfl | rfl | rfl | rfl | rfl | rfl | rfl | rfl | rfl | rfl | rfl | rfl | rfl | rfl | rfl | rfl
  · exact h
  · exact h
  · exact h
  · exact h
  · exact h
  · exact h
  · change ∃ b, v = .slice (some ⟨b, 0, none⟩) 2 2 ∧ FreshB w b (hdB p) at h
    obtain ⟨b, h1, h2⟩ := h
    exact ⟨b, h1, h2.kept hs⟩
  · exact h
  · exact h
  · exact h
  · change ∃ b, v = .slice (some ⟨b, 0, none⟩) 2 2 ∧ FreshB w b (lowB 2 p.run) at h
    obtain ⟨b, h1, h2⟩ := h
    exact ⟨b, h1, h2.kept hs⟩
  · exact h
  · exact h
  · exact h
  · change ∃ b, v = .slice (some ⟨b, 0, none⟩) 4 4 ∧ FreshB w b (lowB 4 p.size) at h
    obtain ⟨b, h1, h2⟩ := h
    exact ⟨b, h1, h2.kept hs⟩
  · exact h
  · exact h
  · change ∃ b, v = .slice (some ⟨b, 0, none⟩) 8 8 ∧ FreshB w b (lowB 8 p.ser) at h
    obtain ⟨b, h1, h2⟩ := h
    exact ⟨b, h1, h2.kept hs⟩
  · change ∃ b b0 b1 b2 b3, v = .slice (some ⟨b, 0, none⟩) 4 4 ∧ w.heap[b]? = some (.cells (segA (pgSegs p b0 b1 b2 b3)) 34 (0, 0)) ∧ SegsIn w (pgSegs p b0 b1 b2 b3) at h
    obtain ⟨b, b0, b1, b2, b3, h1, h2, h3⟩ := h
    exact ⟨b, b0, b1, b2, b3, h1, (hs.block _ (lt_of_block h2)).trans h2, fun s hm => (hs.block _ (lt_of_block (h3 s hm))).trans (h3 s hm)⟩
  · change w.ownsRow B 5 1 v 16 (bA (pgB p)).toList at h
    exact own_up h hs
  · change w.ownsRow B 5 1 v 16 (bA (pgB p)).toList at h
    exact own_up h hs
set_option maxRecDepth 100000 in
theorem finPB (p : Pg) (g B : Nat) (vs : Nat → Value) : Fre.finT opsPB.1 vs #[.agg (pgA p), .pointer (some ⟨g, 0, none⟩), .slice none 0 0, undef, undef, undef, undef, undef, undef, undef, undef, undef, undef, undef, undef, undef, undef, undef, undef, undef, undef, undef, undef] opsPB.1.size = #[.agg (pgA p), .pointer (some ⟨g, 0, none⟩), vs 20, vs 0, vs 1, vs 2, vs 3, vs 4, vs 5, vs 6, vs 7, vs 8, vs 9, vs 10, vs 11, vs 12, vs 13, vs 14, vs 15, vs 16, vs 17, vs 18, vs 19] := by kernel_rfl
set_option maxRecDepth 100000 in
theorem regionPB (p : Pg) (g B : Nat) (w0 : World) (h0 : w0.heap[g]? = some (.cells (pgA p) 81 (0, 0))) (hsz : p.run < 9223372036854775808 ∧ p.size < 9223372036854775808 ∧ p.ser < 18446744073709551616) (hB : B ≤ w0.heap.size) {Q : Exit → Act → World → Prop} (hQ : ∀ (vs : Nat → Value) w, (∀ j, j < 21 → VPB p g B j (vs j) w) → Fre.Kept w0 w → Q .normal ⟨#[.agg (pgA p), .pointer (some ⟨g, 0, none⟩), vs 20, vs 0, vs 1, vs 2, vs 3, vs 4, vs 5, vs 6, vs 7, vs 8, vs 9, vs 10, vs 11, vs 12, vs 13, vs 14, vs 15, vs 16, vs 17, vs 18, vs 19], []⟩ w) : (Code.region 1 opsPB.1 true).wp Try.prog Q ⟨#[.agg (pgA p), .pointer (some ⟨g, 0, none⟩), .slice none 0 0, undef, undef, undef, undef, undef, undef, undef, undef, undef, undef, undef, undef, undef, undef, undef, undef, undef, undef, undef, undef], []⟩ w0 := by
  refine Fre.region_kept 23 (by kernel_rfl) fitPB rfl (VPB p g B) (kpPB p g B) (fun i hi => ?_) (fun vs w h1 h2 => ?_)
  case refine_2 => show Q .normal ⟨Fre.finT opsPB.1 vs #[.agg (pgA p), .pointer (some ⟨g, 0, none⟩), .slice none 0 0, undef, undef, undef, undef, undef, undef, undef, undef, undef, undef, undef, undef, undef, undef, undef, undef, undef, undef, undef, undef] opsPB.1.size, []⟩ w; rw [finPB p g B vs]; exact hQ vs w (fun j hj => h1 j (by rw [sizePB]; exact hj)) h2
  rw [sizePB] at hi
  have hc : i = 0 ∨ i = 1 ∨ i = 2 ∨ i = 3 ∨ i = 4 ∨ i = 5 ∨ i = 6 ∨ i = 7 ∨ i = 8 ∨ i = 9 ∨ i = 10 ∨ i = 11 ∨ i = 12 ∨ i = 13 ∨ i = 14 ∨ i = 15 ∨ i = 16 ∨ i = 17 ∨ i = 18 ∨ i = 19 ∨ i = 20 := by omega
  rcases hc with rfl | rfl | rfl | rfl | rfl | rfl | rfl | rfl | rfl | rfl | rfl | rfl | rfl | rfl | rfl | rfl | rfl | rfl | rfl | rfl | rfl
  · exact stPB_0 p g B w0 h0 hsz hB
  · exact stPB_1 p g B w0 h0 hsz hB
  · exact stPB_2 p g B w0 h0 hsz hB
  · exact stPB_3 p g B w0 h0 hsz hB
  · exact stPB_4 p g B w0 h0 hsz hB
  · exact stPB_5 p g B w0 h0 hsz hB
  · exact stPB_6 p g B w0 h0 hsz hB
  · exact stPB_7 p g B w0 h0 hsz hB
  · exact stPB_8 p g B w0 h0 hsz hB
  · exact stPB_9 p g B w0 h0 hsz hB
  · exact stPB_10 p g B w0 h0 hsz hB
  · exact stPB_11 p g B w0 h0 hsz hB
  · exact stPB_12 p g B w0 h0 hsz hB
  · exact stPB_13 p g B w0 h0 hsz hB
  · exact stPB_14 p g B w0 h0 hsz hB
  · exact stPB_15 p g B w0 h0 hsz hB
  · exact stPB_16 p g B w0 h0 hsz hB
  · exact stPB_17 p g B w0 h0 hsz hB
  · exact stPB_18 p g B w0 h0 hsz hB
  · exact stPB_19 p g B w0 h0 hsz hB
  · exact stPB_20 p g B w0 h0 hsz hB
set_option maxRecDepth 100000 in
set_option maxHeartbeats 1000000 in
theorem pgbytes_c (p : Pg) (hsz : p.run < 9223372036854775808 ∧ p.size < 9223372036854775808 ∧ p.ser < 18446744073709551616) (w : World) :
    Calls Try.prog 52 #[.agg (pgA p)] w fun e w' => ∃ v, e = .returned v ∧ w'.ownsRow w.heap.size 5 1 v 16 (bA (pgB p)).toList ∧ Below w.heap.size w w' := by
  have HBLK := Lib.hid (heap_new' w (.cells (pgA p) 81))
  have HE := Lib.hid (below_box w (.cells (pgA p) 81))
  have HSZ := Lib.hid hsz
  clear hsz
  go_enter Try.func52, Try.ntmps52
  go_wp2
  refine regionPB p w.heap.size w.heap.size _ HBLK.out HSZ.out HE.out.size ?_
  intro vs w1 hv hk
  have HO : Hid (w1.ownsRow w.heap.size 5 1 (vs 20) 16 (bA (pgB p)).toList) := hv 20 (by omega)
  have HE1 : Hid (Below w.heap.size w w1) := HE.out.trans (hk.mono HE.out.size)
  clear hv hk
  generalize vs 20 = v20 at *
  go_wp2
  go_ret
  exact ⟨_, rfl, HO.out, HE1.out⟩
end Go.Proofs.Ytpbmjfjnmcpieaa
