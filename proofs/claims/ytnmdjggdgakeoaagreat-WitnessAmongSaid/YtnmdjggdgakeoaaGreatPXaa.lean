/- Lemmas for the proof. -/
import Derived.Test.YtnmdjggdgakeoaaGreatPXw
import Derived.Test.YtnmdjggdgakeoaaGreatPXe
import Derived.Test.YtnmdjggdgakeoaaGreatPXa
import Derived.Test.YtnmdjggdgakeoaaGreatPXz
import Derived.Test.YtnmdjggdgakeoaaGreatPXb
import Derived.ProofKit
import Derived.OpenShut
import Derived.ShutString
import Derived.ChangeOld
import Derived.Below
set_option maxRecDepth 100000
set_option maxHeartbeats 16000000
set_option linter.unusedVariables false
set_option linter.unusedSimpArgs false
set_option linter.unusedSectionVars false
namespace Go.Proofs.YtnmdjggdgakeoaaGreat
open Go Go.RowKit Sha
def oW9 : {o : Array Oper // some o = (Tryz.f4.body.bind (Fre.findR 8))} := ⟨_, rfl⟩
theorem fitWsw : Fre.fit .any (Fre.bare oW9.1) 71 = true := by kernel_rfl
def GWsw (i : Nat) : Bool := #[true, true, true, true, true, true, true, true, true, true, true, true, true, true, true, true, true, true, true, true, true, true, true, true, true, true, true, true].getD i true
def gvWsw (j : Nat) : Bool := match j with
 | 9 => true
 | 20 => true
 | 24 => true
 | _ => false
theorem gdWsw : Fre.guardsB oW9.1 gvWsw GWsw = true := by kernel_rfl
theorem glWsw : Fre.guardsL oW9.1 = [9, 9, 9, 9, 9, 9, 9, 9, 9, 20, 20, 24] := by kernel_rfl
theorem sizeWsw : oW9.1.size = 28 := by kernel_rfl
def VW9 (g o n c q k jj m1 m2 e1 e2 n1 n2 c1 c2 : Nat) (y1 y2 a1 a2 : Option Addr) (l1 l2 : List Nat) (i : Nat) (v : Value) (w : World) : Prop := match i with
 | 0 => v = .pointer (some ⟨q, 0, none⟩)
 | 1 => v = .slice y1 m1 e1
 | 2 => v = strV l1
 | 3 => v = .slice (some ⟨g, o, none⟩) n c
 | 4 => v = .int .i64 (k : Int)
 | 5 => v = .pointer (some ⟨g, o + k, none⟩)
 | 6 => v = .slice a1 n1 c1
 | 7 => v = strV l1
 | 8 => v = .bool true
 | 9 => v = .bool true
 | 10 => v = .pointer (some ⟨q, 1, none⟩)
 | 11 => v = .slice y2 m2 e2
 | 12 => v = strV l2
 | 13 => v = .slice (some ⟨g, o, none⟩) n c
 | 14 => v = .int .i64 (jj : Int)
 | 15 => v = .pointer (some ⟨g, o + jj, none⟩)
 | 16 => v = .slice a2 n2 c2
 | 17 => v = strV l2
 | 18 => v = .bool true
 | 19 => v = .bool true
 | 20 => v = .bool true
 | 21 => v = .agg #[.slice y1 m1 e1, .slice y2 m2 e2]
 | 22 => v = .bool true
 | 23 => v = .bool true
 | 24 => v = .bool true
 | 25 => v = .bool true
 | 26 => v = .bool true
 | 27 => v = .bool true
 | _ => True
section
variable {u1 u2 u4 u7 u8 u9 u10 u11 u12 u13 u14 u15 u16 u17 u18 u19 u20 u21 u22 u23 u24 u25 u26 u27 u28 u29 u30 u31 u32 u33 u34 u35 u36 u37 u38 u39 u40 u41 u42 u43 u44 u45 u46 u47 u48 u49 u50 u51 u52 u53 u54 u55 u56 u57 u58 u59 u60 u61 u62 u63 u64 u65 u66 u67 u68 u69 u70 : Value}
theorem kpWsw (g o n c q k jj m1 m2 e1 e2 n1 n2 c1 c2 : Nat) (y1 y2 a1 a2 : Option Addr) (l1 l2 : List Nat) : ∀ j v w w', j < oW9.1.size -> VW9 g o n c q k jj m1 m2 e1 e2 n1 n2 c1 c2 y1 y2 a1 a2 l1 l2 j v w -> Fre.Kept w w' -> VW9 g o n c q k jj m1 m2 e1 e2 n1 n2 c1 c2 y1 y2 a1 a2 l1 l2 j v w' := by
 intro j v w w' hj h hs
 rw [sizeWsw] at hj;rcases cs28 hj with rfl | rfl | rfl | rfl | rfl | rfl | rfl | rfl | rfl | rfl | rfl | rfl | rfl | rfl | rfl | rfl | rfl | rfl | rfl | rfl | rfl | rfl | rfl | rfl | rfl | rfl | rfl | rfl <;> exact h
variable {g o n c q k jj m1 m2 e1 e2 n1 n2 c1 c2 : Nat} {y1 y2 a1 a2 : Option Addr} {l1 l2 : List Nat} {a0 : Act} {w0 : World} (hq : w0.heap[q]? = some (.cells #[.slice y1 m1 e1, .slice y2 m2 e2] 26 (0, 0))) (hkj : k < jj /\ jj < n /\ n <= 100) (hgb : g < w0.heap.size) (hcA : w0.cell? ⟨g, o + k, none⟩ = some (.slice a1 n1 c1)) (hcB : w0.cell? ⟨g, o + jj, none⟩ = some (.slice a2 n2 c2)) (f1 : l1.length = m1) (f2 : l2.length = m2) (g1 : l1.length = n1) (g2 : l2.length = n2) (hm : m1 <= 1000 /\ m2 <= 1000) (hy1 : BytesAt w0 y1 e1 l1) (hy2 : BytesAt w0 y2 e2 l2) (hb1 : BytesAt w0 a1 c1 l1) (hb2 : BytesAt w0 a2 c2 l2) (hz : (y1 = none -> e1 = 0) /\ (y2 = none -> e2 = 0)) (hsh : showsP l1 l2 = true)
include hq hkj hgb hcA hcB f1 f2 g1 g2 hm hy1 hy2 hb1 hb2 hz hsh
theorem stWsw_0 (g93 : a0.tmps.getD 3 undef = .pointer (some ⟨q, 0, none⟩)) : Fre.StepB Tryz.prog oW9.1 a0 w0 (VW9 g o n c q k jj m1 m2 e1 e2 n1 n2 c1 c2 y1 y2 a1 a2 l1 l2) Fre.Kept 0 := by
 rintro E w hc hf hE hV hN hS _ ⟨⟩
 simp only [oW9, gA, gS, gZ]
 have b3 : E (.tmp 3) = .pointer (some ⟨q, 0, none⟩) := (hE 3 (by kernel_rfl)).trans g93
 clear g93;refine Fre.dv (v := .pointer (some ⟨q, 0, none⟩)) ?_
 go_simp
theorem stWsw_1 : Fre.StepB Tryz.prog oW9.1 a0 w0 (VW9 g o n c q k jj m1 m2 e1 e2 n1 n2 c1 c2 y1 y2 a1 a2 l1 l2) Fre.Kept 1 := by
 rintro E w hc hf hE hV hN hS _ ⟨⟩
 simp only [oW9, gA, gS, gZ]
 have d0 : E (.tmp 44) = .pointer (some ⟨q, 0, none⟩) := hV 0 44 (by kernel_rfl) (by kernel_rfl)
 have c0 : w.cell? ⟨q, 0, none⟩ = some (.slice y1 m1 e1) := by rw [cells_at ((hS.block q (lt_blk hq)).trans hq) 0]; rfl
 refine Fre.dv (v := .slice y1 m1 e1) ?_
 go_simp
theorem stWsw_2 : Fre.StepB Tryz.prog oW9.1 a0 w0 (VW9 g o n c q k jj m1 m2 e1 e2 n1 n2 c1 c2 y1 y2 a1 a2 l1 l2) Fre.Kept 2 := by
 rintro E w hc hf hE hV hN hS _ ⟨⟩
 simp only [oW9, gA, gS, gZ]
 have d1 : E (.tmp 45) = .slice y1 m1 e1 := hV 1 45 (by kernel_rfl) (by kernel_rfl)
 exact Fre.Does.value (run_conv_op (w := w) f1 (hy1.up hS (Nat.le_refl _)) E (.tmp 45) _ rfl d1) ⟨rfl, Fre.Kept.refl _⟩
theorem stWsw_3 (g90 : a0.tmps.getD 0 undef = .slice (some ⟨g, o, none⟩) n c) : Fre.StepB Tryz.prog oW9.1 a0 w0 (VW9 g o n c q k jj m1 m2 e1 e2 n1 n2 c1 c2 y1 y2 a1 a2 l1 l2) Fre.Kept 3 := by
 rintro E w hc hf hE hV hN hS _ ⟨⟩
 simp only [oW9, gA, gS, gZ]
 have b0 : E (.tmp 0) = .slice (some ⟨g, o, none⟩) n c := (hE 0 (by kernel_rfl)).trans g90
 clear g90;refine Fre.dv (v := .slice (some ⟨g, o, none⟩) n c) ?_
 go_simp
theorem stWsw_4 (g95 : a0.tmps.getD 5 undef = .int .i64 (k : Int)) : Fre.StepB Tryz.prog oW9.1 a0 w0 (VW9 g o n c q k jj m1 m2 e1 e2 n1 n2 c1 c2 y1 y2 a1 a2 l1 l2) Fre.Kept 4 := by
 rintro E w hc hf hE hV hN hS _ ⟨⟩
 simp only [oW9, gA, gS, gZ]
 have b5 : E (.tmp 5) = .int .i64 (k : Int) := (hE 5 (by kernel_rfl)).trans g95
 clear g95;refine Fre.dv (v := .int .i64 (k : Int)) ?_
 go_simp
theorem stWsw_5 : Fre.StepB Tryz.prog oW9.1 a0 w0 (VW9 g o n c q k jj m1 m2 e1 e2 n1 n2 c1 c2 y1 y2 a1 a2 l1 l2) Fre.Kept 5 := by
 rintro E w hc hf hE hV hN hS _ ⟨⟩
 simp only [oW9, gA, gS, gZ]
 have d3 : E (.tmp 47) = .slice (some ⟨g, o, none⟩) n c := hV 3 47 (by kernel_rfl) (by kernel_rfl)
 have d4 : E (.tmp 48) = .int .i64 (k : Int) := hV 4 48 (by kernel_rfl) (by kernel_rfl)
 have i1 : (k : Int) < (n : Int) := by omega
 have i2 : ¬ (k : Int) < 0 := by omega
 refine Fre.dv (v := .pointer (some ⟨g, o + k, none⟩)) ?_
 go_simp
theorem stWsw_6 : Fre.StepB Tryz.prog oW9.1 a0 w0 (VW9 g o n c q k jj m1 m2 e1 e2 n1 n2 c1 c2 y1 y2 a1 a2 l1 l2) Fre.Kept 6 := by
 rintro E w hc hf hE hV hN hS _ ⟨⟩
 simp only [oW9, gA, gS, gZ]
 have d5 : E (.tmp 49) = .pointer (some ⟨g, o + k, none⟩) := hV 5 49 (by kernel_rfl) (by kernel_rfl)
 have c0 : w.cell? ⟨g, o + k, none⟩ = some (.slice a1 n1 c1) := (hS.cell (p := ⟨g, o + k, none⟩) hgb).trans hcA
 refine Fre.dv (v := .slice a1 n1 c1) ?_
 go_simp
theorem stWsw_7 : Fre.StepB Tryz.prog oW9.1 a0 w0 (VW9 g o n c q k jj m1 m2 e1 e2 n1 n2 c1 c2 y1 y2 a1 a2 l1 l2) Fre.Kept 7 := by
 rintro E w hc hf hE hV hN hS _ ⟨⟩
 simp only [oW9, gA, gS, gZ]
 have d6 : E (.tmp 50) = .slice a1 n1 c1 := hV 6 50 (by kernel_rfl) (by kernel_rfl)
 exact Fre.Does.value (run_conv_op (w := w) g1 (hb1.up hS (Nat.le_refl _)) E (.tmp 50) _ rfl d6) ⟨rfl, Fre.Kept.refl _⟩
theorem stWsw_8 : Fre.StepB Tryz.prog oW9.1 a0 w0 (VW9 g o n c q k jj m1 m2 e1 e2 n1 n2 c1 c2 y1 y2 a1 a2 l1 l2) Fre.Kept 8 := by
 rintro E w hc hf hE hV hN hS _ ⟨⟩
 simp only [oW9, gA, gS, gZ]
 have d2 : E (.tmp 46) = strV l1 := hV 2 46 (by kernel_rfl) (by kernel_rfl)
 have d7 : E (.tmp 51) = strV l1 := hV 7 51 (by kernel_rfl) (by kernel_rfl)
 refine Fre.dv (v := .bool true) ?_
 unfold strV at *
 go_simp
theorem stWsw_9 : Fre.StepB Tryz.prog oW9.1 a0 w0 (VW9 g o n c q k jj m1 m2 e1 e2 n1 n2 c1 c2 y1 y2 a1 a2 l1 l2) Fre.Kept 9 := by
 rintro E w hc hf hE hV hN hS _ ⟨⟩
 simp only [oW9, gA, gS, gZ]
 have d8 : E (.tmp 52) = .bool true := hV 8 52 (by kernel_rfl) (by kernel_rfl)
 refine Fre.dv (v := .bool true) ?_
 go_simp
theorem stWsw_10 (g93 : a0.tmps.getD 3 undef = .pointer (some ⟨q, 0, none⟩)) : Fre.StepB Tryz.prog oW9.1 a0 w0 (VW9 g o n c q k jj m1 m2 e1 e2 n1 n2 c1 c2 y1 y2 a1 a2 l1 l2) Fre.Kept 10 := by
 rintro E w hc hf hE hV hN hS _ ⟨⟩
 simp only [oW9, gA, gS, gZ]
 have b3 : E (.tmp 3) = .pointer (some ⟨q, 0, none⟩) := (hE 3 (by kernel_rfl)).trans g93
 clear g93;refine Fre.dv (v := .pointer (some ⟨q, 1, none⟩)) ?_
 go_simp
theorem stWsw_11 : Fre.StepB Tryz.prog oW9.1 a0 w0 (VW9 g o n c q k jj m1 m2 e1 e2 n1 n2 c1 c2 y1 y2 a1 a2 l1 l2) Fre.Kept 11 := by
 rintro E w hc hf hE hV hN hS _ ⟨⟩
 simp only [oW9, gA, gS, gZ]
 have d10 : E (.tmp 54) = .pointer (some ⟨q, 1, none⟩) := hV 10 54 (by kernel_rfl) (by kernel_rfl)
 have c0 : w.cell? ⟨q, 1, none⟩ = some (.slice y2 m2 e2) := by rw [cells_at ((hS.block q (lt_blk hq)).trans hq) 1]; rfl
 refine Fre.dv (v := .slice y2 m2 e2) ?_
 go_simp
theorem stWsw_12 : Fre.StepB Tryz.prog oW9.1 a0 w0 (VW9 g o n c q k jj m1 m2 e1 e2 n1 n2 c1 c2 y1 y2 a1 a2 l1 l2) Fre.Kept 12 := by
 rintro E w hc hf hE hV hN hS _ ⟨⟩
 simp only [oW9, gA, gS, gZ]
 have d11 : E (.tmp 55) = .slice y2 m2 e2 := hV 11 55 (by kernel_rfl) (by kernel_rfl)
 exact Fre.Does.value (run_conv_op (w := w) f2 (hy2.up hS (Nat.le_refl _)) E (.tmp 55) _ rfl d11) ⟨rfl, Fre.Kept.refl _⟩
theorem stWsw_13 (g90 : a0.tmps.getD 0 undef = .slice (some ⟨g, o, none⟩) n c) : Fre.StepB Tryz.prog oW9.1 a0 w0 (VW9 g o n c q k jj m1 m2 e1 e2 n1 n2 c1 c2 y1 y2 a1 a2 l1 l2) Fre.Kept 13 := by
 rintro E w hc hf hE hV hN hS _ ⟨⟩
 simp only [oW9, gA, gS, gZ]
 have b0 : E (.tmp 0) = .slice (some ⟨g, o, none⟩) n c := (hE 0 (by kernel_rfl)).trans g90
 clear g90;refine Fre.dv (v := .slice (some ⟨g, o, none⟩) n c) ?_
 go_simp
theorem stWsw_14 (g96 : a0.tmps.getD 6 undef = .int .i64 (jj : Int)) : Fre.StepB Tryz.prog oW9.1 a0 w0 (VW9 g o n c q k jj m1 m2 e1 e2 n1 n2 c1 c2 y1 y2 a1 a2 l1 l2) Fre.Kept 14 := by
 rintro E w hc hf hE hV hN hS _ ⟨⟩
 simp only [oW9, gA, gS, gZ]
 have b6 : E (.tmp 6) = .int .i64 (jj : Int) := (hE 6 (by kernel_rfl)).trans g96
 clear g96;refine Fre.dv (v := .int .i64 (jj : Int)) ?_
 go_simp
theorem stWsw_15 : Fre.StepB Tryz.prog oW9.1 a0 w0 (VW9 g o n c q k jj m1 m2 e1 e2 n1 n2 c1 c2 y1 y2 a1 a2 l1 l2) Fre.Kept 15 := by
 rintro E w hc hf hE hV hN hS _ ⟨⟩
 simp only [oW9, gA, gS, gZ]
 have d13 : E (.tmp 57) = .slice (some ⟨g, o, none⟩) n c := hV 13 57 (by kernel_rfl) (by kernel_rfl)
 have d14 : E (.tmp 58) = .int .i64 (jj : Int) := hV 14 58 (by kernel_rfl) (by kernel_rfl)
 have i1 : (jj : Int) < (n : Int) := by omega
 have i2 : ¬ (jj : Int) < 0 := by omega
 refine Fre.dv (v := .pointer (some ⟨g, o + jj, none⟩)) ?_
 go_simp
theorem stWsw_16 : Fre.StepB Tryz.prog oW9.1 a0 w0 (VW9 g o n c q k jj m1 m2 e1 e2 n1 n2 c1 c2 y1 y2 a1 a2 l1 l2) Fre.Kept 16 := by
 rintro E w hc hf hE hV hN hS _ ⟨⟩
 simp only [oW9, gA, gS, gZ]
 have d15 : E (.tmp 59) = .pointer (some ⟨g, o + jj, none⟩) := hV 15 59 (by kernel_rfl) (by kernel_rfl)
 have c0 : w.cell? ⟨g, o + jj, none⟩ = some (.slice a2 n2 c2) := (hS.cell (p := ⟨g, o + jj, none⟩) hgb).trans hcB
 refine Fre.dv (v := .slice a2 n2 c2) ?_
 go_simp
theorem stWsw_17 : Fre.StepB Tryz.prog oW9.1 a0 w0 (VW9 g o n c q k jj m1 m2 e1 e2 n1 n2 c1 c2 y1 y2 a1 a2 l1 l2) Fre.Kept 17 := by
 rintro E w hc hf hE hV hN hS _ ⟨⟩
 simp only [oW9, gA, gS, gZ]
 have d16 : E (.tmp 60) = .slice a2 n2 c2 := hV 16 60 (by kernel_rfl) (by kernel_rfl)
 exact Fre.Does.value (run_conv_op (w := w) g2 (hb2.up hS (Nat.le_refl _)) E (.tmp 60) _ rfl d16) ⟨rfl, Fre.Kept.refl _⟩
theorem stWsw_18 : Fre.StepB Tryz.prog oW9.1 a0 w0 (VW9 g o n c q k jj m1 m2 e1 e2 n1 n2 c1 c2 y1 y2 a1 a2 l1 l2) Fre.Kept 18 := by
 rintro E w hc hf hE hV hN hS _ ⟨⟩
 simp only [oW9, gA, gS, gZ]
 have d12 : E (.tmp 56) = strV l2 := hV 12 56 (by kernel_rfl) (by kernel_rfl)
 have d17 : E (.tmp 61) = strV l2 := hV 17 61 (by kernel_rfl) (by kernel_rfl)
 refine Fre.dv (v := .bool true) ?_
 unfold strV at *
 go_simp
theorem stWsw_19 : Fre.StepB Tryz.prog oW9.1 a0 w0 (VW9 g o n c q k jj m1 m2 e1 e2 n1 n2 c1 c2 y1 y2 a1 a2 l1 l2) Fre.Kept 19 := by
 rintro E w hc hf hE hV hN hS _ ⟨⟩
 simp only [oW9, gA, gS, gZ]
 have d9 : E (.tmp 53) = .bool true := hV 9 53 (by kernel_rfl) (by kernel_rfl)
 have d18 : E (.tmp 62) = .bool true := hV 18 62 (by kernel_rfl) (by kernel_rfl)
 refine Fre.dv (v := .bool true) ?_
 go_simp
theorem stWsw_20 : Fre.StepB Tryz.prog oW9.1 a0 w0 (VW9 g o n c q k jj m1 m2 e1 e2 n1 n2 c1 c2 y1 y2 a1 a2 l1 l2) Fre.Kept 20 := by
 rintro E w hc hf hE hV hN hS _ ⟨⟩
 simp only [oW9, gA, gS, gZ]
 have d19 : E (.tmp 63) = .bool true := hV 19 63 (by kernel_rfl) (by kernel_rfl)
 refine Fre.dv (v := .bool true) ?_
 go_simp
theorem stWsw_21 (g93 : a0.tmps.getD 3 undef = .pointer (some ⟨q, 0, none⟩)) : Fre.StepB Tryz.prog oW9.1 a0 w0 (VW9 g o n c q k jj m1 m2 e1 e2 n1 n2 c1 c2 y1 y2 a1 a2 l1 l2) Fre.Kept 21 := by
 rintro E w hc hf hE hV hN hS _ ⟨⟩
 simp only [oW9, gA, gS, gZ]
 have b3 : E (.tmp 3) = .pointer (some ⟨q, 0, none⟩) := (hE 3 (by kernel_rfl)).trans g93
 clear g93;have c0 : w.cell? ⟨q, 0, none⟩ = some (.slice y1 m1 e1) := by rw [cells_at ((hS.block q (lt_blk hq)).trans hq) 0]; rfl
 have c1 : w.cell? ⟨q, 1, none⟩ = some (.slice y2 m2 e2) := by rw [cells_at ((hS.block q (lt_blk hq)).trans hq) 1]; rfl
 refine Fre.dv (v := .agg #[.slice y1 m1 e1, .slice y2 m2 e2]) ?_
 go_simp
theorem stWsw_22 : Fre.StepB Tryz.prog oW9.1 a0 w0 (VW9 g o n c q k jj m1 m2 e1 e2 n1 n2 c1 c2 y1 y2 a1 a2 l1 l2) Fre.Kept 22 := by
 rintro E w hc hf hE hV hN hS _ ⟨⟩
 simp only [oW9, gA, gS, gZ]
 have d21 : E (.tmp 65) = .agg #[.slice y1 m1 e1, .slice y2 m2 e2] := hV 21 65 (by kernel_rfl) (by kernel_rfl)
 refine Fre.Does.enter (f := 6) (args := #[.agg #[.slice y1 m1 e1, .slice y2 m2 e2]]) (w' := w) ?_ ((shows_c m1 m2 e1 e2 y1 y2 l1 l2 f1 f2 hm w (hy1.up hS (Nat.le_refl _)) (hy2.up hS (Nat.le_refl _)) hz).mono ?_)
 ·go_simp
 ·rintro e w' ⟨rfl, hk'⟩
  exact ⟨_, rfl, by rw [hsh]; rfl, hk'⟩
theorem stWsw_23 : Fre.StepB Tryz.prog oW9.1 a0 w0 (VW9 g o n c q k jj m1 m2 e1 e2 n1 n2 c1 c2 y1 y2 a1 a2 l1 l2) Fre.Kept 23 := by
 rintro E w hc hf hE hV hN hS _ ⟨⟩
 simp only [oW9, gA, gS, gZ]
 have d20 : E (.tmp 64) = .bool true := hV 20 64 (by kernel_rfl) (by kernel_rfl)
 have d22 : E (.tmp 66) = .bool true := hV 22 66 (by kernel_rfl) (by kernel_rfl)
 refine Fre.dv (v := .bool true) ?_
 go_simp
theorem stWsw_24 : Fre.StepB Tryz.prog oW9.1 a0 w0 (VW9 g o n c q k jj m1 m2 e1 e2 n1 n2 c1 c2 y1 y2 a1 a2 l1 l2) Fre.Kept 24 := by
 rintro E w hc hf hE hV hN hS _ ⟨⟩
 simp only [oW9, gA, gS, gZ]
 have d23 : E (.tmp 67) = .bool true := hV 23 67 (by kernel_rfl) (by kernel_rfl)
 refine Fre.dv (v := .bool true) ?_
 go_simp
theorem stWsw_25 : Fre.StepB Tryz.prog oW9.1 a0 w0 (VW9 g o n c q k jj m1 m2 e1 e2 n1 n2 c1 c2 y1 y2 a1 a2 l1 l2) Fre.Kept 25 := by
 rintro E w hc hf hE hV hN hS _ ⟨⟩
 simp only [oW9, gA, gS, gZ]
 refine Fre.Does.enter (f := 8) (args := #[]) (w' := w) ?_ ((awake29_c w).mono ?_)
 ·go_simp
 ·rintro e w' ⟨rfl, hk'⟩
  exact ⟨_, rfl, rfl, hk'⟩
theorem stWsw_26 : Fre.StepB Tryz.prog oW9.1 a0 w0 (VW9 g o n c q k jj m1 m2 e1 e2 n1 n2 c1 c2 y1 y2 a1 a2 l1 l2) Fre.Kept 26 := by
 rintro E w hc hf hE hV hN hS _ ⟨⟩
 simp only [oW9, gA, gS, gZ]
 have d24 : E (.tmp 68) = .bool true := hV 24 68 (by kernel_rfl) (by kernel_rfl)
 have d25 : E (.tmp 69) = .bool true := hV 25 69 (by kernel_rfl) (by kernel_rfl)
 refine Fre.dv (v := .bool true) ?_
 go_simp
theorem stWsw_27 : Fre.StepB Tryz.prog oW9.1 a0 w0 (VW9 g o n c q k jj m1 m2 e1 e2 n1 n2 c1 c2 y1 y2 a1 a2 l1 l2) Fre.Kept 27 := by
 rintro E w hc hf hE hV hN hS _ ⟨⟩
 simp only [oW9, gA, gS, gZ]
 have d26 : E (.tmp 70) = .bool true := hV 26 70 (by kernel_rfl) (by kernel_rfl)
 refine Fre.dv (v := .bool true) ?_
 go_simp
variable (g o n c q k jj m1 m2 e1 e2 n1 n2 c1 c2 y1 y2 a1 a2 l1 l2 w0)
theorem regionWsw {QQ : Exit -> Act -> World -> Prop} (hQ : ∀ (vs : Nat -> Value) w, (∀ j, j < 28 -> VW9 g o n c q k jj m1 m2 e1 e2 n1 n2 c1 c2 y1 y2 a1 a2 l1 l2 j (vs j) w) -> Fre.Kept w0 w -> QQ .normal ⟨#[.slice (some ⟨g, o, none⟩) n c, u1, vs 27, .pointer (some ⟨q, 0, none⟩), u4, .int .i64 (k : Int), .int .i64 (jj : Int), u7, u8, u9, u10, u11, u12, u13, u14, u15, u16, u17, u18, u19, u20, u21, u22, u23, u24, u25, u26, u27, u28, u29, u30, u31, u32, u33, u34, u35, u36, u37, u38, u39, u40, u41, u42, u43, vs 0, vs 1, vs 2, vs 3, vs 4, vs 5, vs 6, vs 7, vs 8, vs 9, vs 10, vs 11, vs 12, vs 13, vs 14, vs 15, vs 16, vs 17, vs 18, vs 19, vs 20, vs 21, vs 22, vs 23, vs 24, vs 25, vs 26], []⟩ w) : (Code.region 8 oW9.1 true).wp Tryz.prog QQ ⟨#[.slice (some ⟨g, o, none⟩) n c, u1, u2, .pointer (some ⟨q, 0, none⟩), u4, .int .i64 (k : Int), .int .i64 (jj : Int), u7, u8, u9, u10, u11, u12, u13, u14, u15, u16, u17, u18, u19, u20, u21, u22, u23, u24, u25, u26, u27, u28, u29, u30, u31, u32, u33, u34, u35, u36, u37, u38, u39, u40, u41, u42, u43, u44, u45, u46, u47, u48, u49, u50, u51, u52, u53, u54, u55, u56, u57, u58, u59, u60, u61, u62, u63, u64, u65, u66, u67, u68, u69, u70], []⟩ w0 := by
 refine Fre.region_keptG 71 (by kernel_rfl) fitWsw rfl (VW9 g o n c q k jj m1 m2 e1 e2 n1 n2 c1 c2 y1 y2 a1 a2 l1 l2) GWsw gvWsw gdWsw (fun j hj v w hV => ?_) (kpWsw g o n c q k jj m1 m2 e1 e2 n1 n2 c1 c2 y1 y2 a1 a2 l1 l2) (fun i hi hg => ?_) (fun i hi hg w => ?_) (fun vs w h1 h2 => ?_)
 case refine_1 =>
  have hj2 := Fre.isGuard_mem hj
  rw [glWsw] at hj2;have hc : j = 9 \/ j = 20 \/ j = 24 := by simpa using hj2
  rcases hc with rfl | rfl | rfl
  ·exact hV
  ·exact hV
  ·exact hV
 case refine_3 =>
  rw [sizeWsw] at hi;rcases cs28 hi with rfl | rfl | rfl | rfl | rfl | rfl | rfl | rfl | rfl | rfl | rfl | rfl | rfl | rfl | rfl | rfl | rfl | rfl | rfl | rfl | rfl | rfl | rfl | rfl | rfl | rfl | rfl | rfl <;> exact absurd hg (by decide)
 case refine_4 =>
  have h9 := hQ vs w (fun j hj => h1 j (by rw [sizeWsw]; exact hj)) h2
  exact Fre.fe (p := fun t => QQ .normal ⟨t, []⟩ w) h9 (by kernel_rfl)
 rw [sizeWsw] at hi;rcases cs28 hi with rfl | rfl | rfl | rfl | rfl | rfl | rfl | rfl | rfl | rfl | rfl | rfl | rfl | rfl | rfl | rfl | rfl | rfl | rfl | rfl | rfl | rfl | rfl | rfl | rfl | rfl | rfl | rfl
 ·exact stWsw_0 hq hkj hgb hcA hcB f1 f2 g1 g2 hm hy1 hy2 hb1 hb2 hz hsh rfl
 ·exact stWsw_1 hq hkj hgb hcA hcB f1 f2 g1 g2 hm hy1 hy2 hb1 hb2 hz hsh
 ·exact stWsw_2 hq hkj hgb hcA hcB f1 f2 g1 g2 hm hy1 hy2 hb1 hb2 hz hsh
 ·exact stWsw_3 hq hkj hgb hcA hcB f1 f2 g1 g2 hm hy1 hy2 hb1 hb2 hz hsh rfl
 ·exact stWsw_4 hq hkj hgb hcA hcB f1 f2 g1 g2 hm hy1 hy2 hb1 hb2 hz hsh rfl
 ·exact stWsw_5 hq hkj hgb hcA hcB f1 f2 g1 g2 hm hy1 hy2 hb1 hb2 hz hsh
 ·exact stWsw_6 hq hkj hgb hcA hcB f1 f2 g1 g2 hm hy1 hy2 hb1 hb2 hz hsh
 ·exact stWsw_7 hq hkj hgb hcA hcB f1 f2 g1 g2 hm hy1 hy2 hb1 hb2 hz hsh
 ·exact stWsw_8 hq hkj hgb hcA hcB f1 f2 g1 g2 hm hy1 hy2 hb1 hb2 hz hsh
 ·exact stWsw_9 hq hkj hgb hcA hcB f1 f2 g1 g2 hm hy1 hy2 hb1 hb2 hz hsh
 ·exact stWsw_10 hq hkj hgb hcA hcB f1 f2 g1 g2 hm hy1 hy2 hb1 hb2 hz hsh rfl
 ·exact stWsw_11 hq hkj hgb hcA hcB f1 f2 g1 g2 hm hy1 hy2 hb1 hb2 hz hsh
 ·exact stWsw_12 hq hkj hgb hcA hcB f1 f2 g1 g2 hm hy1 hy2 hb1 hb2 hz hsh
 ·exact stWsw_13 hq hkj hgb hcA hcB f1 f2 g1 g2 hm hy1 hy2 hb1 hb2 hz hsh rfl
 ·exact stWsw_14 hq hkj hgb hcA hcB f1 f2 g1 g2 hm hy1 hy2 hb1 hb2 hz hsh rfl
 ·exact stWsw_15 hq hkj hgb hcA hcB f1 f2 g1 g2 hm hy1 hy2 hb1 hb2 hz hsh
 ·exact stWsw_16 hq hkj hgb hcA hcB f1 f2 g1 g2 hm hy1 hy2 hb1 hb2 hz hsh
 ·exact stWsw_17 hq hkj hgb hcA hcB f1 f2 g1 g2 hm hy1 hy2 hb1 hb2 hz hsh
 ·exact stWsw_18 hq hkj hgb hcA hcB f1 f2 g1 g2 hm hy1 hy2 hb1 hb2 hz hsh
 ·exact stWsw_19 hq hkj hgb hcA hcB f1 f2 g1 g2 hm hy1 hy2 hb1 hb2 hz hsh
 ·exact stWsw_20 hq hkj hgb hcA hcB f1 f2 g1 g2 hm hy1 hy2 hb1 hb2 hz hsh
 ·exact stWsw_21 hq hkj hgb hcA hcB f1 f2 g1 g2 hm hy1 hy2 hb1 hb2 hz hsh rfl
 ·exact stWsw_22 hq hkj hgb hcA hcB f1 f2 g1 g2 hm hy1 hy2 hb1 hb2 hz hsh
 ·exact stWsw_23 hq hkj hgb hcA hcB f1 f2 g1 g2 hm hy1 hy2 hb1 hb2 hz hsh
 ·exact stWsw_24 hq hkj hgb hcA hcB f1 f2 g1 g2 hm hy1 hy2 hb1 hb2 hz hsh
 ·exact stWsw_25 hq hkj hgb hcA hcB f1 f2 g1 g2 hm hy1 hy2 hb1 hb2 hz hsh
 ·exact stWsw_26 hq hkj hgb hcA hcB f1 f2 g1 g2 hm hy1 hy2 hb1 hb2 hz hsh
 ·exact stWsw_27 hq hkj hgb hcA hcB f1 f2 g1 g2 hm hy1 hy2 hb1 hb2 hz hsh
end
theorem amongG_hit {L : List (List Nat)} : ∀ {n i j : Nat}, amongG L n = some (i, j) -> i < j /\ j < n /\ showsP (L.getD i []) (L.getD j []) = true
 | 0, _, _, h => by cases h
 | n + 1, i, j, h => by
  unfold amongG at h
  split at h
  ·next p hp =>
   cases h
   obtain ⟨h1, h2, h3⟩ := amongG_hit hp
   exact ⟨h1, by omega, h3⟩
  ·next hp =>
   obtain ⟨t, ht, he⟩ := Option.map_eq_some_iff.1 h
   cases he
   unfold hitN at ht
   have h1 := List.find?_some ht
   have h2 := List.mem_of_find?_eq_some ht
   exact ⟨List.mem_range.1 h2, by omega, h1⟩
theorem showsP_nil : showsP [] [] = false := rfl
theorem pairInfo : (Tryz.prog.info? 26).map (·.size) = some 2 := by kernel_rfl
theorem one2 (a b : Option Addr) (n m c d : Nat) : (#[Value.slice a n c, Value.slice b m d] : Array Value).all (·.oneCell') = true := by rw [<- Array.all_toList]; simp [Value.oneCell']
theorem walkWitnessAmong (W : World) (a : Option Addr) (n c : Nat) (L : List (List Nat)) (hL : L.length = n /\ n <= maxLen /\ RowsAt W a L) :
  Calls Tryz.prog 4 #[.slice a n c] W fun e W' => e = .returned (.bool true) /\ Below W.heap.size W W' := by
 obtain ⟨h1, h2, h3⟩ := hL
 have hrows : RowsB W a L := h3
 have hml : maxLen < 2 ^ 63 := by decide
 have HSH := Lib.hid (short_c L n h1 (by omega) a c W hrows hrows.short)
 clear hml;clear h1 h2 h3 hrows
 go_enter Tryz.func4, Tryz.ntmps4
 go_wp2_with fail
 refine HSH.out.mono ?_
 rintro r w1 ⟨v, rfl, ⟨b, d, rfl, hr1⟩, hb1⟩
 obtain ⟨S, hS⟩ : ∃ S, S = shortL L := ⟨_, rfl⟩
 have hSe : ∀ l ∈ S, l.length <= 80 := by rw [hS]; exact shortL_each L
 have hSl : S.length <= 12 := by rw [hS, shortL_len]; omega
 rw [<- hS] at hr1;rw [<- hS];obtain ⟨m, hm⟩ : ∃ m, m = S.length := ⟨_, rfl⟩
 rw [<- hm] at hSl;rw [<- hm];have HAM := Lib.hid (among_c S m hm.symm (by omega) (fun l hl => by have := hSe l hl; omega) b d w1 hr1)
 have HR1 := Lib.hid hr1;have HS := Lib.hid (And.intro hm (And.intro hSl hSe))
 have HB1 := Lib.hid hb1;clear hS hSe hSl hm hr1 hb1 HSH;go_wp2_with fail
 refine HAM.out.mono ?_
 rintro r w2 ⟨rv, rfl, hAm, hb2⟩
 clear HAM;obtain ⟨q, hq⟩ : ∃ q, q = w2.heap.size := ⟨_, rfl⟩
 have HZ := Lib.hid (heap_new' w2 (.cells #[.slice none 0 0, .slice none 0 0] 26))
 have hbz := below_box w2 (.cells #[.slice none 0 0, .slice none 0 0] 26)
 unfold AmR at hAm
 cases hG : amongG S m with
 | none =>
  rw [hG] at hAm;simp only at hAm
  subst hAm
  obtain ⟨w3, hw3⟩ : ∃ w3, w3 = (w2.alloc (.cells #[.slice none 0 0, .slice none 0 0] 26)).setRow w2.heap.size #[.slice none 0 0, .slice none 0 0] := ⟨_, rfl⟩
  have hx3 : w3.heap[q]? = some (.cells #[.slice none 0 0, .slice none 0 0] 26 (0, 0)) := by rw [hw3, hq]; exact setRow_heap _ _ _ _ _ _ HZ.out
  have hb3 : Below w1.heap.size w1 w3 := by rw [hw3]; exact hb2.trans ((below_setRow hbz (Nat.le_refl _) _).mono hb2.size)
  have HRA := Lib.hid (ramong_c S m HS.out.1.symm (by have := HS.out.2.1; omega) (fun l hl => by have := HS.out.2.2 l hl; omega) b d w3 (HR1.out.later hb3))
  rw [hG] at HRA;have HB3 : Hid (Below W.heap.size W w3) := Lib.hid (HB1.out.trans (hb3.mono HB1.out.size))
  have HX3 := Lib.hid hx3;have HW3 := Lib.hid hw3;have HQ := Lib.hid hq;clear hx3 hb3 hb2 hbz hw3 hq hG;unfold pairZ;go_wp2_with (first
   | (refine wpList_store_row rfl 26 (.tmp 3) (.tmp 13) rfl w2.heap.size #[.slice none 0 0, .slice none 0 0] rfl rfl 26 _ HZ.out pairInfo rfl (one2 _ _ _ _ _ _) ?_; rw [<- HW3.out, <- HQ.out])
   | fail)
  refine HRA.out.mono ?_
  rintro r w4 ⟨rfl, hb4⟩
  unfold ramV;have hx4 := (hb4.block _ (lt_blk HX3.out)).trans HX3.out
  have c0 : w4.cell? ⟨q, 0, none⟩ = some (.slice none 0 0) := by rw [cells_at hx4 0]; rfl
  have c1 : w4.cell? ⟨q, 1, none⟩ = some (.slice none 0 0) := by rw [cells_at hx4 1]; rfl
  have hs := shows_c 0 0 0 0 none none [] [] rfl rfl ⟨by omega, by omega⟩ w4 ⟨(fun x hx => by cases hx), (fun h => by cases h)⟩ ⟨(fun x hx => by cases hx), (fun h => by cases h)⟩ ⟨fun _ => rfl, fun _ => rfl⟩
  rw [showsP_nil] at hs;unfold pairA at hs
  have HSW := Lib.hid hs;have HB4 : Hid (Below W.heap.size W w4) := Lib.hid (HB3.out.trans (hb4.mono HB3.out.size))
  clear hs hx4 hb4 HRA HZ HW3 HQ HX3 HB3;go_wp2_with fail
  refine HSW.out.mono ?_
  rintro r w5 ⟨rfl, hb5⟩
  have HB5 : Hid (Below W.heap.size W w5) := Lib.hid (HB4.out.trans (hb5.mono HB4.out.size))
  clear hb5 HSW HB4 c0 c1;go_wp2_with fail
  refine (awake29_c w5).mono ?_
  rintro r w6 ⟨rfl, hb6⟩
  have HB6 : Hid (Below W.heap.size W w6) := Lib.hid (HB5.out.trans (hb6.mono HB5.out.size))
  clear hb6 HB5;go_wp2
  go_ret
  exact ⟨rfl, HB6.out⟩
 | some p =>
  obtain ⟨i, j⟩ := p
  rw [hG] at hAm;obtain ⟨u1, u2, rfl, ⟨y1, e1, rfl, hy1, hz1, _⟩, ⟨y2, e2, rfl, hy2, hz2, _⟩⟩ := hAm
  obtain ⟨hij, hjm, hshow⟩ := amongG_hit hG
  have hil : i < S.length := by rw [<- HS.out.1]; omega
  have hjl : j < S.length := by rw [<- HS.out.1]; omega
  have hgi : S[i]? = some (S.getD i []) := by rw [List.getD_eq_getElem?_getD, List.getElem?_eq_getElem hil]; rfl
  have hgj : S[j]? = some (S.getD j []) := by rw [List.getD_eq_getElem?_getD, List.getElem?_eq_getElem hjl]; rfl
  have hli := HS.out.2.2 _ (List.mem_of_getElem? hgi)
  have hlj := HS.out.2.2 _ (List.mem_of_getElem? hgj)
  obtain ⟨l1, hl1⟩ : ∃ l1, l1 = S.getD i [] := ⟨_, rfl⟩
  obtain ⟨l2, hl2⟩ : ∃ l2, l2 = S.getD j [] := ⟨_, rfl⟩
  rw [<- hl1] at hgi hli;rw [<- hl2] at hgj hlj;simp only at hy1 hy2
  rw [<- hl1] at hy1;rw [<- hl2] at hy2;rw [<- hl1, <- hl2] at hshow
  simp only
  rw [<- hl1, <- hl2]
  obtain ⟨m1, hm1⟩ : ∃ m1, m1 = l1.length := ⟨_, rfl⟩
  obtain ⟨m2, hm2⟩ : ∃ m2, m2 = l2.length := ⟨_, rfl⟩
  rw [<- hm1, <- hm2]
  rw [<- hm1] at hli;rw [<- hm2] at hlj;obtain ⟨w3, hw3⟩ : ∃ w3, w3 = (w2.alloc (.cells #[.slice none 0 0, .slice none 0 0] 26)).setRow w2.heap.size #[.slice y1 m1 e1, .slice y2 m2 e2] := ⟨_, rfl⟩
  have hx3 : w3.heap[q]? = some (.cells #[.slice y1 m1 e1, .slice y2 m2 e2] 26 (0, 0)) := by rw [hw3, hq]; exact setRow_heap _ _ _ _ _ _ HZ.out
  have hb23 : Below w2.heap.size w2 w3 := by rw [hw3]; exact below_setRow hbz (Nat.le_refl _) _
  have hb3 : Below w1.heap.size w1 w3 := hb2.trans (hb23.mono hb2.size)
  have HRA := Lib.hid (ramong_c S m HS.out.1.symm (by have := HS.out.2.1; omega) (fun l hl => by have := HS.out.2.2 l hl; omega) b d w3 (HR1.out.later hb3))
  rw [hG] at HRA;have HB3 : Hid (Below W.heap.size W w3) := Lib.hid (HB1.out.trans (hb3.mono HB1.out.size))
  have HX3 := Lib.hid hx3;have HW3 := Lib.hid hw3;have HQ := Lib.hid hq;have HY := Lib.hid (And.intro (hy1.up hb23 (Nat.le_refl _)) (And.intro (hy2.up hb23 (Nat.le_refl _)) (And.intro hz1 hz2)))
  have HF := Lib.hid (And.intro hij (And.intro hjm (And.intro hli (And.intro hlj (And.intro hm1.symm hm2.symm)))))
  have HG := Lib.hid (And.intro hgi (And.intro hgj hshow))
  have HR3 := Lib.hid (HR1.out.later hb3)
  clear hx3 hb3 hb2 hbz hw3 hq hG hy1 hy2 hz1 hz2 hij hjm hshow hil hjl hgi hgj hli hlj hl1 hl2 hm1 hm2 hb23 HR1;go_wp2_with (first
   | (refine wpList_store_row rfl 26 (.tmp 3) (.tmp 13) rfl w2.heap.size #[.slice y1 m1 e1, .slice y2 m2 e2] rfl rfl 26 _ HZ.out pairInfo rfl (one2 _ _ _ _ _ _) ?_; rw [<- HW3.out, <- HQ.out])
   | fail)
  refine HRA.out.mono ?_
  rintro r w4 ⟨rfl, hb4⟩
  unfold ramV;have HX4 := Lib.hid ((hb4.block _ (lt_blk HX3.out)).trans HX3.out)
  have HY4 := Lib.hid (And.intro (HY.out.1.up hb4 (Nat.le_refl _)) (And.intro (HY.out.2.1.up hb4 (Nat.le_refl _)) HY.out.2.2))
  have hr4 := HR3.out.later hb4
  obtain ⟨g, o, v1, t1, hgb, hcA, ⟨a1, c1, rfl, hbA, _⟩⟩ := hr4 i l1 HG.out.1
  obtain ⟨g', o', v2, t2, _, hcB, ⟨a2, c2, rfl, hbB, _⟩⟩ := hr4 j l2 HG.out.2.1
  subst t1
  injection t2 with t2
  injection t2 with t2 t3 _
  subst t2 t3
  have HC := Lib.hid (And.intro hgb (And.intro hcA (And.intro hcB (And.intro hbA hbB))))
  have HB4 : Hid (Below W.heap.size W w4) := Lib.hid (HB3.out.trans (hb4.mono HB3.out.size))
  clear hb4 HRA HZ HW3 HQ HX3 HB3 HY hr4 HR3 hgb hcA hcB hbA hbB
  go_upto_region 8 with fail
  refine regionWsw g o m d q i j m1 m2 e1 e2 l1.length l2.length c1 c2 y1 y2 a1 a2 l1 l2 w4 HX4.out ⟨HF.out.1, HF.out.2.1, by have := HS.out.2.1; omega⟩ HC.out.1 HC.out.2.1 HC.out.2.2.1 HF.out.2.2.2.2.1 HF.out.2.2.2.2.2 rfl rfl ⟨by have := HF.out; omega, by have := HF.out; omega⟩ HY4.out.1 HY4.out.2.1 HC.out.2.2.2.1 HC.out.2.2.2.2 HY4.out.2.2 HG.out.2.2 ?_
  intro vs w5 hv hk;have e27 : vs 27 = .bool true := hv 27 (by omega)
  generalize vs 27 = x27 at e27
  subst e27;have HB5 : Hid (Below W.heap.size W w5) := Lib.hid (HB4.out.trans (hk.mono HB4.out.size))
  clear hv hk HX4 HY4 HC HB4;go_wp2
  go_ret
  exact ⟨rfl, HB5.out⟩
end Go.Proofs.YtnmdjggdgakeoaaGreat
namespace Go.Proofs.YtnmdjggdgakeoaaGreat.witnessAmong
open Go.ChangeShapes Go.WideShapes Go.ChangeAt Go.RowKit
open Go.ChangeMaps (open_string shut_string)
theorem lifted (os : Os) (started : os.Started) (H : Type) (enc : TypeId × Value -> H) :
  ReturnsInHanded {} Tryz.checked os 4 .any (Rows.witnessAmongSpec.pre6 enc Tryz.prog Tryz.f4 Rows.witnessAmongRow.domain false) (Rows.witnessAmongSpec.post enc Tryz.prog Tryz.f4 false true false false) := by
 refine returnsInHanded_of_change (C := Tryz.checked) own started (by kernel_rfl) Tryz.func4
  (ChangeSpec.witness6 (enc := enc) (C := Tryz.checked) false ⟨#[], #[.slice none 0 0], []⟩ 8 (by kernel_rfl) (by kernel_rfl) (by kernel_rfl) (by kernel_rfl)) ?_
 intro W base args ds gs before hval0 hW hcnd _;have hval : ∀ (j : Nat) t v, Tryz.f4.params[j]? = some t -> args[j]? = some v -> Value.okWide Tryz.prog W .any base t v := hval0
 have hW' := hW
 obtain ⟨p, q, hA0, hV, rfl, hfz, hnd⟩ := hW
 have hA : DataW.TrodAll enc Tryz.prog W 0 (fun _ => true) true Tryz.f4.params.toList args.toList ds p := hA0
 rw [Tryz.params4] at hA hval
 obtain ⟨v0, vs0, d0, ds0, p0, q0, hargs, rfl, rfl, h0, r0⟩ := trodAll_cons hA
 obtain ⟨rfl, rfl, rfl⟩ := trodAll_nil r0
 obtain rfl : args = #[v0] := by cases args; simp_all
 obtain ⟨rfl, rfl⟩ := trodVars_none hV
 have k0 := h0
 have lt0 : ∀ x ∈ p0, x.block < W.heap.size := by obtain ⟨m, hm⟩ := k0; exact DataW.trod_lt m _ _ _ hm
 obtain ⟨a0, len0, cap0, L0, rfl, w0⟩ := open_rowsB (hval 0 23 v0 rfl rfl) h0
 clear hA0 hval0;refine (walkWitnessAmong W a0 len0 cap0 L0 w0).mono fun e W' ⟨he, bel⟩ => ?_
 subst he;exact ⟨_, rfl, _, _, _, [], _, [], hW', trodAll_mk1 (shut_bool Tryz.underlying4 _), (trodAll_cons_mk (Below.trod laidOut (by kernel_rfl) (of_decide_eq_true (by kernel_rfl)) k0 bel lt0) trodAll_mk0), rfl, bel.frame _, fun h => by cases h⟩
theorem over : Rows.witnessAmongRow.holds Tryz.pinned (OpenSpec.ofChange Rows.witnessAmongSpec) :=
 OpenClaim.holds_of_wide 4 Tryz.f4 rfl rfl rfl rfl rfl rfl rfl ⟨rfl, rfl, rfl, rfl, rfl⟩ rfl rfl rfl rfl rfl (by kernel_rfl) Tryz.func4 closed
  (of_decide_eq_true (by kernel_rfl)) (by unfold Func.isWrapper; first | (rw [if_pos (by decide +kernel)]; kernel_rfl) | (rw [if_neg (by decide +kernel)]; exact ⟨rfl, rfl⟩))
  (fun os started H enc _ => lifted os started H enc)
theorem proved : Rows.WitnessAmongSaid := over
#print axioms proved
end Go.Proofs.YtnmdjggdgakeoaaGreat.witnessAmong
