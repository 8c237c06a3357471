/- Lemmas for the proof. -/
import Derived.Test.YtnmdjggdgakeoaaGreatPXw
import Derived.Test.YtnmdjggdgakeoaaGreatPXe
import Derived.Test.YtnmdjggdgakeoaaGreatPXa
import Derived.Test.YtnmdjggdgakeoaaGreatPXx
import Derived.Test.YtnmdjggdgakeoaaGreatPXb
import Derived.ProofKit
import Derived.OpenShut
import Derived.ShutString
import Derived.ChangeOld
import Derived.Below
set_option maxRecDepth 100000
set_option maxHeartbeats 16000000
set_option linter.unusedVariables false
set_option linter.unusedSimpArgs false
set_option linter.unusedSectionVars false
namespace Go.Proofs.YtnmdjggdgakeoaaGreat
open Go Go.RowKit Sha
def opsWsv : {o : Array Oper // some o = (Tryz.f3.body.bind (Fre.findR 2))} := ⟨_, rfl⟩
theorem fitWsv : Fre.fit .any (Fre.bare opsWsv.1) 29 = true := by kernel_rfl
def GWsv (i : Nat) : Bool := #[true, true, true, true, true, true, true, true, true, true, true, true, true, true, true, true, true, true, true, true].getD i true
def gvWsv (j : Nat) : Bool := match j with
 | 16 => true
 | _ => false
theorem gdWsv : Fre.guardsB opsWsv.1 gvWsv GWsv = true := by kernel_rfl
theorem glWsv : Fre.guardsL opsWsv.1 = [16] := by kernel_rfl
theorem sizeWsv : opsWsv.1.size = 20 := by kernel_rfl
def VWsv (g o c n1 n2 c1 c2 : Nat) (a1 a2 : Option Addr) (l1 l2 : List Nat) (i : Nat) (v : Value) (w : World) : Prop := match i with
 | 0 => v = .slice (some ⟨g, o, none⟩) 2 c
 | 1 => v = .pointer (some ⟨g, o, none⟩)
 | 2 => v = .slice a1 n1 c1
 | 3 => v = .slice (some ⟨g, o, none⟩) 2 c
 | 4 => v = .pointer (some ⟨g, o + 1, none⟩)
 | 5 => v = .slice a2 n2 c2
 | 6 => v = .agg #[.slice a1 n1 c1, .slice a2 n2 c2]
 | 7 => v = .bool (showsP l1 l2)
 | 8 => v = .slice (some ⟨g, o, none⟩) 2 c
 | 9 => v = .pointer (some ⟨g, o, none⟩)
 | 10 => v = .slice a1 n1 c1
 | 11 => v = .slice (some ⟨g, o, none⟩) 2 c
 | 12 => v = .pointer (some ⟨g, o + 1, none⟩)
 | 13 => v = .slice a2 n2 c2
 | 14 => v = .bool (showsP l1 l2)
 | 15 => v = .bool true
 | 16 => v = .bool true
 | 17 => v = .bool true
 | 18 => v = .bool true
 | 19 => v = .bool true
 | _ => True
section
variable {u0 u1 u2 u3 u4 u6 u7 u8 u9 u10 u11 u12 u13 u14 u15 u16 u17 u18 u19 u20 u21 u22 u23 u24 u25 u26 u27 u28 : Value}
theorem kpWsv (g o c n1 n2 c1 c2 : Nat) (a1 a2 : Option Addr) (l1 l2 : List Nat) : ∀ j v w w', j < opsWsv.1.size -> VWsv g o c n1 n2 c1 c2 a1 a2 l1 l2 j v w -> Fre.Kept w w' -> VWsv g o c n1 n2 c1 c2 a1 a2 l1 l2 j v w' := by
 intro j v w w' hj h hs
 rw [sizeWsv] at hj;rcases cs20 hj with rfl | rfl | rfl | rfl | rfl | rfl | rfl | rfl | rfl | rfl | rfl | rfl | rfl | rfl | rfl | rfl | rfl | rfl | rfl | rfl <;> exact h
variable {g o c n1 n2 c1 c2 : Nat} {a1 a2 : Option Addr} {l1 l2 : List Nat} {a0 : Act} {w0 : World} (hgb : g < w0.heap.size) (hcA : w0.cell? ⟨g, o, none⟩ = some (.slice a1 n1 c1)) (hcB : w0.cell? ⟨g, o + 1, none⟩ = some (.slice a2 n2 c2)) (e1 : l1.length = n1) (e2 : l2.length = n2) (hn : n1 <= 1000 /\ n2 <= 1000) (hb1 : BytesAt w0 a1 c1 l1) (hb2 : BytesAt w0 a2 c2 l2) (hz : (a1 = none -> c1 = 0) /\ (a2 = none -> c2 = 0))
include hgb hcA hcB e1 e2 hn hb1 hb2 hz
theorem stWsv_0 (g95 : a0.tmps.getD 5 undef = .slice (some ⟨g, o, none⟩) 2 c) : Fre.StepB Tryz.prog opsWsv.1 a0 w0 (VWsv g o c n1 n2 c1 c2 a1 a2 l1 l2) Fre.Kept 0 := by
 rintro E w hc hf hE hV hN hS _ ⟨⟩
 simp only [opsWsv, gA, gS, gZ]
 have b5 : E (.tmp 5) = .slice (some ⟨g, o, none⟩) 2 c := (hE 5 (by kernel_rfl)).trans g95
 clear g95;refine Fre.dv (v := .slice (some ⟨g, o, none⟩) 2 c) ?_
 go_simp
theorem stWsv_1 : Fre.StepB Tryz.prog opsWsv.1 a0 w0 (VWsv g o c n1 n2 c1 c2 a1 a2 l1 l2) Fre.Kept 1 := by
 rintro E w hc hf hE hV hN hS _ ⟨⟩
 simp only [opsWsv, gA, gS, gZ]
 have d0 : E (.tmp 10) = .slice (some ⟨g, o, none⟩) 2 c := hV 0 10 (by kernel_rfl) (by kernel_rfl)
 refine Fre.dv (v := .pointer (some ⟨g, o, none⟩)) ?_
 go_simp
theorem stWsv_2 : Fre.StepB Tryz.prog opsWsv.1 a0 w0 (VWsv g o c n1 n2 c1 c2 a1 a2 l1 l2) Fre.Kept 2 := by
 rintro E w hc hf hE hV hN hS _ ⟨⟩
 simp only [opsWsv, gA, gS, gZ]
 have d1 : E (.tmp 11) = .pointer (some ⟨g, o, none⟩) := hV 1 11 (by kernel_rfl) (by kernel_rfl)
 have c0 : w.cell? ⟨g, o, none⟩ = some (.slice a1 n1 c1) := (hS.cell (p := ⟨g, o, none⟩) hgb).trans hcA
 refine Fre.dv (v := .slice a1 n1 c1) ?_
 go_simp
theorem stWsv_3 (g95 : a0.tmps.getD 5 undef = .slice (some ⟨g, o, none⟩) 2 c) : Fre.StepB Tryz.prog opsWsv.1 a0 w0 (VWsv g o c n1 n2 c1 c2 a1 a2 l1 l2) Fre.Kept 3 := by
 rintro E w hc hf hE hV hN hS _ ⟨⟩
 simp only [opsWsv, gA, gS, gZ]
 have b5 : E (.tmp 5) = .slice (some ⟨g, o, none⟩) 2 c := (hE 5 (by kernel_rfl)).trans g95
 clear g95;refine Fre.dv (v := .slice (some ⟨g, o, none⟩) 2 c) ?_
 go_simp
theorem stWsv_4 : Fre.StepB Tryz.prog opsWsv.1 a0 w0 (VWsv g o c n1 n2 c1 c2 a1 a2 l1 l2) Fre.Kept 4 := by
 rintro E w hc hf hE hV hN hS _ ⟨⟩
 simp only [opsWsv, gA, gS, gZ]
 have d3 : E (.tmp 13) = .slice (some ⟨g, o, none⟩) 2 c := hV 3 13 (by kernel_rfl) (by kernel_rfl)
 refine Fre.dv (v := .pointer (some ⟨g, o + 1, none⟩)) ?_
 go_simp
theorem stWsv_5 : Fre.StepB Tryz.prog opsWsv.1 a0 w0 (VWsv g o c n1 n2 c1 c2 a1 a2 l1 l2) Fre.Kept 5 := by
 rintro E w hc hf hE hV hN hS _ ⟨⟩
 simp only [opsWsv, gA, gS, gZ]
 have d4 : E (.tmp 14) = .pointer (some ⟨g, o + 1, none⟩) := hV 4 14 (by kernel_rfl) (by kernel_rfl)
 have c0 : w.cell? ⟨g, o + 1, none⟩ = some (.slice a2 n2 c2) := (hS.cell (p := ⟨g, o + 1, none⟩) hgb).trans hcB
 refine Fre.dv (v := .slice a2 n2 c2) ?_
 go_simp
theorem stWsv_6 : Fre.StepB Tryz.prog opsWsv.1 a0 w0 (VWsv g o c n1 n2 c1 c2 a1 a2 l1 l2) Fre.Kept 6 := by
 rintro E w hc hf hE hV hN hS _ ⟨⟩
 simp only [opsWsv, gA, gS, gZ]
 have d2 : E (.tmp 12) = .slice a1 n1 c1 := hV 2 12 (by kernel_rfl) (by kernel_rfl)
 have d5 : E (.tmp 15) = .slice a2 n2 c2 := hV 5 15 (by kernel_rfl) (by kernel_rfl)
 refine Fre.dv (v := .agg #[.slice a1 n1 c1, .slice a2 n2 c2]) ?_
 go_simp
theorem stWsv_7 : Fre.StepB Tryz.prog opsWsv.1 a0 w0 (VWsv g o c n1 n2 c1 c2 a1 a2 l1 l2) Fre.Kept 7 := by
 rintro E w hc hf hE hV hN hS _ ⟨⟩
 simp only [opsWsv, gA, gS, gZ]
 have d6 : E (.tmp 16) = .agg #[.slice a1 n1 c1, .slice a2 n2 c2] := hV 6 16 (by kernel_rfl) (by kernel_rfl)
 refine Fre.Does.enter (f := 6) (args := #[.agg #[.slice a1 n1 c1, .slice a2 n2 c2]]) (w' := w) ?_ ((shows_c n1 n2 c1 c2 a1 a2 l1 l2 e1 e2 hn w (hb1.up hS (Nat.le_refl _)) (hb2.up hS (Nat.le_refl _)) hz).mono ?_)
 ·go_simp
 ·rintro e w' ⟨rfl, hk'⟩
  exact ⟨_, rfl, rfl, hk'⟩
theorem stWsv_8 (g95 : a0.tmps.getD 5 undef = .slice (some ⟨g, o, none⟩) 2 c) : Fre.StepB Tryz.prog opsWsv.1 a0 w0 (VWsv g o c n1 n2 c1 c2 a1 a2 l1 l2) Fre.Kept 8 := by
 rintro E w hc hf hE hV hN hS _ ⟨⟩
 simp only [opsWsv, gA, gS, gZ]
 have b5 : E (.tmp 5) = .slice (some ⟨g, o, none⟩) 2 c := (hE 5 (by kernel_rfl)).trans g95
 clear g95;refine Fre.dv (v := .slice (some ⟨g, o, none⟩) 2 c) ?_
 go_simp
theorem stWsv_9 : Fre.StepB Tryz.prog opsWsv.1 a0 w0 (VWsv g o c n1 n2 c1 c2 a1 a2 l1 l2) Fre.Kept 9 := by
 rintro E w hc hf hE hV hN hS _ ⟨⟩
 simp only [opsWsv, gA, gS, gZ]
 have d8 : E (.tmp 18) = .slice (some ⟨g, o, none⟩) 2 c := hV 8 18 (by kernel_rfl) (by kernel_rfl)
 refine Fre.dv (v := .pointer (some ⟨g, o, none⟩)) ?_
 go_simp
theorem stWsv_10 : Fre.StepB Tryz.prog opsWsv.1 a0 w0 (VWsv g o c n1 n2 c1 c2 a1 a2 l1 l2) Fre.Kept 10 := by
 rintro E w hc hf hE hV hN hS _ ⟨⟩
 simp only [opsWsv, gA, gS, gZ]
 have d9 : E (.tmp 19) = .pointer (some ⟨g, o, none⟩) := hV 9 19 (by kernel_rfl) (by kernel_rfl)
 have c0 : w.cell? ⟨g, o, none⟩ = some (.slice a1 n1 c1) := (hS.cell (p := ⟨g, o, none⟩) hgb).trans hcA
 refine Fre.dv (v := .slice a1 n1 c1) ?_
 go_simp
theorem stWsv_11 (g95 : a0.tmps.getD 5 undef = .slice (some ⟨g, o, none⟩) 2 c) : Fre.StepB Tryz.prog opsWsv.1 a0 w0 (VWsv g o c n1 n2 c1 c2 a1 a2 l1 l2) Fre.Kept 11 := by
 rintro E w hc hf hE hV hN hS _ ⟨⟩
 simp only [opsWsv, gA, gS, gZ]
 have b5 : E (.tmp 5) = .slice (some ⟨g, o, none⟩) 2 c := (hE 5 (by kernel_rfl)).trans g95
 clear g95;refine Fre.dv (v := .slice (some ⟨g, o, none⟩) 2 c) ?_
 go_simp
theorem stWsv_12 : Fre.StepB Tryz.prog opsWsv.1 a0 w0 (VWsv g o c n1 n2 c1 c2 a1 a2 l1 l2) Fre.Kept 12 := by
 rintro E w hc hf hE hV hN hS _ ⟨⟩
 simp only [opsWsv, gA, gS, gZ]
 have d11 : E (.tmp 21) = .slice (some ⟨g, o, none⟩) 2 c := hV 11 21 (by kernel_rfl) (by kernel_rfl)
 refine Fre.dv (v := .pointer (some ⟨g, o + 1, none⟩)) ?_
 go_simp
theorem stWsv_13 : Fre.StepB Tryz.prog opsWsv.1 a0 w0 (VWsv g o c n1 n2 c1 c2 a1 a2 l1 l2) Fre.Kept 13 := by
 rintro E w hc hf hE hV hN hS _ ⟨⟩
 simp only [opsWsv, gA, gS, gZ]
 have d12 : E (.tmp 22) = .pointer (some ⟨g, o + 1, none⟩) := hV 12 22 (by kernel_rfl) (by kernel_rfl)
 have c0 : w.cell? ⟨g, o + 1, none⟩ = some (.slice a2 n2 c2) := (hS.cell (p := ⟨g, o + 1, none⟩) hgb).trans hcB
 refine Fre.dv (v := .slice a2 n2 c2) ?_
 go_simp
theorem stWsv_14 : Fre.StepB Tryz.prog opsWsv.1 a0 w0 (VWsv g o c n1 n2 c1 c2 a1 a2 l1 l2) Fre.Kept 14 := by
 rintro E w hc hf hE hV hN hS _ ⟨⟩
 simp only [opsWsv, gA, gS, gZ]
 have d10 : E (.tmp 20) = .slice a1 n1 c1 := hV 10 20 (by kernel_rfl) (by kernel_rfl)
 have d13 : E (.tmp 23) = .slice a2 n2 c2 := hV 13 23 (by kernel_rfl) (by kernel_rfl)
 refine Fre.Does.enter (f := 7) (args := #[.slice a1 n1 c1, .slice a2 n2 c2]) (w' := w) ?_ ((rshows_c n1 n2 c1 c2 a1 a2 l1 l2 e1 e2 hn w (hb1.up hS (Nat.le_refl _)) (hb2.up hS (Nat.le_refl _)) hz).mono ?_)
 ·go_simp
 ·rintro e w' ⟨rfl, hk'⟩
  exact ⟨_, rfl, rfl, hk'⟩
theorem stWsv_15 : Fre.StepB Tryz.prog opsWsv.1 a0 w0 (VWsv g o c n1 n2 c1 c2 a1 a2 l1 l2) Fre.Kept 15 := by
 rintro E w hc hf hE hV hN hS _ ⟨⟩
 simp only [opsWsv, gA, gS, gZ]
 have d7 : E (.tmp 17) = .bool (showsP l1 l2) := hV 7 17 (by kernel_rfl) (by kernel_rfl)
 have d14 : E (.tmp 24) = .bool (showsP l1 l2) := hV 14 24 (by kernel_rfl) (by kernel_rfl)
 refine Fre.dv (v := .bool true) ?_
 go_simp
theorem stWsv_16 : Fre.StepB Tryz.prog opsWsv.1 a0 w0 (VWsv g o c n1 n2 c1 c2 a1 a2 l1 l2) Fre.Kept 16 := by
 rintro E w hc hf hE hV hN hS _ ⟨⟩
 simp only [opsWsv, gA, gS, gZ]
 have d15 : E (.tmp 25) = .bool true := hV 15 25 (by kernel_rfl) (by kernel_rfl)
 refine Fre.dv (v := .bool true) ?_
 go_simp
theorem stWsv_17 : Fre.StepB Tryz.prog opsWsv.1 a0 w0 (VWsv g o c n1 n2 c1 c2 a1 a2 l1 l2) Fre.Kept 17 := by
 rintro E w hc hf hE hV hN hS _ ⟨⟩
 simp only [opsWsv, gA, gS, gZ]
 refine Fre.Does.enter (f := 8) (args := #[]) (w' := w) ?_ ((awake29_c w).mono ?_)
 ·go_simp
 ·rintro e w' ⟨rfl, hk'⟩
  exact ⟨_, rfl, rfl, hk'⟩
theorem stWsv_18 : Fre.StepB Tryz.prog opsWsv.1 a0 w0 (VWsv g o c n1 n2 c1 c2 a1 a2 l1 l2) Fre.Kept 18 := by
 rintro E w hc hf hE hV hN hS _ ⟨⟩
 simp only [opsWsv, gA, gS, gZ]
 have d16 : E (.tmp 26) = .bool true := hV 16 26 (by kernel_rfl) (by kernel_rfl)
 have d17 : E (.tmp 27) = .bool true := hV 17 27 (by kernel_rfl) (by kernel_rfl)
 refine Fre.dv (v := .bool true) ?_
 go_simp
theorem stWsv_19 : Fre.StepB Tryz.prog opsWsv.1 a0 w0 (VWsv g o c n1 n2 c1 c2 a1 a2 l1 l2) Fre.Kept 19 := by
 rintro E w hc hf hE hV hN hS _ ⟨⟩
 simp only [opsWsv, gA, gS, gZ]
 have d18 : E (.tmp 28) = .bool true := hV 18 28 (by kernel_rfl) (by kernel_rfl)
 refine Fre.dv (v := .bool true) ?_
 go_simp
variable (g o c n1 n2 c1 c2 a1 a2 l1 l2 w0)
theorem regionWsv {QQ : Exit -> Act -> World -> Prop} (hQ : ∀ (vs : Nat -> Value) w, (∀ j, j < 20 -> VWsv g o c n1 n2 c1 c2 a1 a2 l1 l2 j (vs j) w) -> Fre.Kept w0 w -> QQ .normal ⟨#[u0, u1, u2, u3, vs 19, .slice (some ⟨g, o, none⟩) 2 c, u6, u7, u8, u9, vs 0, vs 1, vs 2, vs 3, vs 4, vs 5, vs 6, vs 7, vs 8, vs 9, vs 10, vs 11, vs 12, vs 13, vs 14, vs 15, vs 16, vs 17, vs 18], []⟩ w) : (Code.region 2 opsWsv.1 true).wp Tryz.prog QQ ⟨#[u0, u1, u2, u3, u4, .slice (some ⟨g, o, none⟩) 2 c, u6, u7, u8, u9, u10, u11, u12, u13, u14, u15, u16, u17, u18, u19, u20, u21, u22, u23, u24, u25, u26, u27, u28], []⟩ w0 := by
 refine Fre.region_keptG 29 (by kernel_rfl) fitWsv rfl (VWsv g o c n1 n2 c1 c2 a1 a2 l1 l2) GWsv gvWsv gdWsv (fun j hj v w hV => ?_) (kpWsv g o c n1 n2 c1 c2 a1 a2 l1 l2) (fun i hi hg => ?_) (fun i hi hg w => ?_) (fun vs w h1 h2 => ?_)
 case refine_1 =>
  have hj2 := Fre.isGuard_mem hj
  rw [glWsv] at hj2;have hc : j = 16 := by simpa using hj2
  rcases hc with rfl
  ·exact hV
 case refine_3 =>
  rw [sizeWsv] at hi;rcases cs20 hi with rfl | rfl | rfl | rfl | rfl | rfl | rfl | rfl | rfl | rfl | rfl | rfl | rfl | rfl | rfl | rfl | rfl | rfl | rfl | rfl <;> exact absurd hg (by decide)
 case refine_4 =>
  have h9 := hQ vs w (fun j hj => h1 j (by rw [sizeWsv]; exact hj)) h2
  exact Fre.fe (p := fun t => QQ .normal ⟨t, []⟩ w) h9 (by kernel_rfl)
 rw [sizeWsv] at hi;rcases cs20 hi with rfl | rfl | rfl | rfl | rfl | rfl | rfl | rfl | rfl | rfl | rfl | rfl | rfl | rfl | rfl | rfl | rfl | rfl | rfl | rfl
 ·exact stWsv_0 hgb hcA hcB e1 e2 hn hb1 hb2 hz rfl
 ·exact stWsv_1 hgb hcA hcB e1 e2 hn hb1 hb2 hz
 ·exact stWsv_2 hgb hcA hcB e1 e2 hn hb1 hb2 hz
 ·exact stWsv_3 hgb hcA hcB e1 e2 hn hb1 hb2 hz rfl
 ·exact stWsv_4 hgb hcA hcB e1 e2 hn hb1 hb2 hz
 ·exact stWsv_5 hgb hcA hcB e1 e2 hn hb1 hb2 hz
 ·exact stWsv_6 hgb hcA hcB e1 e2 hn hb1 hb2 hz
 ·exact stWsv_7 hgb hcA hcB e1 e2 hn hb1 hb2 hz
 ·exact stWsv_8 hgb hcA hcB e1 e2 hn hb1 hb2 hz rfl
 ·exact stWsv_9 hgb hcA hcB e1 e2 hn hb1 hb2 hz
 ·exact stWsv_10 hgb hcA hcB e1 e2 hn hb1 hb2 hz
 ·exact stWsv_11 hgb hcA hcB e1 e2 hn hb1 hb2 hz rfl
 ·exact stWsv_12 hgb hcA hcB e1 e2 hn hb1 hb2 hz
 ·exact stWsv_13 hgb hcA hcB e1 e2 hn hb1 hb2 hz
 ·exact stWsv_14 hgb hcA hcB e1 e2 hn hb1 hb2 hz
 ·exact stWsv_15 hgb hcA hcB e1 e2 hn hb1 hb2 hz
 ·exact stWsv_16 hgb hcA hcB e1 e2 hn hb1 hb2 hz
 ·exact stWsv_17 hgb hcA hcB e1 e2 hn hb1 hb2 hz
 ·exact stWsv_18 hgb hcA hcB e1 e2 hn hb1 hb2 hz
 ·exact stWsv_19 hgb hcA hcB e1 e2 hn hb1 hb2 hz
end
theorem walkWitnessShows (W : World) (a1 : Option Addr) (n1 c1 : Nat) (z1 : List Int) (h1 : IsRow .u8 W a1 n1 c1 z1) (a2 : Option Addr) (n2 c2 : Nat) (z2 : List Int) (h2 : IsRow .u8 W a2 n2 c2 z2) :
  Calls Tryz.prog 3 #[.slice a1 n1 c1, .slice a2 n2 c2] W fun e W' => e = .returned (.bool true) /\ Below W.heap.size W W' := by
 obtain ⟨l1, hs1⟩ := slAt_row h1
 obtain ⟨l2, hs2⟩ := slAt_row h2
 obtain ⟨w1, hw1⟩ : ∃ w1, w1 = W.alloc (.cells #[.slice a1 n1 c1, .slice a2 n2 c2] 22) := ⟨_, rfl⟩
 have hx1 := heap_new' W (.cells #[.slice a1 n1 c1, .slice a2 n2 c2] 22)
 have hb1 := below_box W (.cells #[.slice a1 n1 c1, .slice a2 n2 c2] 22)
 rw [<- hw1] at hx1 hb1;have hrows : RowsB w1 (some ⟨W.heap.size, 0, none⟩) [l1, l2] := by
  intro i l hl;have hlx := lt_blk hx1
  match i, hl with
  | 0, hl =>
   cases hl
   exact ⟨_, _, _, rfl, hlx, by rw [cells_at hx1]; rfl, hs1.up hb1 (Nat.le_refl _)⟩
  | 1, hl =>
   cases hl
   exact ⟨_, _, _, rfl, hlx, by rw [cells_at hx1]; rfl, hs2.up hb1 (Nat.le_refl _)⟩
  | i + 2, hl => exact absurd hl (by simp)
 have HSH := Lib.hid (short_c [l1, l2] 2 rfl (by decide) (some ⟨W.heap.size, 0, none⟩) 2 w1 hrows hrows.short)
 have HW1 := Lib.hid hw1;have HB1 := Lib.hid hb1;clear hs1 hs2 h1 h2 hx1 hb1 hrows hw1
 go_enter Tryz.func3, Tryz.ntmps3
 go_wp2_with fail
 rw [<- HW1.out];refine HSH.out.mono ?_
 rintro r w2 ⟨v, rfl, ⟨a, c, rfl, hr2⟩, hb2⟩
 have h0 : (shortL [l1, l2]).length = 2 := rfl
 rw [h0];obtain ⟨g, o, v1, e1, hg, hcA, hsA⟩ := hr2 0 (l1.take 80) rfl
 obtain ⟨g', o', v2, e2, _, hcB, hsB⟩ := hr2 1 (l2.take 80) rfl
 subst e1
 injection e2 with e2
 injection e2 with e2 e3 _
 subst e2 e3
 obtain ⟨x1, d1, rfl, hbA, hzA, _, _⟩ := hsA
 obtain ⟨x2, d2, rfl, hbB, hzB, _, _⟩ := hsB
 obtain ⟨m1, hm1⟩ : ∃ m1, m1 = (l1.take 80).length := ⟨_, rfl⟩
 obtain ⟨m2, hm2⟩ : ∃ m2, m2 = (l2.take 80).length := ⟨_, rfl⟩
 have hm1' : m1 <= 80 := by rw [hm1, List.length_take]; omega
 have hm2' : m2 <= 80 := by rw [hm2, List.length_take]; omega
 rw [<- hm1] at hcA;rw [<- hm2] at hcB;have HB2 : Hid (Below W.heap.size W w2) := Lib.hid (HB1.out.trans (hb2.mono HB1.out.size))
 have HREG := Lib.hid (And.intro hg (And.intro hcA (And.intro hcB (And.intro hm1.symm (And.intro hm2.symm (And.intro (And.intro (show m1 <= 1000 by omega) (show m2 <= 1000 by omega)) (And.intro hbA (And.intro hbB (And.intro hzA hzB)))))))))
 clear hr2 hb2 h0 hg hcA hcB hm1 hm2 hm1' hm2' hbA hbB hzA hzB HSH HW1 HB1
 go_upto_region 2 with fail
 obtain ⟨r1, r2, r3, r4, r5, r6, r7, r8, r9⟩ := HREG.out
 refine regionWsv g o c m1 m2 d1 d2 x1 x2 (l1.take 80) (l2.take 80) w2 r1 r2 r3 r4 r5 r6 r7 r8 r9 ?_
 intro vs w3 hv hk;have e19 : vs 19 = .bool true := hv 19 (by omega)
 generalize vs 19 = x19 at e19
 subst e19;have HB3 : Hid (Below W.heap.size W w3) := Lib.hid (HB2.out.trans (hk.mono HB2.out.size))
 clear hv hk r1 r2 r3 r4 r5 r6 r7 r8 r9 HREG HB2;go_wp2
 go_ret
 exact ⟨rfl, HB3.out⟩
end Go.Proofs.YtnmdjggdgakeoaaGreat
namespace Go.Proofs.YtnmdjggdgakeoaaGreat.witnessShows
open Go.ChangeShapes Go.WideShapes Go.ChangeAt Go.RowKit
open Go.ChangeMaps (open_string shut_string)
theorem lifted (os : Os) (started : os.Started) (H : Type) (enc : TypeId × Value -> H) :
  ReturnsInHanded {} Tryz.checked os 3 .any (Rows.witnessShowsSpec.pre6 enc Tryz.prog Tryz.f3 Rows.witnessShowsRow.domain false) (Rows.witnessShowsSpec.post enc Tryz.prog Tryz.f3 false true false false) := by
 refine returnsInHanded_of_change (C := Tryz.checked) own started (by kernel_rfl) Tryz.func3
  (ChangeSpec.witness6 (enc := enc) (C := Tryz.checked) false ⟨#[], #[.slice none 0 0, .slice none 0 0], []⟩ 8 (by kernel_rfl) (by kernel_rfl) (by kernel_rfl) (by kernel_rfl)) ?_
 intro W base args ds gs before hval0 hW hcnd _;have hval : ∀ (j : Nat) t v, Tryz.f3.params[j]? = some t -> args[j]? = some v -> Value.okWide Tryz.prog W .any base t v := hval0
 have hW' := hW
 obtain ⟨p, q, hA0, hV, rfl, hfz, hnd⟩ := hW
 have hA : DataW.TrodAll enc Tryz.prog W 0 (fun _ => true) true Tryz.f3.params.toList args.toList ds p := hA0
 rw [Tryz.params3] at hA hval
 obtain ⟨v0, vs0, d0, ds0, p0, q0, hargs, rfl, rfl, h0, r0⟩ := trodAll_cons hA
 obtain ⟨v1, vs1, d1, ds1, p1, q1, rfl, rfl, rfl, h1, r1⟩ := trodAll_cons r0
 obtain ⟨rfl, rfl, rfl⟩ := trodAll_nil r1
 obtain rfl : args = #[v0, v1] := by cases args; simp_all
 obtain ⟨rfl, rfl⟩ := trodVars_none hV
 have k0 := h0
 have lt0 : ∀ x ∈ p0, x.block < W.heap.size := by obtain ⟨m, hm⟩ := k0; exact DataW.trod_lt m _ _ _ hm
 have k1 := h1
 have lt1 : ∀ x ∈ p1, x.block < W.heap.size := by obtain ⟨m, hm⟩ := k1; exact DataW.trod_lt m _ _ _ hm
 obtain ⟨a0, len0, cap0, rfl⟩ := okWide_slice Tryz.underlying22 (hval 0 22 v0 rfl rfl)
 obtain ⟨z0, w0⟩ : ∃ zs, IsRow .u8 W a0 len0 cap0 zs := by
  obtain ⟨fuel, hf⟩ := h0
  rcases open_ints Tryz.underlying22 Tryz.underlying5 (by kernel_rfl) hf with ⟨hcs, _⟩ | ⟨x, l, c, zs, hcs, _, hl, hm, hz, _, hcell, hwz⟩
  ·simp [Value.cells] at hcs
   obtain ⟨rfl, rfl, rfl⟩ := hcs
   exact ⟨[], .inl ⟨rfl, rfl, rfl, rfl⟩⟩
  ·simp [Value.cells] at hcs
   obtain ⟨rfl, rfl, rfl⟩ := hcs
   exact ⟨zs, .inr ⟨_, rfl, hl, hm, by simpa using hz, hcell, hwz⟩⟩
 obtain ⟨a1, len1, cap1, rfl⟩ := okWide_slice Tryz.underlying22 (hval 1 22 v1 rfl rfl)
 obtain ⟨z1, w1⟩ : ∃ zs, IsRow .u8 W a1 len1 cap1 zs := by
  obtain ⟨fuel, hf⟩ := h1
  rcases open_ints Tryz.underlying22 Tryz.underlying5 (by kernel_rfl) hf with ⟨hcs, _⟩ | ⟨x, l, c, zs, hcs, _, hl, hm, hz, _, hcell, hwz⟩
  ·simp [Value.cells] at hcs
   obtain ⟨rfl, rfl, rfl⟩ := hcs
   exact ⟨[], .inl ⟨rfl, rfl, rfl, rfl⟩⟩
  ·simp [Value.cells] at hcs
   obtain ⟨rfl, rfl, rfl⟩ := hcs
   exact ⟨zs, .inr ⟨_, rfl, hl, hm, by simpa using hz, hcell, hwz⟩⟩
 clear hA0 hval0;refine (walkWitnessShows W a0 len0 cap0 z0 w0 a1 len1 cap1 z1 w1).mono fun e W' ⟨he, bel⟩ => ?_
 subst he;exact ⟨_, rfl, _, _, _, [], _, [], hW', trodAll_mk1 (shut_bool Tryz.underlying4 _), (trodAll_cons_mk (Below.trod laidOut (by kernel_rfl) (of_decide_eq_true (by kernel_rfl)) k0 bel lt0) (trodAll_cons_mk (Below.trod laidOut (by kernel_rfl) (of_decide_eq_true (by kernel_rfl)) k1 bel lt1) trodAll_mk0)), rfl, bel.frame _, fun h => by cases h⟩
theorem over : Rows.witnessShowsRow.holds Tryz.pinned (OpenSpec.ofChange Rows.witnessShowsSpec) :=
 OpenClaim.holds_of_wide 3 Tryz.f3 rfl rfl rfl rfl rfl rfl rfl ⟨rfl, rfl, rfl, rfl, rfl⟩ rfl rfl rfl rfl rfl (by kernel_rfl) Tryz.func3 closed
  (of_decide_eq_true (by kernel_rfl)) (by unfold Func.isWrapper; first | (rw [if_pos (by decide +kernel)]; kernel_rfl) | (rw [if_neg (by decide +kernel)]; exact ⟨rfl, rfl⟩))
  (fun os started H enc _ => lifted os started H enc)
theorem proved : Rows.WitnessShowsSaid := over
#print axioms proved
end Go.Proofs.YtnmdjggdgakeoaaGreat.witnessShows
