/- Lemmas for the proof. -/
import Derived.Test.YtnmdjggdgakeoaaGreatPXt
import Derived.Test.YtnmdjggdgakeoaaGreatPXk
import Derived.Test.YtnmdjggdgakeoaaGreatPXe
set_option maxRecDepth 100000
set_option maxHeartbeats 16000000
set_option linter.unusedVariables false
set_option linter.unusedSimpArgs false
set_option linter.unusedSectionVars false
namespace Go.Proofs.YtnmdjggdgakeoaaGreat
open Go Go.RowKit Sha Tryz
def pairA (a1 a2 : Option Addr) (n1 n2 c1 c2 : Nat) : Array Value := #[.slice a1 n1 c1, .slice a2 n2 c2]
theorem catP_one (a : Option Addr) (c : Nat) (l : List Nat) : catP [(a, c, l)] = l := by simp [catP]
theorem sum1_c (tb ps n : Nat) (a : Option Addr) (c : Nat) (l : List Nat) (hl : l.length = n) (hn : n <= 900000) (w : World) (hT : w.heap[tb]? = some (.cells (wA (KT ++ HL)) 64 (0, 0))) (hps : w.heap[ps]? = some (.cells #[.slice a n c] 22 (0, 0))) (hB : BytesAt w a c l) (hnil : a = none -> c = 0) :
  Calls prog 12 #[.pointer (some ⟨tb, 0, none⟩), .slice (some ⟨ps, 0, none⟩) 1 1] w fun e w' => e = .returned (.agg (bA (sumN l))) /\ Below w.heap.size w w' := by
 subst hl;have h := tsum2_c tb ps 0 1 [(a, c, l)] w hT (lt_blk hps) (fun k s hs => by
  have hk : k = 0 := by
   have := (List.getElem?_eq_some_iff.1 hs).1
   simp at this; exact this
  subst hk;obtain rfl : (a, c, l) = s := by simpa using hs
  exact ⟨by rw [cells_at hps 0]; rfl, hB, hnil⟩) (by simp) (by rw [catP_one]; exact hn)
 rw [catP_one] at h;exact h
def opsWsF : {o : Array Oper // some o = (Tryz.f6.body.bind (Fre.findR 2))} := ⟨_, rfl⟩
theorem fitWsF : Fre.fit .any (Fre.bare opsWsF.1) 25 = true := by kernel_rfl
def GWsF (i : Nat) : Bool := #[true, true, true, true, true, true, true, false, false, false, false, false, false, false, false, false, false, false, true, true].getD i true
def gvWsF (j : Nat) : Bool := match j with
 | 6 => false
 | _ => false
theorem gdWsF : Fre.guardsB opsWsF.1 gvWsF GWsF = true := by kernel_rfl
theorem glWsF : Fre.guardsL opsWsF.1 = [6, 6, 6, 6, 6, 6, 6, 6, 6, 6, 6] := by kernel_rfl
theorem sizeWsF : opsWsF.1.size = 20 := by kernel_rfl
def VWsF (g tb n1 n2 c1 c2 : Nat) (a1 a2 : Option Addr) (l1 l2 : List Nat) (i : Nat) (v : Value) (w : World) : Prop := match i with
 | 0 => v = .pointer (some ⟨g, 0, none⟩)
 | 1 => v = .slice a1 n1 c1
 | 2 => v = .pointer (some ⟨g, 1, none⟩)
 | 3 => v = .slice a2 n2 c2
 | 4 => v = .bool true
 | 5 => v = .bool false
 | 6 => v = .bool false
 | 7 => v = undef
 | 8 => v = undef
 | 9 => v = undef
 | 10 => v = undef
 | 11 => v = undef
 | 12 => v = undef
 | 13 => v = undef
 | 14 => v = undef
 | 15 => v = undef
 | 16 => v = undef
 | 17 => v = undef
 | 18 => v = .bool false
 | 19 => v = .bool false
 | _ => True
section
variable {u0 u2 u4 u5 u6 u7 u8 u9 u10 u11 u12 u13 u14 u15 u16 u17 u18 u19 u20 u21 u22 u23 u24 : Value}
theorem kpWsF (g tb n1 n2 c1 c2 : Nat) (a1 a2 : Option Addr) (l1 l2 : List Nat) : ∀ j v w w', j < opsWsF.1.size -> VWsF g tb n1 n2 c1 c2 a1 a2 l1 l2 j v w -> Fre.Kept w w' -> VWsF g tb n1 n2 c1 c2 a1 a2 l1 l2 j v w' := by
 intro j v w w' hj h hs
 rw [sizeWsF] at hj;rcases cs20 hj with rfl | rfl | rfl | rfl | rfl | rfl | rfl | rfl | rfl | rfl | rfl | rfl | rfl | rfl | rfl | rfl | rfl | rfl | rfl | rfl <;> exact h
variable {g tb n1 n2 c1 c2 : Nat} {a1 a2 : Option Addr} {l1 l2 : List Nat} {a0 : Act} {w0 : World} (h0 : w0.heap[g]? = some (.cells (pairA a1 a2 n1 n2 c1 c2) 26 (0, 0))) (ht : w0.heap[tb]? = some (.cells (wA (KT ++ HL)) 64 (0, 0))) (e1 : l1.length = n1) (e2 : l2.length = n2) (hn : n1 <= 1000 /\ n2 <= 1000) (hb1 : BytesAt w0 a1 c1 l1) (hb2 : BytesAt w0 a2 c2 l2) (hz : (a1 = none -> c1 = 0) /\ (a2 = none -> c2 = 0)) (hle : decide (l1 = l2) = true)
include h0 ht e1 e2 hn hb1 hb2 hz hle
theorem stWsF_0 (g91 : a0.tmps.getD 1 undef = .pointer (some ⟨g, 0, none⟩)) : Fre.StepB prog opsWsF.1 a0 w0 (VWsF g tb n1 n2 c1 c2 a1 a2 l1 l2) Fre.Kept 0 := by
 rintro E w hc hf hE hV hN hS _ ⟨⟩
 simp only [opsWsF, gA, gS, gZ]
 have b1 : E (.tmp 1) = .pointer (some ⟨g, 0, none⟩) := (hE 1 (by kernel_rfl)).trans g91
 clear g91;refine Fre.dv (v := .pointer (some ⟨g, 0, none⟩)) ?_
 go_simp
theorem stWsF_1 : Fre.StepB prog opsWsF.1 a0 w0 (VWsF g tb n1 n2 c1 c2 a1 a2 l1 l2) Fre.Kept 1 := by
 rintro E w hc hf hE hV hN hS _ ⟨⟩
 simp only [opsWsF, gA, gS, gZ]
 have d0 : E (.tmp 6) = .pointer (some ⟨g, 0, none⟩) := hV 0 6 (by kernel_rfl) (by kernel_rfl)
 have c0 : w.cell? ⟨g, 0, none⟩ = some (.slice a1 n1 c1) := by rw [cells_at ((hS.block g (lt_blk h0)).trans h0) 0]; rfl
 refine Fre.dv (v := .slice a1 n1 c1) ?_
 go_simp
theorem stWsF_2 (g91 : a0.tmps.getD 1 undef = .pointer (some ⟨g, 0, none⟩)) : Fre.StepB prog opsWsF.1 a0 w0 (VWsF g tb n1 n2 c1 c2 a1 a2 l1 l2) Fre.Kept 2 := by
 rintro E w hc hf hE hV hN hS _ ⟨⟩
 simp only [opsWsF, gA, gS, gZ]
 have b1 : E (.tmp 1) = .pointer (some ⟨g, 0, none⟩) := (hE 1 (by kernel_rfl)).trans g91
 clear g91;refine Fre.dv (v := .pointer (some ⟨g, 1, none⟩)) ?_
 go_simp
theorem stWsF_3 : Fre.StepB prog opsWsF.1 a0 w0 (VWsF g tb n1 n2 c1 c2 a1 a2 l1 l2) Fre.Kept 3 := by
 rintro E w hc hf hE hV hN hS _ ⟨⟩
 simp only [opsWsF, gA, gS, gZ]
 have d2 : E (.tmp 8) = .pointer (some ⟨g, 1, none⟩) := hV 2 8 (by kernel_rfl) (by kernel_rfl)
 have c0 : w.cell? ⟨g, 1, none⟩ = some (.slice a2 n2 c2) := by rw [cells_at ((hS.block g (lt_blk h0)).trans h0) 1]; rfl
 refine Fre.dv (v := .slice a2 n2 c2) ?_
 go_simp
theorem stWsF_4 : Fre.StepB prog opsWsF.1 a0 w0 (VWsF g tb n1 n2 c1 c2 a1 a2 l1 l2) Fre.Kept 4 := by
 rintro E w hc hf hE hV hN hS _ ⟨⟩
 simp only [opsWsF, gA, gS, gZ]
 have d1 : E (.tmp 7) = .slice a1 n1 c1 := hV 1 7 (by kernel_rfl) (by kernel_rfl)
 have d3 : E (.tmp 9) = .slice a2 n2 c2 := hV 3 9 (by kernel_rfl) (by kernel_rfl)
 refine Fre.Does.enter (f := 13) (args := #[.slice a1 n1 c1, .slice a2 n2 c2]) (w' := w) ?_ ((equalB_c a1 a2 c1 c2 n1 n2 l1 l2 e1 e2 w (hb1.up hS (Nat.le_refl _)) (hb2.up hS (Nat.le_refl _))).mono ?_)
 ·go_simp
 ·rintro e w' ⟨rfl, rfl⟩
  exact ⟨_, rfl, by rw [hle]; rfl, Fre.Kept.refl _⟩
theorem stWsF_5 : Fre.StepB prog opsWsF.1 a0 w0 (VWsF g tb n1 n2 c1 c2 a1 a2 l1 l2) Fre.Kept 5 := by
 rintro E w hc hf hE hV hN hS _ ⟨⟩
 simp only [opsWsF, gA, gS, gZ]
 have d4 : E (.tmp 10) = .bool true := hV 4 10 (by kernel_rfl) (by kernel_rfl)
 refine Fre.dv (v := .bool false) ?_
 go_simp
theorem stWsF_6 : Fre.StepB prog opsWsF.1 a0 w0 (VWsF g tb n1 n2 c1 c2 a1 a2 l1 l2) Fre.Kept 6 := by
 rintro E w hc hf hE hV hN hS _ ⟨⟩
 simp only [opsWsF, gA, gS, gZ]
 have d5 : E (.tmp 11) = .bool false := hV 5 11 (by kernel_rfl) (by kernel_rfl)
 refine Fre.dv (v := .bool false) ?_
 go_simp
theorem stWsF_18 : Fre.StepB prog opsWsF.1 a0 w0 (VWsF g tb n1 n2 c1 c2 a1 a2 l1 l2) Fre.Kept 18 := by
 rintro E w hc hf hE hV hN hS _ ⟨⟩
 simp only [opsWsF, gA, gS, gZ]
 have d6 : E (.tmp 12) = .bool false := hV 6 12 (by kernel_rfl) (by kernel_rfl)
 have d17 : E (.tmp 23) = undef := hV 17 23 (by kernel_rfl) (by kernel_rfl)
 refine Fre.dv (v := .bool false) ?_
 go_simp
theorem stWsF_19 : Fre.StepB prog opsWsF.1 a0 w0 (VWsF g tb n1 n2 c1 c2 a1 a2 l1 l2) Fre.Kept 19 := by
 rintro E w hc hf hE hV hN hS _ ⟨⟩
 simp only [opsWsF, gA, gS, gZ]
 have d18 : E (.tmp 24) = .bool false := hV 18 24 (by kernel_rfl) (by kernel_rfl)
 refine Fre.dv (v := .bool false) ?_
 go_simp
variable (g tb n1 n2 c1 c2 a1 a2 l1 l2 w0)
theorem regionWsF {QQ : Exit -> Act -> World -> Prop} (hQ : ∀ (vs : Nat -> Value) w, (∀ j, j < 20 -> VWsF g tb n1 n2 c1 c2 a1 a2 l1 l2 j (vs j) w) -> Fre.Kept w0 w -> QQ .normal ⟨#[u0, .pointer (some ⟨g, 0, none⟩), vs 19, .func (.func 12) #[.pointer (some ⟨tb, 0, none⟩)] #[], u4, u5, vs 0, vs 1, vs 2, vs 3, vs 4, vs 5, vs 6, vs 7, vs 8, vs 9, vs 10, vs 11, vs 12, vs 13, vs 14, vs 15, vs 16, vs 17, vs 18], []⟩ w) : (Code.region 2 opsWsF.1 true).wp prog QQ ⟨#[u0, .pointer (some ⟨g, 0, none⟩), u2, .func (.func 12) #[.pointer (some ⟨tb, 0, none⟩)] #[], u4, u5, u6, u7, u8, u9, u10, u11, u12, u13, u14, u15, u16, u17, u18, u19, u20, u21, u22, u23, u24], []⟩ w0 := by
 refine Fre.region_keptG 25 (by kernel_rfl) fitWsF rfl (VWsF g tb n1 n2 c1 c2 a1 a2 l1 l2) GWsF gvWsF gdWsF (fun j hj v w hV => ?_) (kpWsF g tb n1 n2 c1 c2 a1 a2 l1 l2) (fun i hi hg => ?_) (fun i hi hg w => ?_) (fun vs w h1 h2 => ?_)
 case refine_1 =>
  have hj2 := Fre.isGuard_mem hj
  rw [glWsF] at hj2;have hc : j = 6 := by simpa using hj2
  rcases hc with rfl
  ·exact hV
 case refine_3 =>
  rw [sizeWsF] at hi;rcases cs20 hi with rfl | rfl | rfl | rfl | rfl | rfl | rfl | rfl | rfl | rfl | rfl | rfl | rfl | rfl | rfl | rfl | rfl | rfl | rfl | rfl
  ·exact absurd hg (by decide)
  ·exact absurd hg (by decide)
  ·exact absurd hg (by decide)
  ·exact absurd hg (by decide)
  ·exact absurd hg (by decide)
  ·exact absurd hg (by decide)
  ·exact absurd hg (by decide)
  ·exact rfl
  ·exact rfl
  ·exact rfl
  ·exact rfl
  ·exact rfl
  ·exact rfl
  ·exact rfl
  ·exact rfl
  ·exact rfl
  ·exact rfl
  ·exact rfl
  ·exact absurd hg (by decide)
  ·exact absurd hg (by decide)
 case refine_4 =>
  have h9 := hQ vs w (fun j hj => h1 j (by rw [sizeWsF]; exact hj)) h2
  exact Fre.fe (p := fun t => QQ .normal ⟨t, []⟩ w) h9 (by kernel_rfl)
 rw [sizeWsF] at hi;rcases cs20 hi with rfl | rfl | rfl | rfl | rfl | rfl | rfl | rfl | rfl | rfl | rfl | rfl | rfl | rfl | rfl | rfl | rfl | rfl | rfl | rfl
 ·exact stWsF_0 h0 ht e1 e2 hn hb1 hb2 hz hle rfl
 ·exact stWsF_1 h0 ht e1 e2 hn hb1 hb2 hz hle
 ·exact stWsF_2 h0 ht e1 e2 hn hb1 hb2 hz hle rfl
 ·exact stWsF_3 h0 ht e1 e2 hn hb1 hb2 hz hle
 ·exact stWsF_4 h0 ht e1 e2 hn hb1 hb2 hz hle
 ·exact stWsF_5 h0 ht e1 e2 hn hb1 hb2 hz hle
 ·exact stWsF_6 h0 ht e1 e2 hn hb1 hb2 hz hle
 ·exact absurd hg (by decide)
 ·exact absurd hg (by decide)
 ·exact absurd hg (by decide)
 ·exact absurd hg (by decide)
 ·exact absurd hg (by decide)
 ·exact absurd hg (by decide)
 ·exact absurd hg (by decide)
 ·exact absurd hg (by decide)
 ·exact absurd hg (by decide)
 ·exact absurd hg (by decide)
 ·exact absurd hg (by decide)
 ·exact stWsF_18 h0 ht e1 e2 hn hb1 hb2 hz hle
 ·exact stWsF_19 h0 ht e1 e2 hn hb1 hb2 hz hle
end
def opsWsT : {o : Array Oper // some o = (Tryz.f6.body.bind (Fre.findR 2))} := ⟨_, rfl⟩
theorem fitWsT : Fre.fit .any (Fre.bare opsWsT.1) 25 = true := by kernel_rfl
def GWsT (i : Nat) : Bool := #[true, true, true, true, true, true, true, true, true, true, true, true, true, true, true, true, true, true, true, true].getD i true
def gvWsT (j : Nat) : Bool := match j with
 | 6 => true
 | _ => false
theorem gdWsT : Fre.guardsB opsWsT.1 gvWsT GWsT = true := by kernel_rfl
theorem glWsT : Fre.guardsL opsWsT.1 = [6, 6, 6, 6, 6, 6, 6, 6, 6, 6, 6] := by kernel_rfl
theorem sizeWsT : opsWsT.1.size = 20 := by kernel_rfl
def VWsT (g tb n1 n2 c1 c2 : Nat) (a1 a2 : Option Addr) (l1 l2 : List Nat) (i : Nat) (v : Value) (w : World) : Prop := match i with
 | 0 => v = .pointer (some ⟨g, 0, none⟩)
 | 1 => v = .slice a1 n1 c1
 | 2 => v = .pointer (some ⟨g, 1, none⟩)
 | 3 => v = .slice a2 n2 c2
 | 4 => v = .bool false
 | 5 => v = .bool true
 | 6 => v = .bool true
 | 7 => v = .func (.func 12) #[.pointer (some ⟨tb, 0, none⟩)] #[]
 | 8 => v = .pointer (some ⟨g, 0, none⟩)
 | 9 => v = .slice a1 n1 c1
 | 10 => ∃ q, v = .slice (some ⟨q, 0, none⟩) 1 1 /\ w.heap[q]? = some (.cells #[.slice a1 n1 c1] 22 (0, 0))
 | 11 => v = .agg (bA (sumN l1))
 | 12 => v = .func (.func 12) #[.pointer (some ⟨tb, 0, none⟩)] #[]
 | 13 => v = .pointer (some ⟨g, 1, none⟩)
 | 14 => v = .slice a2 n2 c2
 | 15 => ∃ q, v = .slice (some ⟨q, 0, none⟩) 1 1 /\ w.heap[q]? = some (.cells #[.slice a2 n2 c2] 22 (0, 0))
 | 16 => v = .agg (bA (sumN l2))
 | 17 => v = .bool (decide (sumN l1 = sumN l2))
 | 18 => v = .bool (decide (sumN l1 = sumN l2))
 | 19 => v = .bool (decide (sumN l1 = sumN l2))
 | _ => True
section
variable {u0 u2 u4 u5 u6 u7 u8 u9 u10 u11 u12 u13 u14 u15 u16 u17 u18 u19 u20 u21 u22 u23 u24 : Value}
theorem kpWsT (g tb n1 n2 c1 c2 : Nat) (a1 a2 : Option Addr) (l1 l2 : List Nat) : ∀ j v w w', j < opsWsT.1.size -> VWsT g tb n1 n2 c1 c2 a1 a2 l1 l2 j v w -> Fre.Kept w w' -> VWsT g tb n1 n2 c1 c2 a1 a2 l1 l2 j v w' := by
 intro j v w w' hj h hs
 rw [sizeWsT] at hj;rcases cs20 hj with rfl | rfl | rfl | rfl | rfl | rfl | rfl | rfl | rfl | rfl | rfl | rfl | rfl | rfl | rfl | rfl | rfl | rfl | rfl | rfl
 any_goals exact h
 ·change ∃ q, v = .slice (some ⟨q, 0, none⟩) 1 1 /\ w.heap[q]? = some (.cells #[.slice a1 n1 c1] 22 (0, 0)) at h
  obtain ⟨q, h1, h2⟩ := h
  exact ⟨q, h1, (hs.block _ (lt_blk h2)).trans h2⟩
 ·change ∃ q, v = .slice (some ⟨q, 0, none⟩) 1 1 /\ w.heap[q]? = some (.cells #[.slice a2 n2 c2] 22 (0, 0)) at h
  obtain ⟨q, h1, h2⟩ := h
  exact ⟨q, h1, (hs.block _ (lt_blk h2)).trans h2⟩
variable {g tb n1 n2 c1 c2 : Nat} {a1 a2 : Option Addr} {l1 l2 : List Nat} {a0 : Act} {w0 : World} (h0 : w0.heap[g]? = some (.cells (pairA a1 a2 n1 n2 c1 c2) 26 (0, 0))) (ht : w0.heap[tb]? = some (.cells (wA (KT ++ HL)) 64 (0, 0))) (e1 : l1.length = n1) (e2 : l2.length = n2) (hn : n1 <= 1000 /\ n2 <= 1000) (hb1 : BytesAt w0 a1 c1 l1) (hb2 : BytesAt w0 a2 c2 l2) (hz : (a1 = none -> c1 = 0) /\ (a2 = none -> c2 = 0)) (hle : decide (l1 = l2) = false)
include h0 ht e1 e2 hn hb1 hb2 hz hle
theorem stWsT_0 (g91 : a0.tmps.getD 1 undef = .pointer (some ⟨g, 0, none⟩)) : Fre.StepB prog opsWsT.1 a0 w0 (VWsT g tb n1 n2 c1 c2 a1 a2 l1 l2) Fre.Kept 0 := by
 rintro E w hc hf hE hV hN hS _ ⟨⟩
 simp only [opsWsT, gA, gS, gZ]
 have b1 : E (.tmp 1) = .pointer (some ⟨g, 0, none⟩) := (hE 1 (by kernel_rfl)).trans g91
 clear g91;refine Fre.dv (v := .pointer (some ⟨g, 0, none⟩)) ?_
 go_simp
theorem stWsT_1 : Fre.StepB prog opsWsT.1 a0 w0 (VWsT g tb n1 n2 c1 c2 a1 a2 l1 l2) Fre.Kept 1 := by
 rintro E w hc hf hE hV hN hS _ ⟨⟩
 simp only [opsWsT, gA, gS, gZ]
 have d0 : E (.tmp 6) = .pointer (some ⟨g, 0, none⟩) := hV 0 6 (by kernel_rfl) (by kernel_rfl)
 have c0 : w.cell? ⟨g, 0, none⟩ = some (.slice a1 n1 c1) := by rw [cells_at ((hS.block g (lt_blk h0)).trans h0) 0]; rfl
 refine Fre.dv (v := .slice a1 n1 c1) ?_
 go_simp
theorem stWsT_2 (g91 : a0.tmps.getD 1 undef = .pointer (some ⟨g, 0, none⟩)) : Fre.StepB prog opsWsT.1 a0 w0 (VWsT g tb n1 n2 c1 c2 a1 a2 l1 l2) Fre.Kept 2 := by
 rintro E w hc hf hE hV hN hS _ ⟨⟩
 simp only [opsWsT, gA, gS, gZ]
 have b1 : E (.tmp 1) = .pointer (some ⟨g, 0, none⟩) := (hE 1 (by kernel_rfl)).trans g91
 clear g91;refine Fre.dv (v := .pointer (some ⟨g, 1, none⟩)) ?_
 go_simp
theorem stWsT_3 : Fre.StepB prog opsWsT.1 a0 w0 (VWsT g tb n1 n2 c1 c2 a1 a2 l1 l2) Fre.Kept 3 := by
 rintro E w hc hf hE hV hN hS _ ⟨⟩
 simp only [opsWsT, gA, gS, gZ]
 have d2 : E (.tmp 8) = .pointer (some ⟨g, 1, none⟩) := hV 2 8 (by kernel_rfl) (by kernel_rfl)
 have c0 : w.cell? ⟨g, 1, none⟩ = some (.slice a2 n2 c2) := by rw [cells_at ((hS.block g (lt_blk h0)).trans h0) 1]; rfl
 refine Fre.dv (v := .slice a2 n2 c2) ?_
 go_simp
theorem stWsT_4 : Fre.StepB prog opsWsT.1 a0 w0 (VWsT g tb n1 n2 c1 c2 a1 a2 l1 l2) Fre.Kept 4 := by
 rintro E w hc hf hE hV hN hS _ ⟨⟩
 simp only [opsWsT, gA, gS, gZ]
 have d1 : E (.tmp 7) = .slice a1 n1 c1 := hV 1 7 (by kernel_rfl) (by kernel_rfl)
 have d3 : E (.tmp 9) = .slice a2 n2 c2 := hV 3 9 (by kernel_rfl) (by kernel_rfl)
 refine Fre.Does.enter (f := 13) (args := #[.slice a1 n1 c1, .slice a2 n2 c2]) (w' := w) ?_ ((equalB_c a1 a2 c1 c2 n1 n2 l1 l2 e1 e2 w (hb1.up hS (Nat.le_refl _)) (hb2.up hS (Nat.le_refl _))).mono ?_)
 ·go_simp
 ·rintro e w' ⟨rfl, rfl⟩
  exact ⟨_, rfl, by rw [hle]; rfl, Fre.Kept.refl _⟩
theorem stWsT_5 : Fre.StepB prog opsWsT.1 a0 w0 (VWsT g tb n1 n2 c1 c2 a1 a2 l1 l2) Fre.Kept 5 := by
 rintro E w hc hf hE hV hN hS _ ⟨⟩
 simp only [opsWsT, gA, gS, gZ]
 have d4 : E (.tmp 10) = .bool false := hV 4 10 (by kernel_rfl) (by kernel_rfl)
 refine Fre.dv (v := .bool true) ?_
 go_simp
theorem stWsT_6 : Fre.StepB prog opsWsT.1 a0 w0 (VWsT g tb n1 n2 c1 c2 a1 a2 l1 l2) Fre.Kept 6 := by
 rintro E w hc hf hE hV hN hS _ ⟨⟩
 simp only [opsWsT, gA, gS, gZ]
 have d5 : E (.tmp 11) = .bool true := hV 5 11 (by kernel_rfl) (by kernel_rfl)
 refine Fre.dv (v := .bool true) ?_
 go_simp
theorem stWsT_7 (g93 : a0.tmps.getD 3 undef = .func (.func 12) #[.pointer (some ⟨tb, 0, none⟩)] #[]) : Fre.StepB prog opsWsT.1 a0 w0 (VWsT g tb n1 n2 c1 c2 a1 a2 l1 l2) Fre.Kept 7 := by
 rintro E w hc hf hE hV hN hS _ ⟨⟩
 simp only [opsWsT, gA, gS, gZ]
 have b3 : E (.tmp 3) = .func (.func 12) #[.pointer (some ⟨tb, 0, none⟩)] #[] := (hE 3 (by kernel_rfl)).trans g93
 clear g93;refine Fre.dv (v := .func (.func 12) #[.pointer (some ⟨tb, 0, none⟩)] #[]) ?_
 go_simp
theorem stWsT_8 (g91 : a0.tmps.getD 1 undef = .pointer (some ⟨g, 0, none⟩)) : Fre.StepB prog opsWsT.1 a0 w0 (VWsT g tb n1 n2 c1 c2 a1 a2 l1 l2) Fre.Kept 8 := by
 rintro E w hc hf hE hV hN hS _ ⟨⟩
 simp only [opsWsT, gA, gS, gZ]
 have b1 : E (.tmp 1) = .pointer (some ⟨g, 0, none⟩) := (hE 1 (by kernel_rfl)).trans g91
 clear g91;refine Fre.dv (v := .pointer (some ⟨g, 0, none⟩)) ?_
 go_simp
theorem stWsT_9 : Fre.StepB prog opsWsT.1 a0 w0 (VWsT g tb n1 n2 c1 c2 a1 a2 l1 l2) Fre.Kept 9 := by
 rintro E w hc hf hE hV hN hS _ ⟨⟩
 simp only [opsWsT, gA, gS, gZ]
 have d8 : E (.tmp 14) = .pointer (some ⟨g, 0, none⟩) := hV 8 14 (by kernel_rfl) (by kernel_rfl)
 have c0 : w.cell? ⟨g, 0, none⟩ = some (.slice a1 n1 c1) := by rw [cells_at ((hS.block g (lt_blk h0)).trans h0) 0]; rfl
 refine Fre.dv (v := .slice a1 n1 c1) ?_
 go_simp
theorem stWsT_10 : Fre.StepB prog opsWsT.1 a0 w0 (VWsT g tb n1 n2 c1 c2 a1 a2 l1 l2) Fre.Kept 10 := by
 rintro E w hc hf hE hV hN hS _ ⟨⟩
 simp only [opsWsT, gA, gS, gZ]
 have d9 : E (.tmp 15) = .slice a1 n1 c1 := hV 9 15 (by kernel_rfl) (by kernel_rfl)
 refine Fre.Does.value (v := .slice (some ⟨w.heap.size, 0, none⟩) 1 1) (w' := w.alloc (.cells #[.slice a1 n1 c1] 22)) ?_ ⟨⟨_, rfl, heap_new' _ _⟩, below_box _ _⟩
 go_simp
theorem stWsT_11 : Fre.StepB prog opsWsT.1 a0 w0 (VWsT g tb n1 n2 c1 c2 a1 a2 l1 l2) Fre.Kept 11 := by
 rintro E w hc hf hE hV hN hS _ ⟨⟩
 simp only [opsWsT, gA, gS, gZ]
 have d7 : E (.tmp 13) = .func (.func 12) #[.pointer (some ⟨tb, 0, none⟩)] #[] := hV 7 13 (by kernel_rfl) (by kernel_rfl)
 have d10 := hV 10 16 (by kernel_rfl) (by kernel_rfl)
 replace d10 : (fun v : Value => ∃ q, v = .slice (some ⟨q, 0, none⟩) 1 1 /\ w.heap[q]? = some (.cells #[.slice a1 n1 c1] 22 (0, 0))) (E (.tmp 16)) := d10
 simp only at d10
 obtain ⟨q, d10, hq⟩ := d10
 refine Fre.Does.enter (f := 12) (args := #[.pointer (some ⟨tb, 0, none⟩), .slice (some ⟨q, 0, none⟩) 1 1]) (w' := w) ?_ ((sum1_c tb q _ a1 c1 l1 e1 (by omega) w ((hS.block tb (lt_blk ht)).trans ht) hq (hb1.up hS (Nat.le_refl _)) hz.1).mono ?_)
 ·go_simp
 ·rintro e w' ⟨rfl, hk'⟩
  exact ⟨_, rfl, rfl, hk'⟩
theorem stWsT_12 (g93 : a0.tmps.getD 3 undef = .func (.func 12) #[.pointer (some ⟨tb, 0, none⟩)] #[]) : Fre.StepB prog opsWsT.1 a0 w0 (VWsT g tb n1 n2 c1 c2 a1 a2 l1 l2) Fre.Kept 12 := by
 rintro E w hc hf hE hV hN hS _ ⟨⟩
 simp only [opsWsT, gA, gS, gZ]
 have b3 : E (.tmp 3) = .func (.func 12) #[.pointer (some ⟨tb, 0, none⟩)] #[] := (hE 3 (by kernel_rfl)).trans g93
 clear g93;refine Fre.dv (v := .func (.func 12) #[.pointer (some ⟨tb, 0, none⟩)] #[]) ?_
 go_simp
theorem stWsT_13 (g91 : a0.tmps.getD 1 undef = .pointer (some ⟨g, 0, none⟩)) : Fre.StepB prog opsWsT.1 a0 w0 (VWsT g tb n1 n2 c1 c2 a1 a2 l1 l2) Fre.Kept 13 := by
 rintro E w hc hf hE hV hN hS _ ⟨⟩
 simp only [opsWsT, gA, gS, gZ]
 have b1 : E (.tmp 1) = .pointer (some ⟨g, 0, none⟩) := (hE 1 (by kernel_rfl)).trans g91
 clear g91;refine Fre.dv (v := .pointer (some ⟨g, 1, none⟩)) ?_
 go_simp
theorem stWsT_14 : Fre.StepB prog opsWsT.1 a0 w0 (VWsT g tb n1 n2 c1 c2 a1 a2 l1 l2) Fre.Kept 14 := by
 rintro E w hc hf hE hV hN hS _ ⟨⟩
 simp only [opsWsT, gA, gS, gZ]
 have d13 : E (.tmp 19) = .pointer (some ⟨g, 1, none⟩) := hV 13 19 (by kernel_rfl) (by kernel_rfl)
 have c0 : w.cell? ⟨g, 1, none⟩ = some (.slice a2 n2 c2) := by rw [cells_at ((hS.block g (lt_blk h0)).trans h0) 1]; rfl
 refine Fre.dv (v := .slice a2 n2 c2) ?_
 go_simp
theorem stWsT_15 : Fre.StepB prog opsWsT.1 a0 w0 (VWsT g tb n1 n2 c1 c2 a1 a2 l1 l2) Fre.Kept 15 := by
 rintro E w hc hf hE hV hN hS _ ⟨⟩
 simp only [opsWsT, gA, gS, gZ]
 have d14 : E (.tmp 20) = .slice a2 n2 c2 := hV 14 20 (by kernel_rfl) (by kernel_rfl)
 refine Fre.Does.value (v := .slice (some ⟨w.heap.size, 0, none⟩) 1 1) (w' := w.alloc (.cells #[.slice a2 n2 c2] 22)) ?_ ⟨⟨_, rfl, heap_new' _ _⟩, below_box _ _⟩
 go_simp
theorem stWsT_16 : Fre.StepB prog opsWsT.1 a0 w0 (VWsT g tb n1 n2 c1 c2 a1 a2 l1 l2) Fre.Kept 16 := by
 rintro E w hc hf hE hV hN hS _ ⟨⟩
 simp only [opsWsT, gA, gS, gZ]
 have d12 : E (.tmp 18) = .func (.func 12) #[.pointer (some ⟨tb, 0, none⟩)] #[] := hV 12 18 (by kernel_rfl) (by kernel_rfl)
 have d15 := hV 15 21 (by kernel_rfl) (by kernel_rfl)
 replace d15 : (fun v : Value => ∃ q, v = .slice (some ⟨q, 0, none⟩) 1 1 /\ w.heap[q]? = some (.cells #[.slice a2 n2 c2] 22 (0, 0))) (E (.tmp 21)) := d15
 simp only at d15
 obtain ⟨q, d15, hq⟩ := d15
 refine Fre.Does.enter (f := 12) (args := #[.pointer (some ⟨tb, 0, none⟩), .slice (some ⟨q, 0, none⟩) 1 1]) (w' := w) ?_ ((sum1_c tb q _ a2 c2 l2 e2 (by omega) w ((hS.block tb (lt_blk ht)).trans ht) hq (hb2.up hS (Nat.le_refl _)) hz.2).mono ?_)
 ·go_simp
 ·rintro e w' ⟨rfl, hk'⟩
  exact ⟨_, rfl, rfl, hk'⟩
theorem stWsT_17 : Fre.StepB prog opsWsT.1 a0 w0 (VWsT g tb n1 n2 c1 c2 a1 a2 l1 l2) Fre.Kept 17 := by
 rintro E w hc hf hE hV hN hS _ ⟨⟩
 simp only [opsWsT, gA, gS, gZ]
 have d11 : E (.tmp 17) = .agg (bA (sumN l1)) := hV 11 17 (by kernel_rfl) (by kernel_rfl)
 have d16 : E (.tmp 22) = .agg (bA (sumN l2)) := hV 16 22 (by kernel_rfl) (by kernel_rfl)
 obtain ⟨i8, hi8⟩ := u8some
 have hq : (Op.equalIn 10000 38 (.agg (bA (sumN l1))) (.agg (bA (sumN l2)))).run prog w = .ok (decide (sumN l1 = sumN l2)) w := equalIn_bytes prog 9998 32 38 5 i8 underlying38 underlying5 u8plain hi8 u8cells (sumN l1) (sumN l2) (sum_len l1) (sum_len l2) w
 refine Fre.dv (v := .bool (decide (sumN l1 = sumN l2))) ?_
 go_simp
theorem stWsT_18 : Fre.StepB prog opsWsT.1 a0 w0 (VWsT g tb n1 n2 c1 c2 a1 a2 l1 l2) Fre.Kept 18 := by
 rintro E w hc hf hE hV hN hS _ ⟨⟩
 simp only [opsWsT, gA, gS, gZ]
 have d6 : E (.tmp 12) = .bool true := hV 6 12 (by kernel_rfl) (by kernel_rfl)
 have d17 : E (.tmp 23) = .bool (decide (sumN l1 = sumN l2)) := hV 17 23 (by kernel_rfl) (by kernel_rfl)
 refine Fre.dv (v := .bool (decide (sumN l1 = sumN l2))) ?_
 go_simp
theorem stWsT_19 : Fre.StepB prog opsWsT.1 a0 w0 (VWsT g tb n1 n2 c1 c2 a1 a2 l1 l2) Fre.Kept 19 := by
 rintro E w hc hf hE hV hN hS _ ⟨⟩
 simp only [opsWsT, gA, gS, gZ]
 have d18 : E (.tmp 24) = .bool (decide (sumN l1 = sumN l2)) := hV 18 24 (by kernel_rfl) (by kernel_rfl)
 refine Fre.dv (v := .bool (decide (sumN l1 = sumN l2))) ?_
 go_simp
variable (g tb n1 n2 c1 c2 a1 a2 l1 l2 w0)
theorem regionWsT {QQ : Exit -> Act -> World -> Prop} (hQ : ∀ (vs : Nat -> Value) w, (∀ j, j < 20 -> VWsT g tb n1 n2 c1 c2 a1 a2 l1 l2 j (vs j) w) -> Fre.Kept w0 w -> QQ .normal ⟨#[u0, .pointer (some ⟨g, 0, none⟩), vs 19, .func (.func 12) #[.pointer (some ⟨tb, 0, none⟩)] #[], u4, u5, vs 0, vs 1, vs 2, vs 3, vs 4, vs 5, vs 6, vs 7, vs 8, vs 9, vs 10, vs 11, vs 12, vs 13, vs 14, vs 15, vs 16, vs 17, vs 18], []⟩ w) : (Code.region 2 opsWsT.1 true).wp prog QQ ⟨#[u0, .pointer (some ⟨g, 0, none⟩), u2, .func (.func 12) #[.pointer (some ⟨tb, 0, none⟩)] #[], u4, u5, u6, u7, u8, u9, u10, u11, u12, u13, u14, u15, u16, u17, u18, u19, u20, u21, u22, u23, u24], []⟩ w0 := by
 refine Fre.region_keptG 25 (by kernel_rfl) fitWsT rfl (VWsT g tb n1 n2 c1 c2 a1 a2 l1 l2) GWsT gvWsT gdWsT (fun j hj v w hV => ?_) (kpWsT g tb n1 n2 c1 c2 a1 a2 l1 l2) (fun i hi hg => ?_) (fun i hi hg w => ?_) (fun vs w h1 h2 => ?_)
 case refine_1 =>
  have hj2 := Fre.isGuard_mem hj
  rw [glWsT] at hj2;have hc : j = 6 := by simpa using hj2
  rcases hc with rfl
  ·exact hV
 case refine_3 =>
  rw [sizeWsT] at hi;rcases cs20 hi with rfl | rfl | rfl | rfl | rfl | rfl | rfl | rfl | rfl | rfl | rfl | rfl | rfl | rfl | rfl | rfl | rfl | rfl | rfl | rfl <;> exact absurd hg (by decide)
 case refine_4 =>
  have h9 := hQ vs w (fun j hj => h1 j (by rw [sizeWsT]; exact hj)) h2
  exact Fre.fe (p := fun t => QQ .normal ⟨t, []⟩ w) h9 (by kernel_rfl)
 rw [sizeWsT] at hi;rcases cs20 hi with rfl | rfl | rfl | rfl | rfl | rfl | rfl | rfl | rfl | rfl | rfl | rfl | rfl | rfl | rfl | rfl | rfl | rfl | rfl | rfl
 ·exact stWsT_0 h0 ht e1 e2 hn hb1 hb2 hz hle rfl
 ·exact stWsT_1 h0 ht e1 e2 hn hb1 hb2 hz hle
 ·exact stWsT_2 h0 ht e1 e2 hn hb1 hb2 hz hle rfl
 ·exact stWsT_3 h0 ht e1 e2 hn hb1 hb2 hz hle
 ·exact stWsT_4 h0 ht e1 e2 hn hb1 hb2 hz hle
 ·exact stWsT_5 h0 ht e1 e2 hn hb1 hb2 hz hle
 ·exact stWsT_6 h0 ht e1 e2 hn hb1 hb2 hz hle
 ·exact stWsT_7 h0 ht e1 e2 hn hb1 hb2 hz hle rfl
 ·exact stWsT_8 h0 ht e1 e2 hn hb1 hb2 hz hle rfl
 ·exact stWsT_9 h0 ht e1 e2 hn hb1 hb2 hz hle
 ·exact stWsT_10 h0 ht e1 e2 hn hb1 hb2 hz hle
 ·exact stWsT_11 h0 ht e1 e2 hn hb1 hb2 hz hle
 ·exact stWsT_12 h0 ht e1 e2 hn hb1 hb2 hz hle rfl
 ·exact stWsT_13 h0 ht e1 e2 hn hb1 hb2 hz hle rfl
 ·exact stWsT_14 h0 ht e1 e2 hn hb1 hb2 hz hle
 ·exact stWsT_15 h0 ht e1 e2 hn hb1 hb2 hz hle
 ·exact stWsT_16 h0 ht e1 e2 hn hb1 hb2 hz hle
 ·exact stWsT_17 h0 ht e1 e2 hn hb1 hb2 hz hle
 ·exact stWsT_18 h0 ht e1 e2 hn hb1 hb2 hz hle
 ·exact stWsT_19 h0 ht e1 e2 hn hb1 hb2 hz hle
end
def opsWsC : {o : Array Oper // some o = (Tryz.f18.body.bind (Fre.findR 1))} := ⟨_, rfl⟩
theorem fitWsC : Fre.fit .any opsWsC.1 12 = true := by kernel_rfl
theorem sizeWsC : opsWsC.1.size = 8 := by kernel_rfl
def VWsC (k p1 p7 tg tf tn tc n1 n2 c1 c2 : Nat) (a1 a2 : Option Addr) (l1 l2 : List Nat) (i : Nat) (v : Value) (w : World) : Prop := match i with
 | 0 => v = .slice (some ⟨tg, tf, none⟩) tn tc
 | 1 => v = .int .i64 (k : Int)
 | 2 => v = .pointer (some ⟨tg, tf + k, none⟩)
 | 3 => v = .slice a1 n1 c1
 | 4 => v = .slice a2 n2 c2
 | 5 => v = .bool (decide (l1 = l2))
 | 6 => v = .bool (!decide (l1 = l2))
 | 7 => v = .bool (!decide (l1 = l2))
 | _ => True
section
variable {u3 u4 u5 u6 u7 u8 u9 u10 u11 : Value}
theorem kpWsC (k p1 p7 tg tf tn tc n1 n2 c1 c2 : Nat) (a1 a2 : Option Addr) (l1 l2 : List Nat) : ∀ j v w w', j < opsWsC.1.size -> VWsC k p1 p7 tg tf tn tc n1 n2 c1 c2 a1 a2 l1 l2 j v w -> Fre.Kept w w' -> VWsC k p1 p7 tg tf tn tc n1 n2 c1 c2 a1 a2 l1 l2 j v w' := by
 intro j v w w' hj h hs
 rw [sizeWsC] at hj;rcases cs8 hj with rfl | rfl | rfl | rfl | rfl | rfl | rfl | rfl <;> exact h
variable {k p1 p7 tg tf tn tc n1 n2 c1 c2 : Nat} {a1 a2 : Option Addr} {l1 l2 : List Nat} {a0 : Act} {w0 : World} (h1 : w0.heap[p1]? = some (.cells #[.slice (some ⟨tg, tf, none⟩) tn tc] 23 (0, 0))) (h7 : w0.heap[p7]? = some (.cells #[.slice a2 n2 c2] 22 (0, 0))) (hk : k < tn) (htn : tn <= 1000000) (htg : tg < w0.heap.size) (hcell : w0.cell? ⟨tg, tf + k, none⟩ = some (.slice a1 n1 c1)) (e1 : l1.length = n1) (e2 : l2.length = n2) (hb1 : BytesAt w0 a1 c1 l1) (hb2 : BytesAt w0 a2 c2 l2)
include h1 h7 hk htn htg hcell e1 e2 hb1 hb2
theorem stWsC_0 (g91 : a0.tmps.getD 1 undef = .pointer (some ⟨p1, 0, none⟩)) : Fre.StepB prog opsWsC.1 a0 w0 (VWsC k p1 p7 tg tf tn tc n1 n2 c1 c2 a1 a2 l1 l2) Fre.Kept 0 := by
 rintro E w hc hf hE hV hN hS _ ⟨⟩
 simp only [opsWsC, gA, gS, gZ]
 have b1 : E (.tmp 1) = .pointer (some ⟨p1, 0, none⟩) := (hE 1 (by kernel_rfl)).trans g91
 clear g91;have c0 : w.cell? ⟨p1, 0, none⟩ = some (.slice (some ⟨tg, tf, none⟩) tn tc) := by rw [cells_at ((hS.block p1 (lt_blk h1)).trans h1) 0]; rfl
 refine Fre.dv (v := .slice (some ⟨tg, tf, none⟩) tn tc) ?_
 go_simp
theorem stWsC_1 (g90 : a0.tmps.getD 0 undef = .int .i64 (k : Int)) : Fre.StepB prog opsWsC.1 a0 w0 (VWsC k p1 p7 tg tf tn tc n1 n2 c1 c2 a1 a2 l1 l2) Fre.Kept 1 := by
 rintro E w hc hf hE hV hN hS _ ⟨⟩
 simp only [opsWsC, gA, gS, gZ]
 have b0 : E (.tmp 0) = .int .i64 (k : Int) := (hE 0 (by kernel_rfl)).trans g90
 clear g90;refine Fre.dv (v := .int .i64 (k : Int)) ?_
 go_simp
theorem stWsC_2 : Fre.StepB prog opsWsC.1 a0 w0 (VWsC k p1 p7 tg tf tn tc n1 n2 c1 c2 a1 a2 l1 l2) Fre.Kept 2 := by
 rintro E w hc hf hE hV hN hS _ ⟨⟩
 simp only [opsWsC, gA, gS, gZ]
 have d0 : E (.tmp 5) = .slice (some ⟨tg, tf, none⟩) tn tc := hV 0 5 (by kernel_rfl) (by kernel_rfl)
 have d1 : E (.tmp 6) = .int .i64 (k : Int) := hV 1 6 (by kernel_rfl) (by kernel_rfl)
 have i1 : (k : Int) < (tn : Int) := by omega
 have i2 : ¬ (k : Int) < 0 := by omega
 refine Fre.dv (v := .pointer (some ⟨tg, tf + k, none⟩)) ?_
 go_simp
theorem stWsC_3 : Fre.StepB prog opsWsC.1 a0 w0 (VWsC k p1 p7 tg tf tn tc n1 n2 c1 c2 a1 a2 l1 l2) Fre.Kept 3 := by
 rintro E w hc hf hE hV hN hS _ ⟨⟩
 simp only [opsWsC, gA, gS, gZ]
 have d2 : E (.tmp 7) = .pointer (some ⟨tg, tf + k, none⟩) := hV 2 7 (by kernel_rfl) (by kernel_rfl)
 have c0 : w.cell? ⟨tg, tf + k, none⟩ = some (.slice a1 n1 c1) := (hS.cell (p := ⟨tg, tf + k, none⟩) htg).trans hcell
 refine Fre.dv (v := .slice a1 n1 c1) ?_
 go_simp
theorem stWsC_4 (g92 : a0.tmps.getD 2 undef = .pointer (some ⟨p7, 0, none⟩)) : Fre.StepB prog opsWsC.1 a0 w0 (VWsC k p1 p7 tg tf tn tc n1 n2 c1 c2 a1 a2 l1 l2) Fre.Kept 4 := by
 rintro E w hc hf hE hV hN hS _ ⟨⟩
 simp only [opsWsC, gA, gS, gZ]
 have b2 : E (.tmp 2) = .pointer (some ⟨p7, 0, none⟩) := (hE 2 (by kernel_rfl)).trans g92
 clear g92;have c0 : w.cell? ⟨p7, 0, none⟩ = some (.slice a2 n2 c2) := by rw [cells_at ((hS.block p7 (lt_blk h7)).trans h7) 0]; rfl
 refine Fre.dv (v := .slice a2 n2 c2) ?_
 go_simp
theorem stWsC_5 : Fre.StepB prog opsWsC.1 a0 w0 (VWsC k p1 p7 tg tf tn tc n1 n2 c1 c2 a1 a2 l1 l2) Fre.Kept 5 := by
 rintro E w hc hf hE hV hN hS _ ⟨⟩
 simp only [opsWsC, gA, gS, gZ]
 have d3 : E (.tmp 8) = .slice a1 n1 c1 := hV 3 8 (by kernel_rfl) (by kernel_rfl)
 have d4 : E (.tmp 9) = .slice a2 n2 c2 := hV 4 9 (by kernel_rfl) (by kernel_rfl)
 refine Fre.Does.enter (f := 13) (args := #[.slice a1 n1 c1, .slice a2 n2 c2]) (w' := w) ?_ ((equalB_c a1 a2 c1 c2 n1 n2 l1 l2 e1 e2 w (hb1.up hS (Nat.le_refl _)) (hb2.up hS (Nat.le_refl _))).mono ?_)
 ·go_simp
 ·rintro e w' ⟨rfl, rfl⟩
  exact ⟨_, rfl, rfl, Fre.Kept.refl _⟩
theorem stWsC_6 : Fre.StepB prog opsWsC.1 a0 w0 (VWsC k p1 p7 tg tf tn tc n1 n2 c1 c2 a1 a2 l1 l2) Fre.Kept 6 := by
 rintro E w hc hf hE hV hN hS _ ⟨⟩
 simp only [opsWsC, gA, gS, gZ]
 have d5 : E (.tmp 10) = .bool (decide (l1 = l2)) := hV 5 10 (by kernel_rfl) (by kernel_rfl)
 refine Fre.dv (v := .bool (!decide (l1 = l2))) ?_
 go_simp
theorem stWsC_7 : Fre.StepB prog opsWsC.1 a0 w0 (VWsC k p1 p7 tg tf tn tc n1 n2 c1 c2 a1 a2 l1 l2) Fre.Kept 7 := by
 rintro E w hc hf hE hV hN hS _ ⟨⟩
 simp only [opsWsC, gA, gS, gZ]
 have d6 : E (.tmp 11) = .bool (!decide (l1 = l2)) := hV 6 11 (by kernel_rfl) (by kernel_rfl)
 refine Fre.dv (v := .bool (!decide (l1 = l2))) ?_
 go_simp
variable (k p1 p7 tg tf tn tc n1 n2 c1 c2 a1 a2 l1 l2 w0)
theorem regionWsC {QQ : Exit -> Act -> World -> Prop} (hQ : ∀ (vs : Nat -> Value) w, (∀ j, j < 8 -> VWsC k p1 p7 tg tf tn tc n1 n2 c1 c2 a1 a2 l1 l2 j (vs j) w) -> Fre.Kept w0 w -> QQ .normal ⟨#[.int .i64 (k : Int), .pointer (some ⟨p1, 0, none⟩), .pointer (some ⟨p7, 0, none⟩), u3, vs 7, vs 0, vs 1, vs 2, vs 3, vs 4, vs 5, vs 6], []⟩ w) : (Code.region 1 opsWsC.1 true).wp prog QQ ⟨#[.int .i64 (k : Int), .pointer (some ⟨p1, 0, none⟩), .pointer (some ⟨p7, 0, none⟩), u3, u4, u5, u6, u7, u8, u9, u10, u11], []⟩ w0 := by
 refine Fre.region_kept 12 (by kernel_rfl) fitWsC rfl (VWsC k p1 p7 tg tf tn tc n1 n2 c1 c2 a1 a2 l1 l2) (kpWsC k p1 p7 tg tf tn tc n1 n2 c1 c2 a1 a2 l1 l2) (fun i hi => ?_) (fun vs w h1 h2 => ?_)
 case refine_2 =>
  have h9 := hQ vs w (fun j hj => h1 j (by rw [sizeWsC]; exact hj)) h2
  exact Fre.fe (p := fun t => QQ .normal ⟨t, []⟩ w) h9 (by kernel_rfl)
 rw [sizeWsC] at hi;rcases cs8 hi with rfl | rfl | rfl | rfl | rfl | rfl | rfl | rfl
 ·exact stWsC_0 h1 h7 hk htn htg hcell e1 e2 hb1 hb2 rfl
 ·exact stWsC_1 h1 h7 hk htn htg hcell e1 e2 hb1 hb2 rfl
 ·exact stWsC_2 h1 h7 hk htn htg hcell e1 e2 hb1 hb2
 ·exact stWsC_3 h1 h7 hk htn htg hcell e1 e2 hb1 hb2
 ·exact stWsC_4 h1 h7 hk htn htg hcell e1 e2 hb1 hb2 rfl
 ·exact stWsC_5 h1 h7 hk htn htg hcell e1 e2 hb1 hb2
 ·exact stWsC_6 h1 h7 hk htn htg hcell e1 e2 hb1 hb2
 ·exact stWsC_7 h1 h7 hk htn htg hcell e1 e2 hb1 hb2
end
def showsP (l1 l2 : List Nat) : Bool := !decide (l1 = l2) && decide (sumN l1 = sumN l2)
theorem shows_c (n1 n2 c1 c2 : Nat) (a1 a2 : Option Addr) (l1 l2 : List Nat) (e1 : l1.length = n1) (e2 : l2.length = n2) (hn : n1 <= 1000 /\ n2 <= 1000) (w : World) (hb1 : BytesAt w a1 c1 l1) (hb2 : BytesAt w a2 c2 l2) (hz : (a1 = none -> c1 = 0) /\ (a2 = none -> c2 = 0)) :
  Calls prog 6 #[.agg (pairA a1 a2 n1 n2 c1 c2)] w fun r w' => r = .returned (.bool (showsP l1 l2)) /\ Below w.heap.size w w' := by
 obtain ⟨PA, hPA⟩ : ∃ PA, PA = pairA a1 a2 n1 n2 c1 c2 := ⟨_, rfl⟩
 obtain ⟨w1, hw1⟩ : ∃ w1, w1 = w.alloc (.cells PA 26) := ⟨_, rfl⟩
 have hx := heap_new' w (.cells PA 26)
 have hb := below_box w (.cells PA 26)
 rw [<- hw1] at hx hb;have HX := Lib.hid hx;have HB1 := Lib.hid hb;have HPA := Lib.hid hPA;have HT := Lib.hid (And.intro hb1 (And.intro hb2 hz))
 have HE := Lib.hid (And.intro e1 (And.intro e2 hn))
 have HM := Lib.hid (make_c w1)
 rw [<- hPA];clear hx hb hPA hb1 hb2 hz e1 e2 hn
 go_enter func6, ntmps6
 go_upto_region 1 with fail
 rw [<- hw1];clear hw1;go_wp2_with fail
 refine HM.out.mono ?_
 rintro r w2 ⟨rfl, ht2, hb2⟩
 have HX2 : Hid (w2.heap[w.heap.size]? = some (.cells (pairA a1 a2 n1 n2 c1 c2) 26 (0, 0))) := Lib.hid (by rw [<- HPA.out]; exact (hb2.block _ (lt_blk HX.out)).trans HX.out)
 have HB2 : Hid (Below w.heap.size w w2) := HB1.out.trans (hb2.mono HB1.out.size)
 have HT2 := Lib.hid ht2;clear hb2 ht2 HM HX HB1
 go_upto_region 2 with fail
 cases hle : decide (l1 = l2) with
 | true =>
  refine regionWsF w.heap.size w1.heap.size n1 n2 c1 c2 a1 a2 l1 l2 w2 HX2.out HT2.out HE.out.1 HE.out.2.1 HE.out.2.2 (HT.out.1.up HB2.out (Nat.le_refl _)) (HT.out.2.1.up HB2.out (Nat.le_refl _)) HT.out.2.2 hle ?_
  intro vs w3 hv hk;have e19 : vs 19 = .bool false := hv 19 (by omega)
  generalize vs 19 = x19 at e19
  subst e19;have HB3 : Hid (Below w.heap.size w w3) := HB2.out.trans (hk.mono HB2.out.size)
  have HS : Hid (showsP l1 l2 = false) := Lib.hid (by unfold showsP; rw [hle]; rfl)
  clear hv hk hle;go_wp2
  go_ret
  exact ⟨by rw [HS.out]; rfl, HB3.out⟩
 | false =>
  refine regionWsT w.heap.size w1.heap.size n1 n2 c1 c2 a1 a2 l1 l2 w2 HX2.out HT2.out HE.out.1 HE.out.2.1 HE.out.2.2 (HT.out.1.up HB2.out (Nat.le_refl _)) (HT.out.2.1.up HB2.out (Nat.le_refl _)) HT.out.2.2 hle ?_
  intro vs w3 hv hk;have e19 : vs 19 = .bool (decide (sumN l1 = sumN l2)) := hv 19 (by omega)
  have HS : Hid (showsP l1 l2 = decide (sumN l1 = sumN l2)) := Lib.hid (by unfold showsP; rw [hle]; rfl)
  obtain ⟨sp, hsp⟩ : ∃ sp, sp = decide (sumN l1 = sumN l2) := ⟨_, rfl⟩
  rw [<- hsp] at e19 HS;clear hsp;generalize vs 19 = x19 at e19
  subst e19;have HB3 : Hid (Below w.heap.size w w3) := HB2.out.trans (hk.mono HB2.out.size)
  clear hv hk hle;go_wp2
  go_ret
  exact ⟨by rw [HS.out]; rfl, HB3.out⟩
theorem among1_c (k p1 p7 tg tf tn tc n1 n2 c1 c2 : Nat) (a1 a2 : Option Addr) (l1 l2 : List Nat) (w : World) (h1 : w.heap[p1]? = some (.cells #[.slice (some ⟨tg, tf, none⟩) tn tc] 23 (0, 0))) (h7 : w.heap[p7]? = some (.cells #[.slice a2 n2 c2] 22 (0, 0))) (hk : k < tn) (htn : tn <= 1000000) (htg : tg < w.heap.size) (hcell : w.cell? ⟨tg, tf + k, none⟩ = some (.slice a1 n1 c1)) (e1 : l1.length = n1) (e2 : l2.length = n2) (hb1 : BytesAt w a1 c1 l1) (hb2 : BytesAt w a2 c2 l2) :
  Calls prog 18 #[.int .i64 (k : Int), .pointer (some ⟨p1, 0, none⟩), .pointer (some ⟨p7, 0, none⟩)] w fun r w' => r = .returned (.bool (!decide (l1 = l2))) /\ Below w.heap.size w w' := by
 go_enter func18, ntmps18
 go_upto_region 1 with fail
 refine regionWsC k p1 p7 tg tf tn tc n1 n2 c1 c2 a1 a2 l1 l2 w h1 h7 hk htn htg hcell e1 e2 hb1 hb2 ?_
 intro vs w3 hv hk3;have e7 : vs 7 = .bool (!decide (l1 = l2)) := hv 7 (by omega)
 generalize vs 7 = x7 at e7
 subst e7;have HB := Lib.hid hk3;obtain ⟨bb, hbb⟩ : ∃ bb, bb = !decide (l1 = l2) := ⟨_, rfl⟩
 have HBB := Lib.hid hbb;rw [<- hbb];clear hbb;clear hv hk3 h1 h7 hcell e1 e2 hb1 hb2;go_wp2
 go_ret
 exact ⟨by rw [<- HBB.out]; rfl, HB.out⟩
def intE (x : Nat) : List Value := [.int .i64 (x : Int)]
theorem intRT : RowTy prog (fun x : Nat => .int .i64 (x : Int)) intE 1 8 58 3 :=
 ⟨underlying58, ⟨.int .i64 0, by kernel_rfl, rfl⟩, fun x => rfl, fun x => rfl, fun x v hv => by simp [intE] at hv; subst hv; rfl, by decide⟩
def idxI (r : Option Nat) : Int := match r with | none => -1 | some j => (j : Int)
theorem ixU_c (p1 p7 : Nat) (a : Option Addr) (n cap : Nat) (I : List Nat) (hI : I.length = n) (hn : n <= 100000) (u : Nat -> Bool) (w : World) (hR : RowK intE 1 w a I) (hcall : ∀ w', Below w.heap.size w w' -> ∀ k ∈ I, Calls prog 18 #[.int .i64 (k : Int), .pointer (some ⟨p1, 0, none⟩), .pointer (some ⟨p7, 0, none⟩)] w' fun r w'' => r = .returned (.bool (u k)) /\ Below w'.heap.size w' w'') :
  Calls prog 19 #[.slice a n cap, .func (.func 18) #[] #[.pointer (some ⟨p1, 0, none⟩), .pointer (some ⟨p7, 0, none⟩)]] w fun e w' => e = .returned (.int .i64 (idxI (I.findIdx? u))) /\ Below w.heap.size w w' := by
 have HR := Lib.hid hR;have HN := Lib.hid (And.intro hI hn)
 have HC := Lib.hid hcall;clear hR hI hn hcall
 go_enter func19, ntmps19
 go_wp2
 go_loopw [8] (fun vi wr => ∃ k : Nat, k <= n /\ vi = .int .i64 (k : Int) /\ Hid (∀ j, j < k -> ∀ x, I[j]? = some x -> u x = false) /\ Hid (Below w.heap.size w wr)) (fun vi _ => n - (intOf vi).toNat)
 case atStart => exact ⟨0, by omega, rfl, Lib.hid fun j hj => absurd hj (Nat.not_lt_zero j), Below.refl _ _⟩
 case round =>
  obtain ⟨k, hk, rfl, hall, hbel⟩ := hrel
  by_cases hlt : k < n
  ·have dl : (k : Int) < (n : Int) := by omega
   have d0 : ¬ (k : Int) < 0 := by omega
   have ek : IntKind.i64.wrap ((k : Int) + 1) = (k : Int) + 1 := by have := HN.out; exact IntWalk.i64_in _ (by omega)
   have hkl : k < I.length := by rw [HN.out.1]; exact hlt
   have hget := List.getElem?_eq_getElem hkl
   obtain ⟨x, hx⟩ : ∃ x, x = I[k] := ⟨_, rfl⟩
   rw [<- hx] at hget;obtain ⟨g, o, rfl, hg, hcell⟩ := HR.out k x hget
   have c0 := (hbel.out.cell (p := ⟨g, o + (k * 1 + 0), none⟩) hg).trans (hcell 0 _ rfl)
   rw [Nat.mul_one, Nat.add_zero] at c0
   have hcl := HC.out wr hbel.out x (by rw [hx]; exact List.getElem_mem _)
   have HCL := Lib.hid hcl;have HG := Lib.hid hget;have HK := Lib.hid hlt;have HALL := Lib.hid hall.out;have HBR := Lib.hid hbel.out;clear hget hx hkl hg hcell hcl hk hlt hall hbel;obtain ⟨b, hb⟩ : ∃ b, b = u x := ⟨_, rfl⟩
   rw [<- hb] at HCL;have HU := Lib.hid hb;clear hb
   cases b with
   | false =>
    go_wp2_with fail
    refine HCL.out.mono ?_
    rintro r w2 ⟨rfl, hb2⟩
    have HB2 : Hid (Below w.heap.size w w2) := HBR.out.trans (hb2.mono HBR.out.size)
    have HA2 : Hid (∀ j, j < k + 1 -> ∀ x, I[j]? = some x -> u x = false) := Lib.hid (fun j hj y hy => by
     by_cases e : j < k
     ·exact HALL.out j e y hy
     ·have : j = k := by omega
      subst this;rw [HG.out] at hy
      injection hy with hy
      rw [<- hy]; exact HU.out.symm)
    clear hb2 HCL;go_wp2
    go_roundw
    case rel => exact ⟨k + 1, by have := HK.out; omega, by go_num, HA2, HB2⟩
    case measure => simp [intOf]; have := HK.out; omega
   | true =>
    go_wp2_with fail
    refine HCL.out.mono ?_
    rintro r w2 ⟨rfl, hb2⟩
    have HB2 : Hid (Below w.heap.size w w2) := HBR.out.trans (hb2.mono HBR.out.size)
    have HF : Hid (idxI (I.findIdx? u) = (k : Int)) := Lib.hid (by
     have : I.findIdx? u = some k := by
      rw [List.findIdx?_eq_some_iff_getElem]
      have hkl : k < I.length := by rw [HN.out.1]; exact HK.out
      have hg2 := HG.out
      rw [List.getElem?_eq_getElem hkl] at hg2
      injection hg2 with hg2
      refine ⟨hkl, by rw [hg2]; exact HU.out.symm, fun j hj => ?_⟩
      rw [HALL.out j hj _ (List.getElem?_eq_getElem (by omega))]
      simp
     rw [this]; rfl)
    clear hb2 HCL;go_wp2
    go_ret
    exact ⟨by rw [HF.out]; rfl, HB2.out⟩
  ·have dl : ¬ (k : Int) < (n : Int) := by omega
   have HF : Hid (idxI (I.findIdx? u) = -1) := Lib.hid (by
    have : I.findIdx? u = none := by
     rw [List.findIdx?_eq_none_iff]
     intro y hy;obtain ⟨j, hj, rfl⟩ := List.getElem_of_mem hy
     exact hall.out j (by have := HN.out.1; omega) _ (List.getElem?_eq_getElem hj)
    rw [this]; rfl)
   have HBR := Lib.hid hbel.out;clear hall hbel hlt hk;go_wp2
   go_ret
   exact ⟨by rw [HF.out]; rfl, HBR.out⟩
theorem SlB.mono {w : World} {B C : Nat} {v : Value} {l : List Nat} (h : SlB w B v l) (hBC : B <= C) : SlB w C v l := by
 obtain ⟨a, cap, h1, h2, h3, h4, h5, h6⟩ := h
 exact ⟨a, cap, h1, h2, h3, h4, h5, fun p e => ⟨Nat.lt_of_lt_of_le (h6 p e).1 hBC, (h6 p e).2⟩⟩
theorem SlB.later {w w' : World} {v : Value} {l : List Nat} (h : SlB w w.heap.size v l) (hb : Below w.heap.size w w') : SlB w' w'.heap.size v l := (h.up hb).mono hb.size
theorem dig32 : (prog.info? 38).map (·.size) = some 32 := by kernel_rfl
theorem cloneS_c (v : Value) (l : List Nat) (hn : l.length <= 65536) (w : World) (h : SlAt w v l) :
  Calls prog 20 #[v] w fun e w' => ∃ v', e = .returned v' /\ SlB w' w'.heap.size v' l /\ Below w.heap.size w w' := by
 obtain ⟨a, cap, rfl, hB, hnil, hle, hmax⟩ := h
 obtain ⟨n, hl⟩ : ∃ n, n = l.length := ⟨_, rfl⟩
 cases a with
 | none =>
  have h0 : cap = 0 := hnil rfl
  have hl0 : l = [] := List.eq_nil_of_length_eq_zero (by omega)
  subst h0 hl0
  clear hl;have hnn : ∀ w : World, (binOp .eql 22 (.slice none 0 0) (.slice none 0 0)).run prog w = .ok (.bool true) w := fun w => by first | rfl | kernel_rfl | (simp [binOp, Op.equal]; done)
  go_enter func20, ntmps20
  go_wp2
  go_ret
  exact ⟨_, rfl, ⟨none, 0, rfl, bytes_none _ _ _, fun _ => rfl, Nat.le_refl _, Nat.zero_le _, fun p e => (by cases e)⟩, Below.refl _ _⟩
 | some p =>
  rw [<- hl];obtain ⟨w1, hw1⟩ : ∃ w1, w1 = w.alloc (.cells #[] 5) := ⟨_, rfl⟩
  have hb1 : Below w.heap.size w w1 := by rw [hw1]; exact below_box _ _
  have hown : w1.ownsRow w.heap.size 5 1 (.slice (some ⟨w.heap.size, 0, none⟩) 0 0) 0 [] := by
   rw [hw1];exact ⟨rfl, .inr ⟨w.heap.size, 0, #[], rfl, Nat.le_refl _, heap_new' _ _, Nat.le_refl _, by decide, rfl, rfl⟩⟩
  have hB1 := hB.up hb1 (Nat.le_refl _)
  have HOWN := Lib.hid hown;have HB1 := Lib.hid hb1;have HBY := Lib.hid hB1;have HL := Lib.hid (And.intro hl hn)
  clear hb1 hown hB1 hB hnil hle hmax hn hl;obtain ⟨g, o, z⟩ := p
  have hnn : ∀ w : World, (binOp .eql 22 (.slice (some ⟨g, o, z⟩) n cap) (.slice none 0 0)).run prog w = .ok (.bool false) w := fun w => by first | rfl | kernel_rfl | (simp [binOp, Op.equal]; done)
  go_enter func20, ntmps20
  go_upto_region 3 with fail
  go_wp2_with (first
   | (refine wpList_append_bytes (base := w.heap.size) (n := 0) (m := n) (l := l) rfl (.tmp 5) (.tmp 6) rfl rfl HOWN.out rfl HL.out.1.symm HBY.out (fun e => by cases e) (by have := HL.out; omega) HB1.out.size ?_; intro v6 w6 hown6 hgr6; have HO6 := Lib.hid hown6; have HB6 := Lib.hid (HB1.out.grown hgr6 HB1.out.size (own_base HOWN.out)); clear hown6 hgr6)
   | (show wpList _ _ _ _ _ (w.alloc _); rw [<- hw1]; clear hw1)
   | fail)
  go_ret
  have ho := HO6.out
  rw [Nat.zero_add, List.nil_append, HL.out.1] at ho
  exact ⟨_, rfl, slB_own (B := w6.heap.size) HBY.out.1 ho (Nat.le_refl _), HB6.out⟩
def opsWam : {o : Array Oper // some o = (Tryz.f9.body.bind (Fre.findR 10))} := ⟨_, rfl⟩
theorem fitWam : Fre.fit .any opsWam.1 56 = true := by kernel_rfl
theorem sizeWam : opsWam.1.size = 15 := by kernel_rfl
theorem tailWam : Fre.tailFitT .any opsWam.1 13 = true := by kernel_rfl
def VWam (p1 p7 p8 m tg tf tn tc ig inn ic jj k : Nat) (d : List Nat) (v1 v2 : Value) (l1 l2 : List Nat) (i : Nat) (v : Value) (w : World) : Prop := match i with
 | 0 => v = .slice (some ⟨tg, tf, none⟩) tn tc
 | 1 => v = .map (some m)
 | 2 => v = .agg (bA d)
 | 3 => v = .slice (some ⟨ig, 0, none⟩) inn ic
 | 4 => v = .int .i64 (jj : Int)
 | 5 => v = .pointer (some ⟨ig, jj, none⟩)
 | 6 => v = .int .i64 (k : Int)
 | 7 => v = .pointer (some ⟨tg, tf + k, none⟩)
 | 8 => v = v1
 | 9 => SlB w w.heap.size v l1
 | 10 => v = v2
 | 11 => SlB w w.heap.size v l2
 | 12 => ∃ ya yb, v = .agg #[ya, yb] /\ SlB w w.heap.size ya l1 /\ SlB w w.heap.size yb l2
 | _ => True
section
variable {u0 u2 u3 u4 u6 u9 u11 u12 u13 u14 u15 u16 u17 u18 u19 u20 u21 u22 u23 u24 u25 u26 u27 u28 u29 u30 u31 u32 u33 u34 u35 u36 u37 u38 u39 u40 u41 u42 u43 u44 u45 u46 u47 u48 u49 u50 u51 u52 u53 u54 u55 : Value}
theorem kpWam (p1 p7 p8 m tg tf tn tc ig inn ic jj k : Nat) (d : List Nat) (v1 v2 : Value) (l1 l2 : List Nat) : ∀ j v w w', j < 13 -> VWam p1 p7 p8 m tg tf tn tc ig inn ic jj k d v1 v2 l1 l2 j v w -> Fre.Kept w w' -> VWam p1 p7 p8 m tg tf tn tc ig inn ic jj k d v1 v2 l1 l2 j v w' := by
 intro j v w w' hj h hs
 rcases cs13 hj with rfl | rfl | rfl | rfl | rfl | rfl | rfl | rfl | rfl | rfl | rfl | rfl | rfl
 any_goals exact h
 ·change SlB w w.heap.size v l1 at h
  exact h.later hs
 ·change SlB w w.heap.size v l2 at h
  exact h.later hs
 ·change ∃ ya yb, v = .agg #[ya, yb] /\ SlB w w.heap.size ya l1 /\ SlB w w.heap.size yb l2 at h
  obtain ⟨ya, yb, h1, h2, h3⟩ := h
  exact ⟨ya, yb, h1, h2.later hs, h3.later hs⟩
variable {p1 p7 p8 m tg tf tn tc ig inn ic jj k : Nat} {d : List Nat} {v1 v2 : Value} {l1 l2 : List Nat} {a0 : Act} {w0 : World} (h1 : w0.heap[p1]? = some (.cells #[.slice (some ⟨tg, tf, none⟩) tn tc] 23 (0, 0))) (h7 : w0.heap[p7]? = some (.cells #[v2] 22 (0, 0))) (h8 : w0.heap[p8]? = some (.cells (bA d) 38 (0, 0))) (hd : d.length = 32) (hlook : ∀ w, Fre.Kept w0 w -> (Instr.lookup 55 (.map (some m)) (.agg (bA d)) false).run prog w = .ok (.slice (some ⟨ig, 0, none⟩) inn ic) w) (hj : jj < inn) (hin : inn <= 1000) (hig : ig < w0.heap.size) (hik : w0.cell? ⟨ig, jj, none⟩ = some (.int .i64 (k : Int))) (hk : k < tn) (htn : tn <= 1000) (htg : tg < w0.heap.size) (htk : w0.cell? ⟨tg, tf + k, none⟩ = some v1) (hs1 : SlAt w0 v1 l1) (hs2 : SlAt w0 v2 l2) (hln : l1.length <= 65536) (hln2 : l2.length <= 65536)
include h1 h7 h8 hd hlook hj hin hig hik hk htn htg htk hs1 hs2 hln hln2
theorem stWam_0 (g91 : a0.tmps.getD 1 undef = .pointer (some ⟨p1, 0, none⟩)) : Fre.StepB prog opsWam.1 a0 w0 (VWam p1 p7 p8 m tg tf tn tc ig inn ic jj k d v1 v2 l1 l2) Fre.Kept 0 := by
 rintro E w hc hf hE hV hN hS _ ⟨⟩
 simp only [opsWam, gA, gS, gZ]
 have b1 : E (.tmp 1) = .pointer (some ⟨p1, 0, none⟩) := (hE 1 (by kernel_rfl)).trans g91
 clear g91;have c0 : w.cell? ⟨p1, 0, none⟩ = some (.slice (some ⟨tg, tf, none⟩) tn tc) := by rw [cells_at ((hS.block p1 (lt_blk h1)).trans h1) 0]; rfl
 refine Fre.dv (v := .slice (some ⟨tg, tf, none⟩) tn tc) ?_
 go_simp
theorem stWam_1 (g95 : a0.tmps.getD 5 undef = .map (some m)) : Fre.StepB prog opsWam.1 a0 w0 (VWam p1 p7 p8 m tg tf tn tc ig inn ic jj k d v1 v2 l1 l2) Fre.Kept 1 := by
 rintro E w hc hf hE hV hN hS _ ⟨⟩
 simp only [opsWam, gA, gS, gZ]
 have b5 : E (.tmp 5) = .map (some m) := (hE 5 (by kernel_rfl)).trans g95
 clear g95;refine Fre.dv (v := .map (some m)) ?_
 go_simp
theorem stWam_2 (g98 : a0.tmps.getD 8 undef = .pointer (some ⟨p8, 0, none⟩)) : Fre.StepB prog opsWam.1 a0 w0 (VWam p1 p7 p8 m tg tf tn tc ig inn ic jj k d v1 v2 l1 l2) Fre.Kept 2 := by
 rintro E w hc hf hE hV hN hS _ ⟨⟩
 simp only [opsWam, gA, gS, gZ]
 have b8 : E (.tmp 8) = .pointer (some ⟨p8, 0, none⟩) := (hE 8 (by kernel_rfl)).trans g98
 clear g98;have hrow := run_loadVar_row (P := prog) w p8 38 38 (bA d) (0, 0) _ ((hS.block p8 (lt_blk h8)).trans h8) underlying38 rfl (by rw [bA_size, hd]; exact dig32)
 refine Fre.dv (v := .agg (bA d)) ?_
 unfold execOp;simp only [b8, Instr.loadAt, Instr.sureAddr, Sem.run_bind, Sem.run_pure, Result.andThen_ok, hrow]
theorem stWam_3 : Fre.StepB prog opsWam.1 a0 w0 (VWam p1 p7 p8 m tg tf tn tc ig inn ic jj k d v1 v2 l1 l2) Fre.Kept 3 := by
 rintro E w hc hf hE hV hN hS _ ⟨⟩
 simp only [opsWam, gA, gS, gZ]
 have d1 : E (.tmp 34) = .map (some m) := hV 1 34 (by kernel_rfl) (by kernel_rfl)
 have d2 : E (.tmp 35) = .agg (bA d) := hV 2 35 (by kernel_rfl) (by kernel_rfl)
 have hl9 := hlook w hS
 refine Fre.dv (v := .slice (some ⟨ig, 0, none⟩) inn ic) ?_
 unfold execOp;simp only [d1, d2, Sem.run_bind, hl9, Result.andThen_ok]
 rfl
theorem stWam_4 (g910 : a0.tmps.getD 10 undef = .int .i64 (jj : Int)) : Fre.StepB prog opsWam.1 a0 w0 (VWam p1 p7 p8 m tg tf tn tc ig inn ic jj k d v1 v2 l1 l2) Fre.Kept 4 := by
 rintro E w hc hf hE hV hN hS _ ⟨⟩
 simp only [opsWam, gA, gS, gZ]
 have b10 : E (.tmp 10) = .int .i64 (jj : Int) := (hE 10 (by kernel_rfl)).trans g910
 clear g910;refine Fre.dv (v := .int .i64 (jj : Int)) ?_
 go_simp
theorem stWam_5 : Fre.StepB prog opsWam.1 a0 w0 (VWam p1 p7 p8 m tg tf tn tc ig inn ic jj k d v1 v2 l1 l2) Fre.Kept 5 := by
 rintro E w hc hf hE hV hN hS _ ⟨⟩
 simp only [opsWam, gA, gS, gZ]
 have d3 : E (.tmp 36) = .slice (some ⟨ig, 0, none⟩) inn ic := hV 3 36 (by kernel_rfl) (by kernel_rfl)
 have d4 : E (.tmp 37) = .int .i64 (jj : Int) := hV 4 37 (by kernel_rfl) (by kernel_rfl)
 have i1 : (jj : Int) < (inn : Int) := by omega
 have i2 : ¬ (jj : Int) < 0 := by omega
 refine Fre.dv (v := .pointer (some ⟨ig, jj, none⟩)) ?_
 go_simp
theorem stWam_6 : Fre.StepB prog opsWam.1 a0 w0 (VWam p1 p7 p8 m tg tf tn tc ig inn ic jj k d v1 v2 l1 l2) Fre.Kept 6 := by
 rintro E w hc hf hE hV hN hS _ ⟨⟩
 simp only [opsWam, gA, gS, gZ]
 have d5 : E (.tmp 38) = .pointer (some ⟨ig, jj, none⟩) := hV 5 38 (by kernel_rfl) (by kernel_rfl)
 have c0 : w.cell? ⟨ig, jj, none⟩ = some (.int .i64 (k : Int)) := (hS.cell (p := ⟨ig, jj, none⟩) hig).trans hik
 refine Fre.dv (v := .int .i64 (k : Int)) ?_
 go_simp
theorem stWam_7 : Fre.StepB prog opsWam.1 a0 w0 (VWam p1 p7 p8 m tg tf tn tc ig inn ic jj k d v1 v2 l1 l2) Fre.Kept 7 := by
 rintro E w hc hf hE hV hN hS _ ⟨⟩
 simp only [opsWam, gA, gS, gZ]
 have d0 : E (.tmp 33) = .slice (some ⟨tg, tf, none⟩) tn tc := hV 0 33 (by kernel_rfl) (by kernel_rfl)
 have d6 : E (.tmp 39) = .int .i64 (k : Int) := hV 6 39 (by kernel_rfl) (by kernel_rfl)
 have i1 : (k : Int) < (tn : Int) := by omega
 have i2 : ¬ (k : Int) < 0 := by omega
 refine Fre.dv (v := .pointer (some ⟨tg, tf + k, none⟩)) ?_
 go_simp
theorem stWam_8 : Fre.StepB prog opsWam.1 a0 w0 (VWam p1 p7 p8 m tg tf tn tc ig inn ic jj k d v1 v2 l1 l2) Fre.Kept 8 := by
 rintro E w hc hf hE hV hN hS _ ⟨⟩
 simp only [opsWam, gA, gS, gZ]
 have d7 : E (.tmp 40) = .pointer (some ⟨tg, tf + k, none⟩) := hV 7 40 (by kernel_rfl) (by kernel_rfl)
 have c0 : w.cell? ⟨tg, tf + k, none⟩ = some v1 := (hS.cell (p := ⟨tg, tf + k, none⟩) htg).trans htk
 refine Fre.dv (v := v1) ?_
 obtain ⟨a1, c1, rfl, _⟩ := hs1
 go_simp
theorem stWam_9 : Fre.StepB prog opsWam.1 a0 w0 (VWam p1 p7 p8 m tg tf tn tc ig inn ic jj k d v1 v2 l1 l2) Fre.Kept 9 := by
 rintro E w hc hf hE hV hN hS _ ⟨⟩
 simp only [opsWam, gA, gS, gZ]
 have d8 : E (.tmp 41) = v1 := hV 8 41 (by kernel_rfl) (by kernel_rfl)
 refine Fre.Does.enter (f := 20) (args := #[v1]) (w' := w) ?_ ((cloneS_c (v1) l1 hln w (hs1.up hS (Nat.le_refl _))).mono ?_)
 ·go_simp
 ·rintro e w' ⟨v', rfl, h9, hk'⟩
  exact ⟨_, rfl, h9, hk'⟩
theorem stWam_10 (g97 : a0.tmps.getD 7 undef = .pointer (some ⟨p7, 0, none⟩)) : Fre.StepB prog opsWam.1 a0 w0 (VWam p1 p7 p8 m tg tf tn tc ig inn ic jj k d v1 v2 l1 l2) Fre.Kept 10 := by
 rintro E w hc hf hE hV hN hS _ ⟨⟩
 simp only [opsWam, gA, gS, gZ]
 have b7 : E (.tmp 7) = .pointer (some ⟨p7, 0, none⟩) := (hE 7 (by kernel_rfl)).trans g97
 clear g97;have c0 : w.cell? ⟨p7, 0, none⟩ = some (v2) := by rw [cells_at ((hS.block p7 (lt_blk h7)).trans h7) 0]; rfl
 refine Fre.dv (v := v2) ?_
 obtain ⟨a2, c2, rfl, _⟩ := hs2
 go_simp
theorem stWam_11 : Fre.StepB prog opsWam.1 a0 w0 (VWam p1 p7 p8 m tg tf tn tc ig inn ic jj k d v1 v2 l1 l2) Fre.Kept 11 := by
 rintro E w hc hf hE hV hN hS _ ⟨⟩
 simp only [opsWam, gA, gS, gZ]
 have d10 : E (.tmp 43) = v2 := hV 10 43 (by kernel_rfl) (by kernel_rfl)
 refine Fre.Does.enter (f := 20) (args := #[v2]) (w' := w) ?_ ((cloneS_c (v2) l2 hln2 w (hs2.up hS (Nat.le_refl _))).mono ?_)
 ·go_simp
 ·rintro e w' ⟨v', rfl, h9, hk'⟩
  exact ⟨_, rfl, h9, hk'⟩
theorem stWam_12 : Fre.StepB prog opsWam.1 a0 w0 (VWam p1 p7 p8 m tg tf tn tc ig inn ic jj k d v1 v2 l1 l2) Fre.Kept 12 := by
 rintro E w hc hf hE hV hN hS _ ⟨⟩
 simp only [opsWam, gA, gS, gZ]
 have d9 := hV 9 42 (by kernel_rfl) (by kernel_rfl)
 replace d9 : (fun v : Value => SlB w w.heap.size v l1) (E (.tmp 42)) := d9
 simp only at d9
 have d11 := hV 11 44 (by kernel_rfl) (by kernel_rfl)
 replace d11 : (fun v : Value => SlB w w.heap.size v l2) (E (.tmp 44)) := d11
 simp only at d11
 obtain ⟨ya, hu1⟩ : ∃ ya, ya = E (.tmp 42) := ⟨_, rfl⟩
 obtain ⟨yb, hu2⟩ : ∃ yb, yb = E (.tmp 44) := ⟨_, rfl⟩
 rw [<- hu1] at d9;rw [<- hu2] at d11;obtain ⟨x1, y1, q1, r1⟩ := d9
 obtain ⟨x2, y2, q2, r2⟩ := d11
 rw [q1] at hu1;rw [q2] at hu2
 replace hu1 := hu1.symm
 replace hu2 := hu2.symm
 clear q1 q2;refine Fre.Does.value (v := .agg #[.slice x1 l1.length y1, .slice x2 l2.length y2]) (w' := w) ?_ ⟨⟨_, _, rfl, ⟨x1, y1, rfl, r1⟩, ⟨x2, y2, rfl, r2⟩⟩, Fre.Kept.refl _⟩
 go_simp
variable (p1 p7 p8 m tg tf tn tc ig inn ic jj k d v1 v2 l1 l2 w0)
theorem regionWam {QQ : Exit -> Act -> World -> Prop} (hQ : ∀ (vs : Nat -> Value) w, (∀ j, j < 13 -> VWam p1 p7 p8 m tg tf tn tc ig inn ic jj k d v1 v2 l1 l2 j (vs j) w) -> Fre.Kept w0 w -> wpList prog opsWam.1 QQ (opsWam.1.toList.drop 13) ⟨#[u0, .pointer (some ⟨p1, 0, none⟩), u2, u3, u4, .map (some m), u6, .pointer (some ⟨p7, 0, none⟩), .pointer (some ⟨p8, 0, none⟩), u9, .int .i64 (jj : Int), u11, u12, u13, u14, u15, u16, u17, u18, u19, u20, u21, u22, u23, u24, u25, u26, u27, u28, u29, u30, u31, u32, vs 0, vs 1, vs 2, vs 3, vs 4, vs 5, vs 6, vs 7, vs 8, vs 9, vs 10, vs 11, vs 12, u46, u47, u48, u49, u50, u51, u52, u53, u54, u55], []⟩ w) : (Code.region 10 opsWam.1 true).wp prog QQ ⟨#[u0, .pointer (some ⟨p1, 0, none⟩), u2, u3, u4, .map (some m), u6, .pointer (some ⟨p7, 0, none⟩), .pointer (some ⟨p8, 0, none⟩), u9, .int .i64 (jj : Int), u11, u12, u13, u14, u15, u16, u17, u18, u19, u20, u21, u22, u23, u24, u25, u26, u27, u28, u29, u30, u31, u32, u33, u34, u35, u36, u37, u38, u39, u40, u41, u42, u43, u44, u45, u46, u47, u48, u49, u50, u51, u52, u53, u54, u55], []⟩ w0 := by
 refine Fre.region_tailT 56 13 (by kernel_rfl) fitWam rfl tailWam (by rw [sizeWam]; omega) (VWam p1 p7 p8 m tg tf tn tc ig inn ic jj k d v1 v2 l1 l2) (kpWam p1 p7 p8 m tg tf tn tc ig inn ic jj k d v1 v2 l1 l2) (fun i hi => ?_) (fun vs w h1 h2 => ?_)
 case refine_2 =>
  have h9 := hQ vs w h1 h2
  exact Fre.fe (p := fun t => wpList prog opsWam.1 QQ (opsWam.1.toList.drop 13) ⟨t, []⟩ w) h9 (by kernel_rfl)
 rcases cs13 hi with rfl | rfl | rfl | rfl | rfl | rfl | rfl | rfl | rfl | rfl | rfl | rfl | rfl
 ·exact stWam_0 h1 h7 h8 hd hlook hj hin hig hik hk htn htg htk hs1 hs2 hln hln2 rfl
 ·exact stWam_1 h1 h7 h8 hd hlook hj hin hig hik hk htn htg htk hs1 hs2 hln hln2 rfl
 ·exact stWam_2 h1 h7 h8 hd hlook hj hin hig hik hk htn htg htk hs1 hs2 hln hln2 rfl
 ·exact stWam_3 h1 h7 h8 hd hlook hj hin hig hik hk htn htg htk hs1 hs2 hln hln2
 ·exact stWam_4 h1 h7 h8 hd hlook hj hin hig hik hk htn htg htk hs1 hs2 hln hln2 rfl
 ·exact stWam_5 h1 h7 h8 hd hlook hj hin hig hik hk htn htg htk hs1 hs2 hln hln2
 ·exact stWam_6 h1 h7 h8 hd hlook hj hin hig hik hk htn htg htk hs1 hs2 hln hln2
 ·exact stWam_7 h1 h7 h8 hd hlook hj hin hig hik hk htn htg htk hs1 hs2 hln hln2
 ·exact stWam_8 h1 h7 h8 hd hlook hj hin hig hik hk htn htg htk hs1 hs2 hln hln2
 ·exact stWam_9 h1 h7 h8 hd hlook hj hin hig hik hk htn htg htk hs1 hs2 hln hln2
 ·exact stWam_10 h1 h7 h8 hd hlook hj hin hig hik hk htn htg htk hs1 hs2 hln hln2 rfl
 ·exact stWam_11 h1 h7 h8 hd hlook hj hin hig hik hk htn htg htk hs1 hs2 hln hln2
 ·exact stWam_12 h1 h7 h8 hd hlook hj hin hig hik hk htn htg htk hs1 hs2 hln hln2
end
def hitN (L : List (List Nat)) (j : Nat) : Option Nat := (List.range j).find? fun i => showsP (L.getD i []) (L.getD j [])
def amongG (L : List (List Nat)) : Nat -> Option (Nat × Nat)
 | 0 => none
 | j + 1 => match amongG L j with
  | some p => some p
  | none => (hitN L j).map fun i => (i, j)
def sumAt (L : List (List Nat)) (t : Nat) : List Nat := sumN (L.getD t [])
def idxL (L : List (List Nat)) (d : List Nat) (i : Nat) : List Nat := (List.range i).filter fun t => decide (sumAt L t = d)
theorem idxL_le (L : List (List Nat)) (d : List Nat) (i : Nat) : (idxL L d i).length <= i := by
 have := List.length_filter_le (fun t => decide (sumAt L t = d)) (List.range i)
 unfold idxL;rw [List.length_range] at this; exact this
theorem idxL_lt {L : List (List Nat)} {d : List Nat} {i k : Nat} (h : k ∈ idxL L d i) : k < i := by
 unfold idxL at h
 exact List.mem_range.1 (List.mem_filter.1 h).1
theorem idxL_same (L : List (List Nat)) (d : List Nat) (i : Nat) (h : sumAt L i = d) : idxL L d (i + 1) = idxL L d i ++ [i] := by
 unfold idxL;rw [List.range_succ, List.filter_append]
 simp [h]
theorem idxL_other (L : List (List Nat)) (d : List Nat) (i : Nat) (h : sumAt L i ≠ d) : idxL L d (i + 1) = idxL L d i := by
 unfold idxL;rw [List.range_succ, List.filter_append]
 simp [h]
theorem hit_find (L : List (List Nat)) (i : Nat) : (idxL L (sumAt L i) i).find? (fun k => !decide (L.getD k [] = L.getD i [])) = hitN L i := by
 unfold idxL hitN
 rw [List.find?_filter]
 congr 1
 funext t
 unfold showsP sumAt
 cases h1 : decide (L.getD t [] = L.getD i []) <;> cases h2 : decide (sumN (L.getD t []) = sumN (L.getD i [])) <;> simp_all
theorem find_idx {I : List Nat} {u : Nat -> Bool} {j : Nat} (h : I.findIdx? u = some j) : ∃ k, I[j]? = some k /\ I.find? u = some k := by
 rw [List.findIdx?_eq_some_iff_getElem] at h
 obtain ⟨h1, h2, h3⟩ := h
 refine ⟨I[j], List.getElem?_eq_getElem h1, ?_⟩
 rw [List.find?_eq_some_iff_getElem]
 exact ⟨h2, j, h1, rfl, fun k hk => by simpa using h3 k hk⟩
theorem find_none {I : List Nat} {u : Nat -> Bool} (h : I.findIdx? u = none) : I.find? u = none := by
 rw [List.findIdx?_eq_none_iff] at h
 rw [List.find?_eq_none]
 intro x hx;simp [h x hx]
theorem digIT : KeyTy prog 38 58 55 dV goodD :=
 ⟨underlying55, dig_keyed, dig_key, dV_inj, fun w => by first | rfl | go_simp⟩
abbrev AEnt := List Nat × Value × List Nat
structure AmP (B : Nat) (w : World) (L : List (List Nat)) (m i : Nat) (M : List AEnt) : Prop where
 map : MapV dV goodD w m (M.map fun x => (x.1, x.2.1))
 rows : ∀ x ∈ M, w.ownsRow B 3 1 x.2.1 x.2.2.length (cellsK intE x.2.2)
 idx : ∀ x ∈ M, x.2.2 = idxL L x.1 i
 dist : ∀ (a b : Nat) (x y : AEnt), a ≠ b -> M[a]? = some x -> M[b]? = some y -> x.2.1.ownBlock ≠ y.2.1.ownBlock
 all : ∀ t, t < i -> ∃ x ∈ M, x.1 = sumAt L t
structure AmAt (B : Nat) (w : World) (L : List (List Nat)) (m i : Nat) (M : List AEnt) : Prop where
 p : AmP B w L m i M
 pos : ∀ x ∈ M, 0 < x.2.2.length
def amS (m : Nat) (M : List AEnt) : BSet := fun k => k = m \/ ∃ x ∈ M, x.2.1.ownBlock = some k
theorem AmP.on {B : Nat} {w : World} {L : List (List Nat)} {m i : Nat} {M : List AEnt} (h : AmP B w L m i M) : On (amS m M) (fun w => AmP B w L m i M) w := by
 refine ⟨h, ?_, fun w' he => ⟨h.map.on.keep w' fun k hk => he k (.inl hk), fun x hx => (On.own (h.rows x hx)).keep w' fun k hk => he k (.inr ⟨x, hx, hk⟩), h.idx, h.dist, h.all⟩⟩
 rintro k (rfl | ⟨x, hx, hk⟩)
 ·exact h.map.on.lt _ rfl
 ·exact (On.own (h.rows x hx)).lt k hk
theorem AmAt.on {B : Nat} {w : World} {L : List (List Nat)} {m i : Nat} {M : List AEnt} (h : AmAt B w L m i M) : On (amS m M) (fun w => AmAt B w L m i M) w :=
 ⟨h, h.p.on.lt, fun w' he => ⟨h.p.on.keep w' he, h.pos⟩⟩
theorem AmAt.nil (B : Nat) (w : World) (L : List (List Nat)) : AmAt B (w.alloc (.map #[] 0)) L w.heap.size 0 [] :=
 ⟨⟨MapV.made w, fun x hx => (by cases hx), fun x hx => (by cases hx), fun a b x y _ h => by simp at h, fun t ht => absurd ht (Nat.not_lt_zero t)⟩, fun x hx => (by cases hx)⟩
theorem own_ne_map {w : World} {base : Nat} {T : TypeId} {k n m : Nat} {v : Value} {xs : List Value} {es : Array MapEntry} {c : Nat} (h : w.ownsRow base T k v n xs) (hm : w.heap[m]? = some (.map es c)) : v.ownBlock ≠ some m := by
 intro e;rcases h.2 with ⟨h1, _⟩ | ⟨g, cap, cur, h1, _, h3, _⟩
 ·rw [h1] at e; cases e
 ·rw [h1] at e
  have := Option.some.inj e
  simp only at this
  subst this;rw [h3] at hm
  injection hm with hm
  cases hm
theorem AmP.mapne {B : Nat} {w : World} {L : List (List Nat)} {m i : Nat} {M : List AEnt} (h : AmP B w L m i M) : ∀ x ∈ M, x.2.1.ownBlock ≠ some m := fun x hx => by
 obtain ⟨es, c, h1, _⟩ := h.map.ex
 exact own_ne_map (h.rows x hx) h1
theorem pair_ne {α β : Type} {M : List (α × β)} (h : M.Pairwise fun x y => x.1 ≠ y.1) {a b : Nat} {x y : α × β} (hab : a ≠ b) (hx : M[a]? = some x) (hy : M[b]? = some y) : x.1 ≠ y.1 := by
 obtain ⟨ha, rfl⟩ := List.getElem?_eq_some_iff.1 hx
 obtain ⟨hb, rfl⟩ := List.getElem?_eq_some_iff.1 hy
 rw [List.pairwise_iff_getElem] at h;rcases Nat.lt_or_gt_of_ne hab with h1 | h1
 ·exact h a b ha hb h1
 ·exact (h b a hb ha h1).symm
theorem AmAt.entry {B : Nat} {w : World} {L : List (List Nat)} {m i : Nat} {M : List AEnt} (h : AmAt B w L m i M) :
  ∃ j v w1 M1, (Instr.mapEntry 55 (.map (some m)) (.agg (bA (sumAt L i)))).run prog w = .ok (.tuple #[v, .int .i64 ((j : Nat) : Int)]) w1 /\ M1[j]? = some (sumAt L i, v, idxL L (sumAt L i) i) /\ AmP B w1 L m i M1 /\ (∀ a x, a ≠ j -> M1[a]? = some x -> 0 < x.2.2.length) /\ Chg (· = m) w w1 /\ w1.heap.size = w.heap.size := by
 obtain ⟨j, v, w1, M0, h1, h2, h3, h4, h5, h6⟩ := h.p.map.entry digIT (sumAt L i) (sumN_good _)
 have hrow : ∀ x ∈ M, w1.ownsRow B 3 1 x.2.1 x.2.2.length (cellsK intE x.2.2) := fun x hx => ((On.own (h.p.rows x hx)).chg h4 fun k hk e => h.p.mapne x hx (by rw [hk, e])).holds
 rcases h6 with rfl | ⟨rfl, rfl, rfl, h7⟩
 ·rw [List.getElem?_map] at h2
  obtain ⟨x, hx, hxe⟩ := Option.map_eq_some_iff.1 h2
  have hm := List.mem_of_getElem? hx
  have e1 : x.1 = sumAt L i := congrArg Prod.fst hxe
  have e2 : x.2.1 = v := congrArg Prod.snd hxe
  have e3 := h.p.idx x hm
  refine ⟨j, v, w1, M, h1, ?_, ⟨h3, hrow, h.p.idx, h.p.dist, h.p.all⟩, fun a y _ hy => h.pos y (List.mem_of_getElem? hy), h4, h5⟩
  rw [hx, <- e1, <- e2, <- e3]
 ·have hno : idxL L (sumAt L i) i = [] := by
   rw [List.eq_nil_iff_forall_not_mem];intro t ht;unfold idxL at ht
   obtain ⟨h8, h9⟩ := List.mem_filter.1 ht
   obtain ⟨x, hx, hxe⟩ := h.p.all t (List.mem_range.1 h8)
   exact h7 _ (List.mem_map_of_mem (f := fun x : AEnt => (x.1, x.2.1)) hx) (by rw [hxe]; simpa using h9)
  rw [hno];rw [List.length_map] at h1;refine ⟨M.length, .slice none 0 0, w1, M ++ [(sumAt L i, .slice none 0 0, [])], h1, by simp, ⟨by rw [List.map_append]; exact h3, fun x hx => ?_, fun x hx => ?_, fun a b x y hab hx hy => ?_, fun t ht => ?_⟩, fun a x ha hx => ?_, h4, h5⟩
  ·rcases List.mem_append.1 hx with hx | hx
   ·exact hrow x hx
   ·rw [List.mem_singleton.1 hx]; exact ⟨rfl, .inl ⟨rfl, rfl⟩⟩
  ·rcases List.mem_append.1 hx with hx | hx
   ·exact h.p.idx x hx
   ·rw [List.mem_singleton.1 hx]; exact hno.symm
  ·have hsome : ∀ z ∈ M, z.2.1.ownBlock ≠ none := fun z hz e => by
    obtain ⟨q, c, h8, _⟩ := own_pos (h.p.rows z hz) (h.pos z hz)
    rw [h8] at e; cases e
   rw [List.getElem?_append] at hx hy
   by_cases ha : a < M.length
   ·rw [if_pos ha] at hx
    by_cases hb : b < M.length
    ·rw [if_pos hb] at hy
     exact h.p.dist a b x y hab hx hy
    ·rw [if_neg hb] at hy
     have hy2 := List.mem_singleton.1 (List.mem_of_getElem? hy)
     rw [hy2];exact hsome x (List.mem_of_getElem? hx)
   ·rw [if_neg ha] at hx
    have hx2 := List.mem_singleton.1 (List.mem_of_getElem? hx)
    by_cases hb : b < M.length
    ·rw [if_pos hb] at hy
     rw [hx2];exact fun e => hsome y (List.mem_of_getElem? hy) e.symm
    ·rw [if_neg hb] at hy
     have h8 := (List.getElem?_eq_some_iff.1 hx).1
     have h9 := (List.getElem?_eq_some_iff.1 hy).1
     simp at h8 h9; omega
  ·obtain ⟨x, hx, hxe⟩ := h.p.all t ht
   exact ⟨x, List.mem_append_left _ hx, hxe⟩
  ·rw [List.getElem?_append] at hx
   by_cases hal : a < M.length
   ·rw [if_pos hal] at hx
    exact h.pos x (List.mem_of_getElem? hx)
   ·rw [if_neg hal] at hx
    have h8 := (List.getElem?_eq_some_iff.1 hx).1
    simp at h8; omega
theorem AmP.store {B : Nat} {w w2 : World} {L : List (List Nat)} {m i j : Nat} {M : List AEnt} {v v' : Value} (h : AmP B w L m i M) (hj : M[j]? = some (sumAt L i, v, idxL L (sumAt L i) i)) (hp : ∀ a x, a ≠ j -> M[a]? = some x -> 0 < x.2.2.length)
  (hO : w2.ownsRow B 3 1 v' ((idxL L (sumAt L i) i).length + 1) (cellsK intE (idxL L (sumAt L i) i ++ [i]))) (hg : w.grownBy w2 v.ownBlock) (hat : v'.ownBlock = v.ownBlock \/ v'.ownBlock = some w.heap.size) :
  ∃ w3, (Instr.entryStore 55 (.map (some m)) (.int .i64 (j : Int)) v').run prog w2 = .ok () w3 /\ Chg (· = m) w2 w3 /\ w3.heap.size = w2.heap.size /\ AmAt B w3 L m (i + 1) (M.set j (sumAt L i, v', idxL L (sumAt L i) i ++ [i])) := by
 have hjl : j < M.length := (List.getElem?_eq_some_iff.1 hj).1
 have hvm : v.ownBlock ≠ some m := h.mapne _ (List.mem_of_getElem? hj)
 have hc : Chg (fun k => v.ownBlock = some k) w w2 := Chg.grown hg fun k hk _ => hk
 have hmap2 : MapV dV goodD w2 m (M.map fun x => (x.1, x.2.1)) := (h.map.on.chg hc fun k hk e => hvm (by rw [e, hk])).holds
 have hlt : m < w.heap.size := h.map.on.lt m rfl
 obtain ⟨w3, h1, h2, h3, h4⟩ := hmap2.store (P := prog) (mt := 55) (j := j) (k := sumAt L i) (v0 := v) (by rw [List.getElem?_map, hj]; rfl) v'
 have hv'm : v'.ownBlock ≠ some m := by
  rcases hat with e | e
  ·rw [e]; exact hvm
  ·rw [e]; intro e2; have := Option.some.inj e2; omega
 have hkey : ∀ a x, a ≠ j -> M[a]? = some x -> x.1 ≠ sumAt L i := fun a x ha hx => by
  have := pair_ne (x := (x.1, x.2.1)) (y := (sumAt L i, v)) h.map.dist ha (by rw [List.getElem?_map, hx]; rfl) (by rw [List.getElem?_map, hj]; rfl)
  exact this
 have hget : ∀ a x, (M.set j (sumAt L i, v', idxL L (sumAt L i) i ++ [i]))[a]? = some x -> (a = j /\ x = (sumAt L i, v', idxL L (sumAt L i) i ++ [i])) \/ (a ≠ j /\ M[a]? = some x) := fun a x hx => by
  by_cases e : j = a
  ·subst e
   rw [List.getElem?_set_self hjl] at hx
   exact .inl ⟨rfl, (Option.some.inj hx).symm⟩
  ·rw [List.getElem?_set_ne e] at hx
   exact .inr ⟨fun e2 => e e2.symm, hx⟩
 have hmem : ∀ x ∈ M.set j (sumAt L i, v', idxL L (sumAt L i) i ++ [i]), ∃ a, (a = j /\ x = (sumAt L i, v', idxL L (sumAt L i) i ++ [i])) \/ (a ≠ j /\ M[a]? = some x) := fun x hx => by
  obtain ⟨a, ha⟩ := List.mem_iff_getElem?.1 hx
  exact ⟨a, hget a x ha⟩
 refine ⟨w3, h1, h3, h4, ⟨⟨by rw [List.map_set]; exact h2, fun x hx => ?_, fun x hx => ?_, fun a b x y hab hx hy => ?_, fun t ht => ?_⟩, fun x hx => ?_⟩⟩
 ·obtain ⟨a, ⟨_, rfl⟩ | ⟨ha, hx⟩⟩ := hmem x hx
  ·have h9 := ((On.own hO).chg h3 fun k hk e => hv'm (by rw [hk, e])).holds
   show w3.ownsRow B _ 1 v' (idxL L (sumAt L i) i ++ [i]).length _
   rw [List.length_append]; exact h9
  ·have hxm := List.mem_of_getElem? hx
   have hxv : x.2.1.ownBlock ≠ v.ownBlock := h.dist a j x _ ha hx hj
   have h8 := (On.own (h.rows x hxm)).chg hc fun k hk e => hxv (by rw [hk, e])
   exact (h8.chg h3 fun k hk e => h.mapne x hxm (by rw [hk, e])).holds
 ·obtain ⟨a, ⟨_, rfl⟩ | ⟨ha, hx⟩⟩ := hmem x hx
  ·exact (idxL_same L _ i rfl).symm
  ·rw [idxL_other L x.1 i (fun e => hkey a x ha hx e.symm)]
   exact h.idx x (List.mem_of_getElem? hx)
 ·have hnew : ∀ c z, c ≠ j -> M[c]? = some z -> z.2.1.ownBlock ≠ v'.ownBlock := fun c z hcj hz => by
   rcases hat with e | e
   ·rw [e]; exact h.dist c j z _ hcj hz hj
   ·rw [e]
    intro e2;have := (On.own (h.rows z (List.mem_of_getElem? hz))).lt _ e2
    omega
  rcases hget a x hx with ⟨rfl, rfl⟩ | ⟨ha, hx1⟩
  ·rcases hget b y hy with ⟨rfl, _⟩ | ⟨hb, hy1⟩
   ·exact absurd rfl hab
   ·exact fun e => hnew b y hb hy1 e.symm
  ·rcases hget b y hy with ⟨rfl, rfl⟩ | ⟨hb, hy1⟩
   ·exact hnew a x ha hx1
   ·exact h.dist a b x y hab hx1 hy1
 ·by_cases e : t = i
  ·subst e
   exact ⟨_, List.mem_set hjl _, rfl⟩
  ·obtain ⟨x, hx, hxe⟩ := h.all t (by omega)
   obtain ⟨a, ha⟩ := List.mem_iff_getElem?.1 hx
   by_cases ea : a = j
   ·subst ea
    rw [hj] at ha;have := Option.some.inj ha
    subst this;exact ⟨_, List.mem_set hjl _, hxe⟩
   ·exact ⟨x, List.mem_iff_getElem?.2 ⟨a, by rw [List.getElem?_set_ne (fun e => ea e.symm)]; exact ha⟩, hxe⟩
 ·obtain ⟨a, ⟨_, rfl⟩ | ⟨ha, hx⟩⟩ := hmem x hx
  ·simp
  ·exact hp a x ha hx
theorem wpList_look0 {P : Program} {ops : Array Oper} {rest : List Oper} {o : Oper} {A : Act} {w : World} {Q : Exit -> Act -> World -> Prop} (hgd : o.guard = none) (mt : TypeId) (x y : Operand) (ho : o.op = .lookup mt x y false) {vx vy v : Value} (hx : A.eval x = vx) (hy : A.eval y = vy) (hr : (Instr.lookup mt vx vy false).run P w = .ok v w) (hK : wpList P ops Q rest (A.put o.dst v) w) : wpList P ops Q (o :: rest) A w :=
 wpList_plain hgd fun _ hk => by
  unfold Oper.wp execOp
  simp only [ho, hx, hy, Sem.run_bind, hr, Result.andThen_ok]; exact hk _ _ hK
theorem wpList_mentry {P : Program} {ops : Array Oper} {rest : List Oper} {o : Oper} {A : Act} {w w1 : World} {Q : Exit -> Act -> World -> Prop} (hgd : o.guard = none) (mt : TypeId) (x y : Operand) (ho : o.op = .mapEntry mt x y) {vx vy v : Value} (hx : A.eval x = vx) (hy : A.eval y = vy) (hr : (Instr.mapEntry mt vx vy).run P w = .ok v w1) (hK : wpList P ops Q rest (A.put o.dst v) w1) : wpList P ops Q (o :: rest) A w :=
 wpList_plain hgd fun _ hk => by
  unfold Oper.wp execOp
  simp only [ho, hx, hy, Sem.run_bind, hr, Result.andThen_ok]; exact hk _ _ hK
theorem wpList_mstore {P : Program} {ops : Array Oper} {rest : List Oper} {o : Oper} {A : Act} {w w1 : World} {Q : Exit -> Act -> World -> Prop} (hgd : o.guard = none) (mt : TypeId) (x y z : Operand) (ho : o.op = .entryStore mt x y z) {vx vy vz : Value} (hx : A.eval x = vx) (hy : A.eval y = vy) (hz : A.eval z = vz) (hr : (Instr.entryStore mt vx vy vz).run P w = .ok () w1) (hK : wpList P ops Q rest (A.put o.dst undef) w1) : wpList P ops Q (o :: rest) A w :=
 wpList_plain hgd fun _ hk => by
  unfold Oper.wp execOp
  simp only [ho, hx, hy, hz, Sem.run_bind, hr, Result.andThen_ok]; exact hk _ _ hK
theorem own_ne_cells {w : World} {base : Nat} {T t : TypeId} {k n m : Nat} {v : Value} {xs : List Value} {A : Array Value} {z : Nat × Nat} (h : w.ownsRow base T k v n xs) (hm : w.heap[m]? = some (.cells A t z)) (ht : t ≠ T) : v.ownBlock ≠ some m := by
 intro e;rcases h.2 with ⟨h1, _⟩ | ⟨g, cap, cur, h1, _, h3, _⟩
 ·rw [h1] at e; cases e
 ·rw [h1] at e
  have := Option.some.inj e
  simp only at this
  subst this;rw [h3] at hm
  injection hm with hm
  injection hm with _ h5 _
  exact ht h5.symm
theorem AmP.apart {B : Nat} {w : World} {L : List (List Nat)} {m i k : Nat} {M : List AEnt} {A : Array Value} {t : TypeId} {z : Nat × Nat} (h : AmP B w L m i M) (hk : w.heap[k]? = some (.cells A t z)) (ht : t ≠ 3) : ¬ amS m M k := by
 rintro (e | ⟨x, hx, e⟩)
 ·subst e
  obtain ⟨es, c, h1, _⟩ := h.map.ex
  rw [hk] at h1; cases h1
 ·exact own_ne_cells (h.rows x hx) hk ht e
theorem AmAt.look {B : Nat} {w : World} {L : List (List Nat)} {m i : Nat} {M : List AEnt} (h : AmAt B w L m i M) :
  ∃ ia nn ic, nn = (idxL L (sumAt L i) i).length /\ RowK intE 1 w ia (idxL L (sumAt L i) i) /\ (nn = 0 \/ ∃ ig, ia = some ⟨ig, 0, none⟩ /\ ig < w.heap.size) /\ ∀ w', Below w.heap.size w w' -> (Instr.lookup 55 (.map (some m)) (.agg (bA (sumAt L i))) false).run prog w' = .ok (.slice ia nn ic) w' := by
 have hm : ∀ w', Below w.heap.size w w' -> MapV dV goodD w' m (M.map fun x => (x.1, x.2.1)) := fun w' hb => (h.p.map.on.below hb).holds
 by_cases hx : ∃ x ∈ M, x.1 = sumAt L i
 ·obtain ⟨x, hx, hxe⟩ := hx
  obtain ⟨q, c, hv, _, hql⟩ := own_pos (h.p.rows x hx) (h.pos x hx)
  have hI := h.p.idx x hx
  rw [hxe] at hI;have hro := h.p.rows x hx
  rw [hv] at hro;refine ⟨some ⟨q, 0, none⟩, x.2.2.length, c, by rw [hI], by rw [<- hI]; exact rowK_own (enc := intE) (k := 1) (fun _ => rfl) Nat.zero_lt_one hro, .inr ⟨q, rfl, hql⟩, fun w' hb => ?_⟩
  rcases (hm w' hb).look digIT (sumAt L i) (sumN_good _) with ⟨_, h2⟩ | ⟨y, hy, hye, hr⟩
  ·exact absurd hxe (h2 _ (List.mem_map_of_mem (f := fun x : AEnt => (x.1, x.2.1)) hx))
  ·obtain ⟨z, hz, rfl⟩ := List.mem_map.1 hy
   obtain ⟨a, ha⟩ := List.mem_iff_getElem?.1 hx
   obtain ⟨b, hb2⟩ := List.mem_iff_getElem?.1 hz
   have hab : a = b := by
    by_cases e : a = b
    ·exact e
    ·exact absurd (hxe.trans hye.symm) (pair_ne (x := (x.1, x.2.1)) (y := (z.1, z.2.1)) h.p.map.dist e (by rw [List.getElem?_map, ha]; rfl) (by rw [List.getElem?_map, hb2]; rfl))
   subst hab;rw [ha] at hb2;have := Option.some.inj hb2
   subst this;rw [<- hv]; exact hr
 ·have hno : idxL L (sumAt L i) i = [] := by
   rw [List.eq_nil_iff_forall_not_mem];intro t ht;unfold idxL at ht
   obtain ⟨h8, h9⟩ := List.mem_filter.1 ht
   obtain ⟨x, hx2, hxe⟩ := h.p.all t (List.mem_range.1 h8)
   exact hx ⟨x, hx2, by rw [hxe]; simpa using h9⟩
  refine ⟨none, 0, 0, by rw [hno]; rfl, by rw [hno]; exact RowK.nil _ _, .inl rfl, fun w' hb => ?_⟩
  rcases (hm w' hb).look digIT (sumAt L i) (sumN_good _) with ⟨h2, _⟩ | ⟨y, hy, hye, _⟩
  ·exact h2
  ·obtain ⟨z, hz, rfl⟩ := List.mem_map.1 hy
   exact absurd ⟨z, hz, hye⟩ hx
def RowsB (w : World) (a : Option Addr) (L : List (List Nat)) : Prop := ∀ (i : Nat) (l : List Nat), L[i]? = some l -> ∃ g o v, a = some ⟨g, o, none⟩ /\ g < w.heap.size /\ w.cell? ⟨g, o + i, none⟩ = some v /\ SlAt w v l
theorem RowsB.later {w w' : World} {a : Option Addr} {L : List (List Nat)} (h : RowsB w a L) (hb : Below w.heap.size w w') : RowsB w' a L := by
 intro i l hl;obtain ⟨g, o, v, h1, h2, h3, h4⟩ := h i l hl
 exact ⟨g, o, v, h1, Nat.lt_of_lt_of_le h2 hb.size, (hb.cell (p := ⟨g, o + i, none⟩) h2).trans h3, h4.up hb (Nat.le_refl _)⟩
def AmR (L : List (List Nat)) (n : Nat) (r : Value) (w : World) : Prop := match amongG L n with
 | none => r = .tuple #[.agg pairZ, .bool false]
 | some p => ∃ u1 u2, r = .tuple #[.agg #[u1, u2], .bool true] /\ SlB w w.heap.size u1 (L.getD p.1 []) /\ SlB w w.heap.size u2 (L.getD p.2 [])
theorem amongG_mono (L : List (List Nat)) (i n : Nat) (p : Nat × Nat) (h : amongG L i = some p) (hi : i <= n) : amongG L n = some p := by
 induction hi with
 | refl => exact h
 | step _ ih => unfold amongG; rw [ih]
theorem SlB.setRow {w : World} {B q : Nat} {v : Value} {l : List Nat} {z : Nat × Nat} (h : SlB w B v l) (hq : w.heap[q]? = some (.cells pairZ 26 z)) (A : Array Value) : SlB (w.setRow q A) B v l := by
 obtain ⟨a, cap, h1, h2, h3, h4, h5, h6⟩ := h
 refine ⟨a, cap, h1, ⟨h2.1, fun h0 => ?_⟩, h3, h4, h5, h6⟩
 obtain ⟨g, o, e1, e2, e3, e4⟩ := h2.2 h0
 have hne : g ≠ q := by
  rintro rfl
  have h7 := e4 0 h0
  rw [cells_at hq (o + 0)] at h7
  have h8 : o + 0 = 0 \/ o + 0 = 1 \/ 2 <= o + 0 := by omega
  rcases h8 with h8 | h8 | h8
  ·rw [h8] at h7; cases h7
  ·rw [h8] at h7; cases h7
  ·rw [Array.getElem?_eq_none (by exact h8)] at h7; cases h7
 refine ⟨g, o, e1, e2, by rw [size_setRow]; exact e3, fun j hj => ?_⟩
 rw [cell_block (setRow_other w q g A hne)]
 exact e4 j hj
theorem results_row_tmp1 {P : Program} {fn : Func} {p u : Tmp} {ty : TypeId} (h : fn.results = #[.cell p ty, .tmp u]) (tmps : Array Value) (w : World) (g : Nat) (t : TypeId) (cs : Array Value) (fr : Nat × Nat) (d : TypeDesc)
  (hp : tmps.getD p undef = .pointer (some ⟨g, 0, none⟩)) (hg : w.heap[g]? = some (.cells cs t fr))
  (hu : P.underlying ty = some d) (hd : (match d with | .struct _ | .array _ _ => true | _ => false) = true) (hi : (P.info? ty).map (·.size) = some cs.size) :
  (results fn tmps).run P w = .ok (.tuple #[.agg cs, tmps.getD u undef]) w := by
 have hp' : tmps[p]?.getD undef = .pointer (some ⟨g, 0, none⟩) := by simpa using hp
 simp [results, h, hp', asAddr, run_loadVar_row w g t ty cs fr d hg hu hd hi]
theorem among_c (L : List (List Nat)) (n : Nat) (hL : L.length = n) (hn : n <= 100) (hl : ∀ l ∈ L, l.length <= 1000) (ta : Option Addr) (tc : Nat) (w : World) (hR : RowsB w ta L) :
  Calls prog 9 #[.slice ta n tc] w fun r w' => ∃ rv, r = .returned rv /\ AmR L n rv w' /\ Below w.heap.size w w' := by
 obtain ⟨w1, hw1⟩ : ∃ w1, w1 = w.alloc (.cells #[.slice ta n tc] 23) := ⟨_, rfl⟩
 have hx1 := heap_new' w (.cells #[.slice ta n tc] 23)
 have hb1 : Below w.heap.size w w1 := by rw [hw1]; exact below_box _ _
 have hs1 : w1.heap.size = w.heap.size + 1 := by rw [hw1, World.size_alloc]
 rw [<- hw1] at hx1;obtain ⟨w2, hw2⟩ : ∃ w2, w2 = w1.alloc (.cells pairZ 26) := ⟨_, rfl⟩
 have hb2 : Below w.heap.size w w2 := by rw [hw2]; exact below_al hb1 _
 obtain ⟨q, hq⟩ : ∃ q, q = w1.heap.size := ⟨_, rfl⟩
 have h0 : w2.heap[w.heap.size]? = some (.cells #[.slice ta n tc] 23 (0, 0)) := by rw [hw2]; exact ((below_box _ _).block _ (lt_blk hx1)).trans hx1
 have h1 : w2.heap[q]? = some (.cells pairZ 26 (0, 0)) := by rw [hw2, hq]; exact heap_new' _ _
 have HW2 : Hid (w2 = w1.alloc (.cells #[.slice none 0 0, .slice none 0 0] 26)) := Lib.hid hw2
 have HM := Lib.hid (make_c w2)
 have HQE : Hid (w.heap.size + 1 = q /\ w.heap.size <= q) := Lib.hid ⟨by omega, by omega⟩
 have HX := Lib.hid h0;have HQ := Lib.hid h1;have HB2 := Lib.hid hb2;have HR := Lib.hid hR;have HN := Lib.hid (And.intro hL (And.intro hn hl))
 clear hx1 hb1 hs1 hw2 hb2 hq h0 h1 hR hL hn hl
 go_enter func9, ntmps9
 go_upto_region 1 with fail
 rw [<- hw1, HQE.out.1, <- HW2.out]
 clear hw1 HW2;go_wp2_with fail
 refine HM.out.mono ?_
 rintro r w3 ⟨rfl, ht3, hb3⟩
 obtain ⟨tb, htb⟩ : ∃ tb, tb = w2.heap.size := ⟨_, rfl⟩
 rw [<- htb] at ht3;rw [<- htb];obtain ⟨w4, hw4⟩ : ∃ w4, w4 = w3.alloc (.map #[] 0) := ⟨_, rfl⟩
 have hb4 : Below w2.heap.size w2 w4 := by rw [hw4]; exact below_al hb3 _
 have hc4 : w4.heap[w.heap.size]? = some (.cells #[.slice ta n tc] 23 (0, 0)) := (hb4.block _ (lt_blk HX.out)).trans HX.out
 have c4 : w4.cell? ⟨w.heap.size, 0, none⟩ = some (.slice ta n tc) := by rw [cells_at hc4 0]; rfl
 have HA4 : Hid (∃ M, AmAt w.heap.size w4 L w3.heap.size 0 M) := Lib.hid ⟨[], by rw [hw4]; exact AmAt.nil _ _ _⟩
 obtain ⟨m, hm⟩ : ∃ m, m = w3.heap.size := ⟨_, rfl⟩
 have HP4 : Hid (w4.heap[w.heap.size]? = some (.cells #[.slice ta n tc] 23 (0, 0)) /\ w4.heap[q]? = some (.cells pairZ 26 (0, 0)) /\ w4.heap[tb]? = some (.cells (wA (KT ++ HL)) 64 (0, 0))) := Lib.hid ⟨hc4, (hb4.block _ (lt_blk HQ.out)).trans HQ.out, by rw [hw4]; exact ((below_box _ _).block _ (lt_blk ht3)).trans ht3⟩
 have HB4 : Hid (Below w.heap.size w w4) := HB2.out.trans (hb4.mono HB2.out.size)
 rw [<- hm] at HA4;have HMB : Hid (w.heap.size <= m) := Lib.hid (by rw [hm]; exact Nat.le_trans HB2.out.size hb3.size)
 clear ht3 hb3 hb4 hc4 HX HQ HB2 HM htb
 go_upto_region 3 with (first
  | (refine wpList_makeMap rfl 55 rfl ?_; rw [<- hw4, <- hm]; clear hw4 hm)
  | fail)
 go_wp2_with fail
 clear c4
 go_loopw [16] (fun v16 wr => ∃ i : Nat, i <= n /\ v16 = .int .i64 (i : Int) /\ Hid (amongG L i = none) /\ Hid (Below w.heap.size w wr) /\ Hid (∃ M, AmAt w.heap.size wr L m i M) /\ Hid (wr.heap[w.heap.size]? = some (.cells #[.slice ta n tc] 23 (0, 0)) /\ wr.heap[q]? = some (.cells pairZ 26 (0, 0)) /\ wr.heap[tb]? = some (.cells (wA (KT ++ HL)) 64 (0, 0)))) (fun v16 _ => n - (intOf v16).toNat)
 case atStart => exact ⟨0, Nat.zero_le _, rfl, rfl, HB4, HA4, HP4⟩
 case round =>
  obtain ⟨i, hi, rfl, hng, hbel, hAm, hpp⟩ := hrel
  clear HB4 HA4 HP4
  by_cases hlt : i < n
  ·have dl : (i : Int) < (n : Int) := by omega
   have d0 : ¬ (i : Int) < 0 := by omega
   have ei : IntKind.i64.wrap ((i : Int) + 1) = (i : Int) + 1 := by have := HN.out; exact IntWalk.i64_in _ (by omega)
   obtain ⟨M, hAm⟩ := hAm.out
   obtain ⟨l, hld⟩ : ∃ l, l = L.getD i [] := ⟨_, rfl⟩
   have hil : i < L.length := by rw [HN.out.1]; exact hlt
   have hgl : L[i]? = some l := by rw [hld, List.getD_eq_getElem?_getD, List.getElem?_eq_getElem hil]; rfl
   have hlm := HN.out.2.2 l (List.mem_of_getElem? hgl)
   obtain ⟨g, o, v0, hta, hg, hcell, hs0⟩ := HR.out i l hgl
   subst hta;have hsW := hs0.up hbel.out (Nat.le_refl _)
   obtain ⟨a, c, rfl, hBA, hz, hle, hmx⟩ := hs0
   have cx : wr.cell? ⟨g, o + i, none⟩ = some (.slice a l.length c) := (hbel.out.cell (p := ⟨g, o + i, none⟩) hg).trans hcell
   obtain ⟨ln, hln⟩ : ∃ ln, ln = l.length := ⟨_, rfl⟩
   rw [<- hln] at cx hsW hlm;obtain ⟨w5, hw5⟩ : ∃ w5, w5 = wr.alloc (.cells #[.slice a ln c] 22) := ⟨_, rfl⟩
   have hx5 := heap_new' wr (.cells #[.slice a ln c] 22)
   have hb5 := below_box wr (.cells #[.slice a ln c] 22)
   rw [<- hw5] at hx5 hb5;obtain ⟨w6, hw6⟩ : ∃ w6, w6 = w5.alloc (.cells #[.slice a ln c] 22) := ⟨_, rfl⟩
   have hx6 := heap_new' w5 (.cells #[.slice a ln c] 22)
   have hb6 : Below wr.heap.size wr w6 := by rw [hw6]; exact below_al hb5 _
   rw [<- hw6] at hx6;obtain ⟨d, hd⟩ : ∃ d, d = sumAt L i := ⟨_, rfl⟩
   have hdl : sumN l = d := by rw [hd, hld]; rfl
   have hBW := (hBA.up hbel.out (Nat.le_refl _)).up hb6 (Nat.le_refl _)
   have hsz6 : w.heap.size <= w6.heap.size := Nat.le_trans hbel.out.size hb6.size
   have hsum := sum1_c tb w5.heap.size ln a c l hln.symm (by omega) w6 ((hb6.block _ (lt_blk hpp.out.2.2)).trans hpp.out.2.2) hx6 hBW hz
   rw [hdl] at hsum;have c5 : w5.cell? ⟨wr.heap.size, 0, none⟩ = some (.slice a ln c) := by rw [cells_at hx5 0]; rfl
   have HSUM := Lib.hid hsum;have HP7 : Hid (w6.heap[wr.heap.size]? = some (.cells #[.slice a ln c] 22 (0, 0))) := Lib.hid (by rw [hw6]; exact ((below_box _ _).block _ (lt_blk hx5)).trans hx5)
   have HAM := Lib.hid hAm;have HPP := Lib.hid hpp.out;have HBR := Lib.hid hbel.out;have HB6 := Lib.hid hb6;have HSW := Lib.hid hsW;have HGC := Lib.hid (And.intro hg hcell)
   have HD := Lib.hid hd;have HLD := Lib.hid (And.intro hld (And.intro hln (And.intro hlm hgl)))
   have HNG := Lib.hid hng.out;have HLT := Lib.hid hlt;clear hAm hil hgl hlm hg hcell hsW hBA hz hle hmx hx5 hb5 hx6 hb6 hdl hBW hsum hpp hbel hng hlt hi hd hld hln hsz6
   go_upto_region 6 with fail
   rw [<- hw5];clear hw5 cx;have HW6 := Lib.hid hw6;clear hw6;go_wp2_with fail
   rw [<- HW6.out];refine HSUM.out.mono ?_
   rintro r w7 ⟨rfl, hb7⟩
   have HB7 : Hid (Below wr.heap.size wr w7) := HB6.out.trans (hb7.mono HB6.out.size)
   have HP77 : Hid (w7.heap[wr.heap.size]? = some (.cells #[.slice a ln c] 22 (0, 0))) := (hb7.block _ (lt_blk HP7.out)).trans HP7.out
   have HDG : Hid (d.length = 32) := Lib.hid (by rw [HD.out]; exact sum_len _)
   clear hb7 HSUM HP7 HB6 HW6 c5
   go_upto_region 7 with (first
    | (refine wpList_store_row rfl 38 (.tmp 8) (.tmp 24) rfl w7.heap.size (bA d) rfl rfl 38 (bA (List.replicate 32 0)) (World.alloc_heap_new _ _) (by rw [dig32, bA_size, HDG.out]) (by rw [bA_size, bA_size, HDG.out]; rfl) (bA_oneS _) ?_)
    | fail)
   generalize hW8 : World.setRow _ _ _ = w8
   have hx8 : w8.heap[w7.heap.size]? = some (.cells (bA d) 38 (0, 0)) := by rw [<- hW8]; exact setRow_heap _ _ _ _ _ _ (World.alloc_heap_new _ _)
   have hb8 : Below w7.heap.size w7 w8 := by rw [<- hW8]; exact below_setRow (below_box _ _) (Nat.le_refl _) _
   clear hW8;have hB8 : Below wr.heap.size wr w8 := HB7.out.trans (hb8.mono HB7.out.size)
   have hAm8 := (HAM.out.on.below hB8).holds
   obtain ⟨ia, nn, ic, hnn, hrowI, hig, hlook⟩ := hAm8.look
   rw [<- HD.out] at hnn hrowI hlook;obtain ⟨I, hI⟩ : ∃ I, I = idxL L d i := ⟨_, rfl⟩
   rw [<- hI] at hnn hrowI;have HI := Lib.hid hI;have HX8 := Lib.hid hx8;have HB8 := Lib.hid hB8;have HAM8 := Lib.hid hAm8;have HP78 : Hid (w8.heap[wr.heap.size]? = some (.cells #[.slice a ln c] 22 (0, 0))) := (hb8.block _ (lt_blk HP77.out)).trans HP77.out
   have HPP8 : Hid (w8.heap[w.heap.size]? = some (.cells #[.slice (some ⟨g, o, none⟩) n tc] 23 (0, 0)) /\ w8.heap[q]? = some (.cells pairZ 26 (0, 0)) /\ w8.heap[tb]? = some (.cells (wA (KT ++ HL)) 64 (0, 0))) := Lib.hid ⟨(hB8.block _ (lt_blk HPP.out.1)).trans HPP.out.1, (hB8.block _ (lt_blk HPP.out.2.1)).trans HPP.out.2.1, (hB8.block _ (lt_blk HPP.out.2.2)).trans HPP.out.2.2⟩
   have HBW8 : Hid (Below w.heap.size w w8) := HBR.out.trans (hB8.mono HBR.out.size)
   have HLOOK := Lib.hid hlook;have HNI := Lib.hid (And.intro hnn (And.intro hrowI hig))
   obtain ⟨p8, hp8⟩ : ∃ p8, p8 = w7.heap.size := ⟨_, rfl⟩
   obtain ⟨p7, hp7⟩ : ∃ p7, p7 = wr.heap.size := ⟨_, rfl⟩
   rw [<- hp8] at HX8;rw [<- hp7] at HP78;rw [<- hp8, <- hp7]
   have HSW8 : Hid (SlAt w8 (.slice a ln c) l) := HSW.out.up hB8 (Nat.le_refl _)
   clear hx8 hb8 hB8 hAm8 hnn hrowI hig hlook hI HB7 HP77 HAM HPP HBR hp8 hp7 HSW;have hix := ixU_c w.heap.size p7 ia nn ic I HNI.out.1.symm (by have h1 := HNI.out.1; have h2 := idxL_le L d i; rw [<- HI.out, <- h1] at h2; have := HLT.out; have := HN.out; omega) (fun k => !decide (L.getD k [] = l)) w8 HNI.out.2.1 (fun w' hb k hk => by
    rw [HI.out] at hk;have hki := idxL_lt hk
    have hkl : k < L.length := by rw [HN.out.1]; have := HLT.out; omega
    have hgk : L[k]? = some (L.getD k []) := by rw [List.getD_eq_getElem?_getD, List.getElem?_eq_getElem hkl]; rfl
    have hBw : Below w.heap.size w w' := HBW8.out.trans (hb.mono HBW8.out.size)
    obtain ⟨gk, ok, vk, e1, e2, e3, e4⟩ := (HR.out.later hBw) k _ hgk
    injection e1 with e1
    injection e1 with e1 e5 _
    subst e1 e5
    obtain ⟨ak, ck, rfl, f1, _⟩ := e4
    obtain ⟨aw, cw, e6, f2, _⟩ := HSW8.out.up hb (Nat.le_refl _)
    injection e6 with e6 e7 e8
    subst e6 e8
    exact among1_c k w.heap.size p7 g o n tc _ ln ck c ak a (L.getD k []) l w' ((hb.block _ (lt_blk HPP8.out.1)).trans HPP8.out.1) ((hb.block _ (lt_blk HP78.out)).trans HP78.out) (by have := HLT.out; omega) (by have := HN.out; omega) e2 e3 rfl HLD.out.2.1.symm f1 f2)
   obtain ⟨fi, hfi⟩ : ∃ fi, fi = I.findIdx? (fun k => !decide (L.getD k [] = l)) := ⟨_, rfl⟩
   rw [<- hfi] at hix;have HFI := Lib.hid hfi;have HIX := Lib.hid hix;clear hix hfi;have hl8 := HLOOK.out w8 (Below.refl _ _)
   have HL8 := Lib.hid hl8;clear hl8;go_wp2_with (first
    | (refine wpList_load_row rfl 38 (.tmp 8) rfl p8 rfl _ _ _ _ HX8.out underlying38 rfl (by rw [dig32, bA_size, HDG.out]) ?_)
    | (refine wpList_look0 rfl 55 (.tmp 26) (.tmp 27) rfl rfl rfl HL8.out ?_)
    | fail)
   refine HIX.out.mono ?_
   rintro r w9 ⟨rfl, hb9⟩
   have HB9 := Lib.hid hb9;clear hb9 HIX HL8
   cases fi with
   | none =>
    have hix : idxI none = -1 := rfl
    rw [hix];have hnh : hitN L i = none := by
     rw [<- hit_find, <- HD.out, <- HI.out, <- HLD.out.1]
     exact find_none HFI.out.symm
    have hng2 : amongG L (i + 1) = none := by unfold amongG; rw [HNG.out, hnh]; rfl
    have HNG2 := Lib.hid hng2;have HX9 : Hid (w9.heap[p8]? = some (.cells (bA d) 38 (0, 0))) := (HB9.out.block _ (lt_blk HX8.out)).trans HX8.out
    obtain ⟨w10, hw10⟩ : ∃ w10, w10 = w9.alloc (.cells (intE i).toArray 3) := ⟨_, rfl⟩
    have hb10 : Below w8.heap.size w8 w10 := by rw [hw10]; exact below_al HB9.out _
    have hrow10 : RowK intE 1 w10 (some ⟨w9.heap.size, 0, none⟩) [i] := by rw [hw10]; exact rowK_one (fun _ => rfl) (heap_new' _ _)
    have hAm10 := (HAM8.out.on.below hb10).holds
    have hm8 := HAM8.out.p.map.on.lt m rfl
    obtain ⟨j, v, w11, M1, hent, hj, hp11, hpos, hc11, hs11⟩ := hAm10.entry
    have hrj := hp11.rows _ (List.mem_of_getElem? hj)
    simp only at hrj
    have hrow11 : RowK intE 1 w11 (some ⟨w9.heap.size, 0, none⟩) [i] := hrow10.keep (hc11.block _ (by rw [hw10, World.size_alloc]; omega) (fun e => by have := HB9.out.size; omega))
    have hsz11 : w.heap.size <= w11.heap.size := by rw [hs11]; exact Nat.le_trans HBW8.out.size hb10.size
    have hkeep11 : ∀ (k : Nat) (A : Array Value) (t : TypeId) (z : Nat × Nat), w8.heap[k]? = some (.cells A t z) -> t ≠ 3 -> w11.heap[k]? = some (.cells A t z) /\ v.ownBlock ≠ some k /\ k ≠ m := fun k A t z hk ht => by
     have h1 := (hb10.block k (lt_blk hk)).trans hk
     have hkm : k ≠ m := fun e => hAm10.p.apart h1 ht (.inl e)
     have h2 := (hc11.block k (lt_blk h1) hkm).trans h1
     exact ⟨h2, own_ne_cells hrj h2 ht, hkm⟩
    have hB11 : Below w.heap.size w w11 := HBW8.out.trans ((hb10.mono HBW8.out.size).trans (hc11.below (Nat.le_trans HBW8.out.size hb10.size) (fun k e => by rw [show k = m from e]; exact HMB.out)))
    have hfin : ∀ v12 w12, w12.ownsRow w.heap.size 3 1 v12 (nn + 1) (cellsK intE (I ++ [i])) -> w11.grownBy w12 v.ownBlock -> (v12.ownBlock = v.ownBlock \/ v12.ownBlock = some w11.heap.size) -> ∃ w13, (Instr.entryStore 55 (.map (some m)) (.int .i64 (j : Int)) v12).run prog w12 = .ok () w13 /\ (∃ M, AmAt w.heap.size w13 L m (i + 1) M) /\ Below w.heap.size w w13 /\ ∀ (k : Nat) (A : Array Value) (t : TypeId) (z : Nat × Nat), w8.heap[k]? = some (.cells A t z) -> t ≠ 3 -> w13.heap[k]? = some (.cells A t z) := fun v12 w12 h1 h2 h3 => by
     rw [HI.out, HD.out, HNI.out.1, HI.out, HD.out] at h1
     obtain ⟨w13, g1, g2, g3, g4⟩ := hp11.store hj hpos h1 h2 h3
     have hc12 : Chg (fun k => v.ownBlock = some k) w11 w12 := Chg.grown h2 fun k hk _ => hk
     refine ⟨w13, g1, ⟨_, g4⟩, hB11.trans (((hc12.below hsz11 (fun k e => ?_))).trans (g2.below (Nat.le_trans hsz11 hc12.size) (fun k e => by rw [show k = m from e]; exact HMB.out))), fun k A t z hk ht => ?_⟩
     ·rcases hrj.2 with ⟨e1, _⟩ | ⟨gg, cap, cur, e1, e2, _⟩
      ·rw [e1] at e; cases e
      ·rw [e1] at e
       have := Option.some.inj e
       simp only at this
       rw [<- this]; exact e2
     ·obtain ⟨f1, f2, f3⟩ := hkeep11 k A t z hk ht
      have f4 := (hc12.block k (lt_blk f1) f2).trans f1
      exact (g2.block k (lt_blk f4) f3).trans f4
    rw [<- HD.out] at hent;have hown11 : w11.ownsRow w.heap.size 3 1 v nn (cellsK intE I) := by
     rw [HI.out, HD.out, HNI.out.1, HI.out, HD.out]; exact hrj
    have HENT := Lib.hid hent;have HROW11 := Lib.hid hrow11;have HOWN11 := Lib.hid hown11;have HFIN := Lib.hid hfin;have HSZ11 := Lib.hid hsz11;have HW10 := Lib.hid hw10;have HNN : Hid (nn <= 100) := Lib.hid (by have h1 := HNI.out.1; have h2 := idxL_le L d i; rw [<- HI.out, <- h1] at h2; have := HLT.out; have := HN.out; omega)
    clear hix hnh hng2 hw10 hb10 hrow10 hAm10 hm8 hent hj hp11 hpos hc11 hs11 hrj hrow11 hsz11 hkeep11 hB11 hfin hown11;go_wp2_with (first
     | (refine wpList_load_row rfl 38 (.tmp 8) rfl p8 rfl _ _ _ _ HX9.out underlying38 rfl (by rw [dig32, bA_size, HDG.out]) ?_)
     | (refine intRT.wpList_build (p := i) (by decide) rfl (.tmp 49) rfl rfl ?_; rw [<- HW10.out])
     | (refine wpList_mentry rfl 55 (.tmp 46) (.tmp 47) rfl rfl rfl HENT.out ?_)
     | (refine intRT.wpList_append_at rfl (.tmp 48) (.tmp 50) rfl (base := w.heap.size) (v := v) (n := nn) (L := I) rfl HOWN11.out (a := some ⟨w9.heap.size, 0, none⟩) (m := 1) (cap := 1) (M := [i]) rfl rfl HROW11.out (fun h => by cases h) (by rintro _ ⟨⟩; rfl) (by have := HNN.out; unfold maxLen; omega) (by have := HNN.out; omega) HSZ11.out ?_; intro v12 w12 hown12 hgr12 hnil12 hat12; obtain ⟨w13, hst, hA13, hB13, hk13⟩ := HFIN.out v12 w12 hown12 hgr12 hat12; have HST := Lib.hid hst; have HA13 := Lib.hid hA13; have HB13 := Lib.hid hB13; have HK13 := Lib.hid hk13; clear hst hA13 hB13 hk13 hown12 hgr12 hnil12 hat12)
     | (refine wpList_mstore rfl 55 (.tmp 46) (.tmp 53) (.tmp 52) rfl rfl rfl rfl HST.out ?_)
     | fail)
    go_roundw
    case rel => exact ⟨i + 1, by have := HLT.out; omega, by go_num, HNG2, HB13, HA13, Lib.hid ⟨HK13.out _ _ _ _ HPP8.out.1 (by decide), HK13.out _ _ _ _ HPP8.out.2.1 (by decide), HK13.out _ _ _ _ HPP8.out.2.2 (by decide)⟩⟩
    case measure => simp [intOf]; have := HLT.out; omega
   | some jj =>
    have hix : idxI (some jj) = (jj : Int) := rfl
    rw [hix];obtain ⟨k, hk1, hk2⟩ := find_idx HFI.out.symm
    have hh : hitN L i = some k := by
     rw [<- hit_find, <- HD.out, <- HI.out, <- HLD.out.1]
     exact hk2
    have hamG : amongG L n = some (k, i) := amongG_mono L (i + 1) n (k, i) (by unfold amongG; rw [HNG.out, hh]; rfl) HLT.out
    have hjn : jj < nn := by rw [HNI.out.1]; exact (List.getElem?_eq_some_iff.1 hk1).1
    obtain ⟨ig, hia, hig⟩ : ∃ ig, ia = some ⟨ig, 0, none⟩ /\ ig < w8.heap.size := by
     rcases HNI.out.2.2 with h | h
     ·omega
     ·exact h
    subst hia;have hki : k < i := idxL_lt (by rw [<- HI.out]; exact List.mem_of_getElem? hk1)
    have hik := (HNI.out.2.1.at (i := jj) (x := k) hk1).2 0 _ rfl
    rw [show 0 + (jj * 1 + 0) = jj by omega] at hik
    have hkl : k < L.length := by rw [HN.out.1]; have := HLT.out; omega
    have hgk : L[k]? = some (L.getD k []) := by rw [List.getD_eq_getElem?_getD, List.getElem?_eq_getElem hkl]; rfl
    have hBW9 : Below w.heap.size w w9 := HBW8.out.trans (HB9.out.mono HBW8.out.size)
    obtain ⟨gk, ok, vk, e1, e2, e3, e4⟩ := (HR.out.later hBW9) k _ hgk
    injection e1 with e1
    injection e1 with e1 e5 _
    subst e1 e5
    have hlk := HN.out.2.2 _ (List.mem_of_getElem? hgk)
    have hnn100 : nn <= 1000 := by have h1 := HNI.out.1; have h2 := idxL_le L d i; rw [<- HI.out, <- h1] at h2; have := HLT.out; have := HN.out; omega
    have dj : ¬ (jj : Int) < 0 := by omega
    have dj2 : (jj : Int) >= 0 := by omega
    have hreg := @regionWam
    have HQ9 : Hid (w9.heap[q]? = some (.cells pairZ 26 (0, 0))) := (HB9.out.block _ (lt_blk HPP8.out.2.1)).trans HPP8.out.2.1
    have HBW9 := Lib.hid hBW9;have HAMG := Lib.hid hamG;have HA := Lib.hid (And.intro hjn (And.intro hnn100 (And.intro hig (And.intro hik (And.intro hki (And.intro e2 (And.intro e3 (And.intro e4 hlk))))))))
    clear hreg hix hk1 hk2 hh hamG hjn hig hki hik hkl hgk hBW9 e2 e3 e4 hlk hnn100
    go_upto_region 10 with fail
    refine regionWam w.heap.size p7 p8 m g o n tc ig nn ic jj k d vk (.slice a ln c) (L.getD k []) l w9 ((HB9.out.block _ (lt_blk HPP8.out.1)).trans HPP8.out.1) ((HB9.out.block _ (lt_blk HP78.out)).trans HP78.out) ((HB9.out.block _ (lt_blk HX8.out)).trans HX8.out) HDG.out (fun w' hb => HLOOK.out w' (HB9.out.trans (hb.mono HB9.out.size))) HA.out.1 HA.out.2.1 (Nat.lt_of_lt_of_le HA.out.2.2.1 HB9.out.size) ((HB9.out.cell (p := ⟨ig, jj, none⟩) HA.out.2.2.1).trans HA.out.2.2.2.1) (by have := HA.out.2.2.2.2.1; have := HLT.out; omega) (by have := HN.out; omega) HA.out.2.2.2.2.2.1 HA.out.2.2.2.2.2.2.1 HA.out.2.2.2.2.2.2.2.1 (HSW8.out.up HB9.out (Nat.le_refl _)) (by have := HA.out.2.2.2.2.2.2.2.2; omega) (by have := HLD.out; omega) ?_
    intro vs w10 hv hk10;obtain ⟨y1, y2, e12, hy1, hy2⟩ := hv 12 (by omega)
    obtain ⟨x1, c1, rfl, hy1'⟩ := hy1
    obtain ⟨x2, c2, rfl, hy2'⟩ := hy2
    generalize vs 12 = x12 at e12
    subst e12;have HQ10 : Hid (w10.heap[q]? = some (.cells pairZ 26 (0, 0))) := (hk10.block _ (lt_blk HQ9.out)).trans HQ9.out
    have HB10 : Hid (Below w.heap.size w w10) := HBW9.out.trans (hk10.mono HBW9.out.size)
    obtain ⟨n1, hn1⟩ : ∃ n1, n1 = (L.getD k []).length := ⟨_, rfl⟩
    obtain ⟨n2, hn2⟩ : ∃ n2, n2 = l.length := ⟨_, rfl⟩
    have HY : Hid (SlB w10 w10.heap.size (.slice x1 n1 c1) (L.getD k []) /\ SlB w10 w10.heap.size (.slice x2 n2 c2) l) := Lib.hid ⟨⟨x1, c1, by rw [hn1], hy1'⟩, ⟨x2, c2, by rw [hn2], hy2'⟩⟩
    rw [<- hn1, <- hn2]
    simp only [opsWam, List.drop_succ_cons, List.drop_zero]
    clear hv hk10 hy1' hy2' hn1 hn2 HQ9 HBW9;go_wp2_with (first
     | (refine wpList_store_row rfl 26 (.tmp 2) (.tmp 45) rfl q #[.slice x1 n1 c1, .slice x2 n2 c2] rfl rfl 26 pairZ HQ10.out pair2 rfl (by rw [<- Array.all_toList]; simp [Value.oneCell']) ?_)
     | fail)
    refine bodyPost_ret (results_row_tmp1 rfl _ _ q 26 #[.slice x1 n1 c1, .slice x2 n2 c2] (0, 0) _ rfl (setRow_heap _ _ _ _ _ _ HQ10.out) underlying26 rfl pair2) rfl ⟨_, rfl, ?_, below_setRow HB10.out HQE.out.2 _⟩
    unfold AmR;rw [HAMG.out];refine ⟨_, _, rfl, ?_, ?_⟩
    ·rw [size_setRow]; exact HY.out.1.setRow HQ10.out _
    ·rw [size_setRow, <- HLD.out.1]; exact HY.out.2.setRow HQ10.out _
  ·have dl : ¬ (i : Int) < (n : Int) := by omega
   have hin : i = n := by omega
   have hamG := hng.out
   rw [hin] at hamG;have HAMG := Lib.hid hamG;have HQ9 := Lib.hid hpp.out.2.1;have HBW9 := Lib.hid hbel.out;clear hamG hin hng hbel hpp hAm hlt hi;go_wp2_with (first
    | (refine wpList_store_row rfl 26 (.tmp 2) (.tmp 55) rfl q pairZ rfl rfl 26 pairZ HQ9.out pair2 rfl (by rw [<- Array.all_toList]; simp [pairZ, Value.oneCell']) ?_)
    | fail)
   refine bodyPost_ret (results_row_tmp1 rfl _ _ q 26 pairZ (0, 0) _ rfl (setRow_heap _ _ _ _ _ _ HQ9.out) underlying26 rfl pair2) rfl ⟨_, rfl, ?_, below_setRow HBW9.out HQE.out.2 _⟩
   unfold AmR;rw [HAMG.out]
   rfl
end Go.Proofs.YtnmdjggdgakeoaaGreat
