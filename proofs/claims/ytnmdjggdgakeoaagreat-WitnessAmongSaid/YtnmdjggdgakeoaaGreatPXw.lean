/- Lemmas for the proof. -/
import Derived.Test.YtnmdjggdgakeoaaGreatPXu
import Derived.Test.YtnmdjggdgakeoaaGreatPXv
import Derived.Test.YtnmdjggdgakeoaaGreatPXt
import Derived.Test.YtnmdjggdgakeoaaGreatPXr
set_option maxRecDepth 100000
set_option maxHeartbeats 16000000
set_option linter.unusedVariables false
set_option linter.unusedSimpArgs false
set_option linter.unusedSectionVars false
namespace Go.Proofs.YtnmdjggdgakeoaaGreat
open Go Go.RowKit Sha Tryz
theorem wpList_exec {P : Program} {ops : Array Oper} {rest : List Oper} {o : Oper} {A : Act} {w w1 : World} {Q : Exit -> Act -> World -> Prop} (hgd : o.guard = none) {v : Value} (hr : (execOp A.eval o).run P w = .ok (.value v) w1) (hK : wpList P ops Q rest (A.put o.dst v) w1) : wpList P ops Q (o :: rest) A w :=
 wpList_plain hgd fun _ hk => by
  unfold Oper.wp
  rw [hr];exact hk _ _ hK
theorem run_nes (l m : List Nat) (hl : ∀ x ∈ l, x < 256) (hm : ∀ x ∈ m, x < 256) (E : Operand -> Value) (x y : Operand) (t : TypeId) (o : Oper) (ho : o.op = .binOp .neq 9 x y t) (hx : E x = strV l) (hy : E y = strV m) (w : World) :
  (execOp E o).run prog w = .ok (.value (.bool (!decide (l = m)))) w := by
 have key : (l.map UInt8.ofNat == m.map UInt8.ofNat) = decide (l = m) := by
  by_cases h : l = m
  ·subst h; simp
  ·have hne : l.map UInt8.ofNat ≠ m.map UInt8.ofNat := fun h' => h (strV_inj hl hm h')
   simp [h, hne]
 unfold execOp;simp only [ho, hx, hy]
 unfold strV
 go_simp
 done
theorem rshows_c (n1 n2 c1 c2 : Nat) (a1 a2 : Option Addr) (l1 l2 : List Nat) (e1 : l1.length = n1) (e2 : l2.length = n2) (hn : n1 <= 1000 /\ n2 <= 1000) (w : World) (hb1 : BytesAt w a1 c1 l1) (hb2 : BytesAt w a2 c2 l2) (hz : (a1 = none -> c1 = 0) /\ (a2 = none -> c2 = 0)) :
  Calls prog 7 #[.slice a1 n1 c1, .slice a2 n2 c2] w fun r w' => r = .returned (.bool (showsP l1 l2)) /\ Below w.heap.size w w' := by
 have HS1 := Lib.hid (fun w hb => rsum_c a1 c1 n1 l1 e1 (by omega) w hb hz.1)
 have HS2 := Lib.hid (fun w hb => rsum_c a2 c2 n2 l2 e2 (by omega) w hb hz.2)
 have HB := Lib.hid (And.intro hb1 hb2)
 have HE := Lib.hid (And.intro e1 e2)
 obtain ⟨s1, hs1⟩ : ∃ s1, s1 = strV l1 := ⟨_, rfl⟩
 obtain ⟨s2, hs2⟩ : ∃ s2, s2 = strV l2 := ⟨_, rfl⟩
 have HV := Lib.hid (And.intro hs1 hs2)
 clear hb1 hb2 hz e1 e2 hs1 hs2 hn
 go_enter func7, ntmps7
 cases hle : decide (l1 = l2) with
 | true =>
  have HP : Hid (showsP l1 l2 = false) := Lib.hid (by unfold showsP; rw [hle]; rfl)
  have HL := Lib.hid hle;clear hle;go_wp2_with (first
   | (refine wpList_exec rfl (v := s1) (by rw [HV.out.1]; exact run_conv_op HE.out.1 HB.out.1 _ (.tmp 5) _ rfl rfl) ?_)
   | (refine wpList_exec rfl (v := s2) (by rw [HV.out.2]; exact run_conv_op HE.out.2 HB.out.2 _ (.tmp 7) _ rfl rfl) ?_)
   | (refine wpList_exec rfl (v := .bool false) (by rw [show (false : Bool) = !decide (l1 = l2) by rw [HL.out]; rfl]; exact run_nes l1 l2 HB.out.1.1 HB.out.2.1 _ (.tmp 6) (.tmp 8) _ _ rfl HV.out.1 HV.out.2 _) ?_)
   | fail)
  go_ret
  exact ⟨by rw [HP.out]; rfl, Below.refl _ _⟩
 | false =>
  have HP : Hid (showsP l1 l2 = decide (sumN l1 = sumN l2)) := Lib.hid (by unfold showsP; rw [hle]; rfl)
  have HL := Lib.hid hle;clear hle;go_wp2_with (first
   | (refine wpList_exec rfl (v := s1) (by rw [HV.out.1]; exact run_conv_op HE.out.1 HB.out.1 _ (.tmp 5) _ rfl rfl) ?_)
   | (refine wpList_exec rfl (v := s2) (by rw [HV.out.2]; exact run_conv_op HE.out.2 HB.out.2 _ (.tmp 7) _ rfl rfl) ?_)
   | (refine wpList_exec rfl (v := .bool true) (by rw [show (true : Bool) = !decide (l1 = l2) by rw [HL.out]; rfl]; exact run_nes l1 l2 HB.out.1.1 HB.out.2.1 _ (.tmp 6) (.tmp 8) _ _ rfl HV.out.1 HV.out.2 _) ?_)
   | fail)
  refine (HS1.out _ HB.out.1).mono ?_
  rintro r w1 ⟨rfl, hb1⟩
  have HB1 := Lib.hid hb1;clear hb1;go_wp2_with fail
  refine (HS2.out _ (HB.out.2.up HB1.out (Nat.le_refl _))).mono ?_
  rintro r w2 ⟨rfl, hb2⟩
  have HB2 : Hid (Below w.heap.size w w2) := HB1.out.trans (hb2.mono HB1.out.size)
  obtain ⟨i8, hi8⟩ := u8some
  have hq : ∀ w, (Op.equalIn 10000 37 (.agg (bA (sumN l1))) (.agg (bA (sumN l2)))).run prog w = .ok (decide (sumN l1 = sumN l2)) w := fun w => equalIn_bytes prog 9998 32 37 5 i8 underlying37 underlying5 u8plain hi8 u8cells (sumN l1) (sumN l2) (sum_len l1) (sum_len l2) w
  obtain ⟨bb, hbb⟩ : ∃ bb, bb = decide (sumN l1 = sumN l2) := ⟨_, rfl⟩
  rw [<- hbb] at hq HP;obtain ⟨z1, hz1⟩ : ∃ z1, z1 = bA (sumN l1) := ⟨_, rfl⟩
  obtain ⟨z2, hz2⟩ : ∃ z2, z2 = bA (sumN l2) := ⟨_, rfl⟩
  rw [<- hz1, <- hz2] at hq
  rw [<- hz1, <- hz2]
  clear hb2 HS1 HS2 hbb hz1 hz2 hi8;go_wp2
  go_ret
  exact ⟨by rw [HP.out]; rfl, HB2.out⟩
def opsWre : {o : Array Oper // some o = (Tryz.f10.body.bind (Fre.findR 7))} := ⟨_, rfl⟩
theorem fitWre : Fre.fit .any opsWre.1 29 = true := by kernel_rfl
theorem sizeWre : opsWre.1.size = 9 := by kernel_rfl
def VWre (g o n tc k jj n1 n2 c1 c2 : Nat) (a1 a2 : Option Addr) (l1 l2 : List Nat) (i : Nat) (v : Value) (w : World) : Prop := match i with
 | 0 => v = .slice (some ⟨g, o, none⟩) n tc
 | 1 => v = .int .i64 (k : Int)
 | 2 => v = .pointer (some ⟨g, o + k, none⟩)
 | 3 => v = .slice a1 n1 c1
 | 4 => v = .slice (some ⟨g, o, none⟩) n tc
 | 5 => v = .int .i64 (jj : Int)
 | 6 => v = .pointer (some ⟨g, o + jj, none⟩)
 | 7 => v = .slice a2 n2 c2
 | 8 => v = .bool (showsP l1 l2)
 | _ => True
section
variable {u1 u2 u3 u4 u7 u8 u9 u10 u11 u12 u13 u14 u15 u16 u17 u18 u19 u20 u21 u22 u23 u24 u25 u26 u27 u28 : Value}
theorem kpWre (g o n tc k jj n1 n2 c1 c2 : Nat) (a1 a2 : Option Addr) (l1 l2 : List Nat) : ∀ j v w w', j < opsWre.1.size -> VWre g o n tc k jj n1 n2 c1 c2 a1 a2 l1 l2 j v w -> Fre.Kept w w' -> VWre g o n tc k jj n1 n2 c1 c2 a1 a2 l1 l2 j v w' := by
 intro j v w w' hj h hs
 rw [sizeWre] at hj;rcases cs9 hj with rfl | rfl | rfl | rfl | rfl | rfl | rfl | rfl | rfl <;> exact h
variable {g o n tc k jj n1 n2 c1 c2 : Nat} {a1 a2 : Option Addr} {l1 l2 : List Nat} {a0 : Act} {w0 : World} (hk : k < n) (hj : jj < n) (hnn : n <= 1000) (hg : g < w0.heap.size) (hc1 : w0.cell? ⟨g, o + k, none⟩ = some (.slice a1 n1 c1)) (hc2 : w0.cell? ⟨g, o + jj, none⟩ = some (.slice a2 n2 c2)) (e1 : l1.length = n1) (e2 : l2.length = n2) (hn : n1 <= 1000 /\ n2 <= 1000) (hb1 : BytesAt w0 a1 c1 l1) (hb2 : BytesAt w0 a2 c2 l2) (hz : (a1 = none -> c1 = 0) /\ (a2 = none -> c2 = 0))
include hk hj hnn hg hc1 hc2 e1 e2 hn hb1 hb2 hz
theorem stWre_0 (g90 : a0.tmps.getD 0 undef = .slice (some ⟨g, o, none⟩) n tc) : Fre.StepB prog opsWre.1 a0 w0 (VWre g o n tc k jj n1 n2 c1 c2 a1 a2 l1 l2) Fre.Kept 0 := by
 rintro E w hc hf hE hV hN hS _ ⟨⟩
 simp only [opsWre, gA, gS, gZ]
 have b0 : E (.tmp 0) = .slice (some ⟨g, o, none⟩) n tc := (hE 0 (by kernel_rfl)).trans g90
 clear g90;refine Fre.dv (v := .slice (some ⟨g, o, none⟩) n tc) ?_
 go_simp
theorem stWre_1 (g96 : a0.tmps.getD 6 undef = .int .i64 (k : Int)) : Fre.StepB prog opsWre.1 a0 w0 (VWre g o n tc k jj n1 n2 c1 c2 a1 a2 l1 l2) Fre.Kept 1 := by
 rintro E w hc hf hE hV hN hS _ ⟨⟩
 simp only [opsWre, gA, gS, gZ]
 have b6 : E (.tmp 6) = .int .i64 (k : Int) := (hE 6 (by kernel_rfl)).trans g96
 clear g96;refine Fre.dv (v := .int .i64 (k : Int)) ?_
 go_simp
theorem stWre_2 : Fre.StepB prog opsWre.1 a0 w0 (VWre g o n tc k jj n1 n2 c1 c2 a1 a2 l1 l2) Fre.Kept 2 := by
 rintro E w hc hf hE hV hN hS _ ⟨⟩
 simp only [opsWre, gA, gS, gZ]
 have d0 : E (.tmp 17) = .slice (some ⟨g, o, none⟩) n tc := hV 0 17 (by kernel_rfl) (by kernel_rfl)
 have d1 : E (.tmp 18) = .int .i64 (k : Int) := hV 1 18 (by kernel_rfl) (by kernel_rfl)
 have i1 : (k : Int) < (n : Int) := by omega
 have i2 : ¬ (k : Int) < 0 := by omega
 refine Fre.dv (v := .pointer (some ⟨g, o + k, none⟩)) ?_
 go_simp
theorem stWre_3 : Fre.StepB prog opsWre.1 a0 w0 (VWre g o n tc k jj n1 n2 c1 c2 a1 a2 l1 l2) Fre.Kept 3 := by
 rintro E w hc hf hE hV hN hS _ ⟨⟩
 simp only [opsWre, gA, gS, gZ]
 have d2 : E (.tmp 19) = .pointer (some ⟨g, o + k, none⟩) := hV 2 19 (by kernel_rfl) (by kernel_rfl)
 have c0 : w.cell? ⟨g, o + k, none⟩ = some (.slice a1 n1 c1) := (hS.cell (p := ⟨g, o + k, none⟩) hg).trans hc1
 refine Fre.dv (v := .slice a1 n1 c1) ?_
 go_simp
theorem stWre_4 (g90 : a0.tmps.getD 0 undef = .slice (some ⟨g, o, none⟩) n tc) : Fre.StepB prog opsWre.1 a0 w0 (VWre g o n tc k jj n1 n2 c1 c2 a1 a2 l1 l2) Fre.Kept 4 := by
 rintro E w hc hf hE hV hN hS _ ⟨⟩
 simp only [opsWre, gA, gS, gZ]
 have b0 : E (.tmp 0) = .slice (some ⟨g, o, none⟩) n tc := (hE 0 (by kernel_rfl)).trans g90
 clear g90;refine Fre.dv (v := .slice (some ⟨g, o, none⟩) n tc) ?_
 go_simp
theorem stWre_5 (g95 : a0.tmps.getD 5 undef = .int .i64 (jj : Int)) : Fre.StepB prog opsWre.1 a0 w0 (VWre g o n tc k jj n1 n2 c1 c2 a1 a2 l1 l2) Fre.Kept 5 := by
 rintro E w hc hf hE hV hN hS _ ⟨⟩
 simp only [opsWre, gA, gS, gZ]
 have b5 : E (.tmp 5) = .int .i64 (jj : Int) := (hE 5 (by kernel_rfl)).trans g95
 clear g95;refine Fre.dv (v := .int .i64 (jj : Int)) ?_
 go_simp
theorem stWre_6 : Fre.StepB prog opsWre.1 a0 w0 (VWre g o n tc k jj n1 n2 c1 c2 a1 a2 l1 l2) Fre.Kept 6 := by
 rintro E w hc hf hE hV hN hS _ ⟨⟩
 simp only [opsWre, gA, gS, gZ]
 have d4 : E (.tmp 21) = .slice (some ⟨g, o, none⟩) n tc := hV 4 21 (by kernel_rfl) (by kernel_rfl)
 have d5 : E (.tmp 22) = .int .i64 (jj : Int) := hV 5 22 (by kernel_rfl) (by kernel_rfl)
 have i1 : (jj : Int) < (n : Int) := by omega
 have i2 : ¬ (jj : Int) < 0 := by omega
 refine Fre.dv (v := .pointer (some ⟨g, o + jj, none⟩)) ?_
 go_simp
theorem stWre_7 : Fre.StepB prog opsWre.1 a0 w0 (VWre g o n tc k jj n1 n2 c1 c2 a1 a2 l1 l2) Fre.Kept 7 := by
 rintro E w hc hf hE hV hN hS _ ⟨⟩
 simp only [opsWre, gA, gS, gZ]
 have d6 : E (.tmp 23) = .pointer (some ⟨g, o + jj, none⟩) := hV 6 23 (by kernel_rfl) (by kernel_rfl)
 have c0 : w.cell? ⟨g, o + jj, none⟩ = some (.slice a2 n2 c2) := (hS.cell (p := ⟨g, o + jj, none⟩) hg).trans hc2
 refine Fre.dv (v := .slice a2 n2 c2) ?_
 go_simp
theorem stWre_8 : Fre.StepB prog opsWre.1 a0 w0 (VWre g o n tc k jj n1 n2 c1 c2 a1 a2 l1 l2) Fre.Kept 8 := by
 rintro E w hc hf hE hV hN hS _ ⟨⟩
 simp only [opsWre, gA, gS, gZ]
 have d3 : E (.tmp 20) = .slice a1 n1 c1 := hV 3 20 (by kernel_rfl) (by kernel_rfl)
 have d7 : E (.tmp 24) = .slice a2 n2 c2 := hV 7 24 (by kernel_rfl) (by kernel_rfl)
 refine Fre.Does.enter (f := 7) (args := #[.slice a1 n1 c1, .slice a2 n2 c2]) (w' := w) ?_ ((rshows_c n1 n2 c1 c2 a1 a2 l1 l2 e1 e2 hn w (hb1.up hS (Nat.le_refl _)) (hb2.up hS (Nat.le_refl _)) hz).mono ?_)
 ·go_simp
 ·rintro e w' ⟨rfl, hk'⟩
  exact ⟨_, rfl, rfl, hk'⟩
variable (g o n tc k jj n1 n2 c1 c2 a1 a2 l1 l2 w0)
theorem regionWre {QQ : Exit -> Act -> World -> Prop} (hQ : ∀ (vs : Nat -> Value) w, (∀ j, j < 9 -> VWre g o n tc k jj n1 n2 c1 c2 a1 a2 l1 l2 j (vs j) w) -> Fre.Kept w0 w -> QQ .normal ⟨#[.slice (some ⟨g, o, none⟩) n tc, u1, u2, u3, u4, .int .i64 (jj : Int), .int .i64 (k : Int), u7, u8, u9, u10, u11, u12, u13, u14, u15, u16, vs 0, vs 1, vs 2, vs 3, vs 4, vs 5, vs 6, vs 7, vs 8, u26, u27, u28], []⟩ w) : (Code.region 7 opsWre.1 true).wp prog QQ ⟨#[.slice (some ⟨g, o, none⟩) n tc, u1, u2, u3, u4, .int .i64 (jj : Int), .int .i64 (k : Int), u7, u8, u9, u10, u11, u12, u13, u14, u15, u16, u17, u18, u19, u20, u21, u22, u23, u24, u25, u26, u27, u28], []⟩ w0 := by
 refine Fre.region_kept 29 (by kernel_rfl) fitWre rfl (VWre g o n tc k jj n1 n2 c1 c2 a1 a2 l1 l2) (kpWre g o n tc k jj n1 n2 c1 c2 a1 a2 l1 l2) (fun i hi => ?_) (fun vs w h1 h2 => ?_)
 case refine_2 =>
  have h9 := hQ vs w (fun j hj => h1 j (by rw [sizeWre]; exact hj)) h2
  exact Fre.fe (p := fun t => QQ .normal ⟨t, []⟩ w) h9 (by kernel_rfl)
 rw [sizeWre] at hi;rcases cs9 hi with rfl | rfl | rfl | rfl | rfl | rfl | rfl | rfl | rfl
 ·exact stWre_0 hk hj hnn hg hc1 hc2 e1 e2 hn hb1 hb2 hz rfl
 ·exact stWre_1 hk hj hnn hg hc1 hc2 e1 e2 hn hb1 hb2 hz rfl
 ·exact stWre_2 hk hj hnn hg hc1 hc2 e1 e2 hn hb1 hb2 hz
 ·exact stWre_3 hk hj hnn hg hc1 hc2 e1 e2 hn hb1 hb2 hz
 ·exact stWre_4 hk hj hnn hg hc1 hc2 e1 e2 hn hb1 hb2 hz rfl
 ·exact stWre_5 hk hj hnn hg hc1 hc2 e1 e2 hn hb1 hb2 hz rfl
 ·exact stWre_6 hk hj hnn hg hc1 hc2 e1 e2 hn hb1 hb2 hz
 ·exact stWre_7 hk hj hnn hg hc1 hc2 e1 e2 hn hb1 hb2 hz
 ·exact stWre_8 hk hj hnn hg hc1 hc2 e1 e2 hn hb1 hb2 hz
end
def ramV : Option (Nat × Nat) -> Value
 | none => .tuple #[.int .i64 0, .int .i64 0, .bool false]
 | some p => .tuple #[.int .i64 (p.1 : Int), .int .i64 (p.2 : Int), .bool true]
theorem hit_none {L : List (List Nat)} {j : Nat} (h : ∀ t, t < j -> showsP (L.getD t []) (L.getD j []) = false) : hitN L j = none := by
 unfold hitN;rw [List.find?_eq_none]
 intro t ht;rw [h t (List.mem_range.1 ht)]
 simp
theorem hit_some {L : List (List Nat)} {i j : Nat} (hij : i < j) (h : ∀ t, t < i -> showsP (L.getD t []) (L.getD j []) = false) (h1 : showsP (L.getD i []) (L.getD j []) = true) : hitN L j = some i := by
 unfold hitN;rw [List.find?_eq_some_iff_getElem]
 refine ⟨h1, i, by rw [List.length_range]; exact hij, by simp, fun t ht => ?_⟩
 simp only [List.getElem_range]
 rw [h t ht]; rfl
theorem ramong_c (L : List (List Nat)) (n : Nat) (hL : L.length = n) (hn : n <= 100) (hl : ∀ l ∈ L, l.length <= 1000) (ta : Option Addr) (tc : Nat) (w : World) (hR : RowsB w ta L) :
  Calls prog 10 #[.slice ta n tc] w fun r w' => r = .returned (ramV (amongG L n)) /\ Below w.heap.size w w' := by
 have HR := Lib.hid hR;have HN := Lib.hid (And.intro hL (And.intro hn hl))
 clear hR hL hn hl
 go_enter func10, ntmps10
 go_wp2_with fail
 go_loopw [9] (fun v9 wr => ∃ j : Nat, j <= n /\ v9 = .int .i64 (j : Int) /\ Hid (amongG L j = none) /\ Hid (Below w.heap.size w wr)) (fun v9 _ => n - (intOf v9).toNat)
 case atStart => exact ⟨0, Nat.zero_le _, rfl, rfl, Below.refl _ _⟩
 case round =>
  obtain ⟨j, hj, rfl, hng, hbel⟩ := hrel
  generalize wr = wO at *
  by_cases hlt : j < n
  ·have dl : (j : Int) < (n : Int) := by omega
   have ej : IntKind.i64.wrap ((j : Int) + 1) = (j : Int) + 1 := by have := HN.out; exact IntWalk.i64_in _ (by omega)
   have hjl : j < L.length := by rw [HN.out.1]; exact hlt
   have hgj : L[j]? = some (L.getD j []) := by rw [List.getD_eq_getElem?_getD, List.getElem?_eq_getElem hjl]; rfl
   obtain ⟨g, o, vj, hta, hg, hcj, hsj⟩ := HR.out j _ hgj
   subst hta;obtain ⟨a2, c2, rfl, hsj⟩ := hsj
   obtain ⟨l2, hl2⟩ : ∃ l2, l2 = L.getD j [] := ⟨_, rfl⟩
   obtain ⟨n2, hn2⟩ : ∃ n2, n2 = l2.length := ⟨_, rfl⟩
   rw [<- hl2] at hcj hsj hgj;rw [<- hn2] at hcj;have HJ := Lib.hid (And.intro hl2 (And.intro hn2 (And.intro hg (And.intro hcj (And.intro hsj (HN.out.2.2 _ (List.mem_of_getElem? hgj)))))))
   have HNG := Lib.hid hng.out;have HLT := Lib.hid hlt;have HBO := Lib.hid hbel.out;clear hjl hgj hg hcj hsj hl2 hn2 hng hbel hlt hj;go_wp2_with fail
   go_loopw [6] (fun v6 wr => ∃ i : Nat, i <= j /\ v6 = .int .i64 (i : Int) /\ Hid (∀ t, t < i -> showsP (L.getD t []) (L.getD j []) = false) /\ Hid (Below w.heap.size w wr)) (fun v6 _ => j - (intOf v6).toNat)
   case atStart => exact ⟨0, Nat.zero_le _, rfl, Lib.hid fun t ht => absurd ht (Nat.not_lt_zero t), HBO⟩
   case round =>
    obtain ⟨i, hi, rfl, hall, hbel⟩ := hrel
    by_cases hij : i < j
    ·have dl2 : (i : Int) < (j : Int) := by omega
     have ei : IntKind.i64.wrap ((i : Int) + 1) = (i : Int) + 1 := by have := HN.out; have := HLT.out; exact IntWalk.i64_in _ (by omega)
     have hil : i < L.length := by rw [HN.out.1]; have := HLT.out; omega
     have hgi : L[i]? = some (L.getD i []) := by rw [List.getD_eq_getElem?_getD, List.getElem?_eq_getElem hil]; rfl
     obtain ⟨g', o', vi, hta, _, hci, hsi⟩ := HR.out i _ hgi
     injection hta with hta
     injection hta with e1 e2 _
     subst e1 e2
     obtain ⟨a1, c1, rfl, hsi⟩ := hsi
     obtain ⟨l1, hl1⟩ : ∃ l1, l1 = L.getD i [] := ⟨_, rfl⟩
     obtain ⟨n1, hn1⟩ : ∃ n1, n1 = l1.length := ⟨_, rfl⟩
     rw [<- hl1] at hci hsi hgi;rw [<- hn1] at hci;have hlm := HN.out.2.2 _ (List.mem_of_getElem? hgi)
     have HI := Lib.hid (And.intro hl1 (And.intro hn1 (And.intro hci (And.intro hsi hlm))))
     have HALL := Lib.hid hall.out;have HBR := Lib.hid hbel.out;have HIJ := Lib.hid hij;clear hil hgi hci hsi hl1 hn1 hlm hall hbel hij hi
     go_upto_region 7 with fail
     refine regionWre g o n tc i j n1 n2 c1 c2 a1 a2 l1 l2 wr (by have := HIJ.out; have := HLT.out; omega) HLT.out (by have := HN.out; omega) (Nat.lt_of_lt_of_le HJ.out.2.2.1 HBR.out.size) ((HBR.out.cell (p := ⟨g, o + i, none⟩) HJ.out.2.2.1).trans HI.out.2.2.1) ((HBR.out.cell (p := ⟨g, o + j, none⟩) HJ.out.2.2.1).trans HJ.out.2.2.2.1) HI.out.2.1.symm HJ.out.2.1.symm ⟨by have := HI.out; omega, by have := HJ.out; omega⟩ (HI.out.2.2.2.1.1.up HBR.out (Nat.le_refl _)) (HJ.out.2.2.2.2.1.1.up HBR.out (Nat.le_refl _)) ⟨HI.out.2.2.2.1.2.1, HJ.out.2.2.2.2.1.2.1⟩ ?_
     intro vs w5 hv hk5;have e8 : vs 8 = .bool (showsP l1 l2) := hv 8 (by omega)
     generalize vs 8 = x8 at e8
     obtain ⟨b, hb⟩ : ∃ b, b = showsP l1 l2 := ⟨_, rfl⟩
     rw [<- hb] at e8;subst e8;have HB5 : Hid (Below w.heap.size w w5) := HBR.out.trans (hk5.mono HBR.out.size)
     have HSB := Lib.hid hb;clear hv hk5 hb
     cases b with
     | true =>
      have HF : Hid (amongG L n = some (i, j)) := Lib.hid (amongG_mono L (j + 1) n (i, j) (by
       unfold amongG;rw [HNG.out, hit_some HIJ.out HALL.out (by rw [<- HI.out.1, <- HJ.out.1]; exact HSB.out.symm)]; rfl) HLT.out)
      go_wp2
      go_ret3
      exact ⟨by rw [HF.out]; rfl, HB5.out⟩
     | false =>
      have HA2 : Hid (∀ t, t < i + 1 -> showsP (L.getD t []) (L.getD j []) = false) := Lib.hid (fun t ht => by
       by_cases e : t < i
       ·exact HALL.out t e
       ·have : t = i := by omega
        rw [this, <- HI.out.1, <- HJ.out.1]; exact HSB.out.symm)
      go_wp2
      go_roundw
      case rel => exact ⟨i + 1, by have := HIJ.out; omega, by go_num, HA2, HB5⟩
      case measure => simp [intOf]; have := HIJ.out; omega
    ·have dl2 : ¬ (i : Int) < (j : Int) := by omega
     have hij2 : i = j := by omega
     have hal := hall.out
     rw [hij2] at hal;have HNG2 : Hid (amongG L (j + 1) = none) := Lib.hid (by unfold amongG; rw [HNG.out, hit_none hal]; rfl)
     have HBR := Lib.hid hbel.out;clear hal hij2 hall hbel hij hi;go_wp2
     go_roundw
     case rel => exact ⟨j + 1, by have := HLT.out; omega, by go_num, HNG2, HBR⟩
     case measure => simp [intOf]; have := HLT.out; omega
  ·have dl : ¬ (j : Int) < (n : Int) := by omega
   have hjn : j = n := by omega
   have hh := hng.out
   rw [hjn] at hh;have HH := Lib.hid hh;have HBO := Lib.hid hbel.out;clear hh hjn hng hbel hlt hj;go_wp2
   go_ret3
   exact ⟨by rw [HH.out]; rfl, HBO.out⟩
theorem am_ex : amongG [[97], [98], [97]] 3 = none := by decide +kernel
def ractE (p : Unit) : List Value := (fmtA none 0).toList
theorem ractRT2 : RowTy prog (fun p : Unit => .agg (fmtA none 0)) ractE 7 72 54 53 :=
 ⟨underlying54, ⟨.agg (fmtA none 0), by kernel_rfl, rfl⟩, fun x => rfl, fun x => rfl, fun x v hv => by simp [ractE, fmtA] at hv; rcases hv with rfl | rfl | rfl | rfl | rfl | rfl | rfl <;> rfl, by decide⟩
theorem built_set (k : Nat) : prog.built 49 [(0, .agg #[.int .i64 (3 : Nat), .int .i64 (12 : Nat)]), (1, .slice (some ⟨k, 0, none⟩) 16 16)] = some (setA 3 12 (.slice (some ⟨k, 0, none⟩) 16 16) 0) := by kernel_rfl
theorem built_ract : prog.built 53 [(0, .int .i64 0)] = some (fmtA none 0) := by kernel_rfl
theorem setRow_selfW (w : World) (g : Nat) (cur : Array Value) (t : TypeId) (fr : Nat × Nat) (hg : w.heap[g]? = some (.cells cur t fr)) : w.setRow g cur = w := by
 have hlt : g < w.heap.size := (Array.getElem?_eq_some_iff.1 hg).1
 have hv : w.heap[g] = .cells cur t fr := (Array.getElem?_eq_some_iff.1 hg).2
 have h1 : w.setRow g cur = { w with heap := (w.setRow g cur).heap } := rfl
 rw [h1];have h2 : (w.setRow g cur).heap = w.heap := by
  apply Array.ext_getElem?
  intro i
  by_cases e : i = g
  ·subst e
   rw [setRow_heap w i cur cur t fr hg, hg]
  ·exact setRow_other w g i cur e
 rw [h2]
theorem weK_len : weK.length = 16 := by decide
theorem find16_c (k : Nat) (v : Value) (w : World) (hk : w.heap[k]? = some (.cells (bA weK) 5 (0, 0))) (hv : OneAct w v) :
  Calls prog 15 #[.agg (setA 3 12 (.slice (some ⟨k, 0, none⟩) 16 16) 0), v] w fun r w' => r = .returned (.tuple #[.agg pairZ, .bool false, .int .i64 0]) /\ Below w.heap.size w w' := by
 obtain ⟨q, c1, a, c, rfl, h2, h3⟩ := hv
 have h := find0_c (n := 3) (x := 12) (c := 0) weK k 0 16 a c q c1 (by decide) weK_len (fun x hx => by unfold weK at hx; rw [List.eq_of_mem_replicate hx]; decide) (by rw [weK_len]; decide) (by decide) we_inj w (lt_blk hk) (fun j hj => by rw [Nat.zero_add, cells_at hk j]; exact bA_get weK j hj) h2 h3
 rw [weK_len] at h;exact h
def opsWaw : {o : Array Oper // some o = (Tryz.f8.body.bind (Fre.findR 2))} := ⟨_, rfl⟩
theorem fitWaw : Fre.fit .any opsWaw.1 51 = true := by kernel_rfl
theorem sizeWaw : opsWaw.1.size = 15 := by kernel_rfl
def VWaw (z : Nat) (i : Nat) (v : Value) (w : World) : Prop := match i with
 | 0 => v = .agg #[.int .i64 (3 : Nat), .int .i64 (12 : Nat)]
 | 1 => ∃ k, v = .slice (some ⟨k, 0, none⟩) 16 16 /\ w.heap[k]? = some (.cells (bA weK) 5 (0, 0))
 | 2 => ∃ k, v = .agg (setA 3 12 (.slice (some ⟨k, 0, none⟩) 16 16) 0) /\ w.heap[k]? = some (.cells (bA weK) 5 (0, 0))
 | 3 => v = .agg (fmtA none 0)
 | 4 => ∃ g, v = .slice (some ⟨g, 0, none⟩) 1 1 /\ w.heap[g]? = some (.cells (fmtA none 0) 53 (0, 0))
 | 5 => OneAct w v
 | 6 => v = .tuple #[.agg pairZ, .bool false, .int .i64 0]
 | 7 => v = .tuple #[.agg pairZ, .bool false, .int .i64 0]
 | 8 => v = .agg pairZ
 | 9 => v = .bool false
 | 10 => v = .int .i64 0
 | 11 => ∃ p, v = .pointer (some ⟨p, 0, none⟩) /\ w.heap[p]? = some (.cells pairZ 26 (0, 0))
 | 12 => True
 | 13 => v = .bool false
 | 14 => v = .int .i64 0
 | _ => True
section
variable {u0 u1 u2 u3 u4 u5 u6 u7 u8 u9 u10 u11 u12 u13 u14 u15 u16 u17 u18 u19 u20 u21 u22 u23 u24 u25 u26 u27 u28 u29 u30 u31 u32 u33 u34 u35 u36 u37 u38 u39 u40 u41 u42 u43 u44 u45 u46 u47 u48 u49 u50 : Value}
theorem kpWaw (z : Nat) : ∀ j v w w', j < opsWaw.1.size -> VWaw z j v w -> Fre.Kept w w' -> VWaw z j v w' := by
 intro j v w w' hj h hs
 rw [sizeWaw] at hj;rcases cs15 hj with rfl | rfl | rfl | rfl | rfl | rfl | rfl | rfl | rfl | rfl | rfl | rfl | rfl | rfl | rfl
 any_goals exact h
 ·change ∃ k, v = .slice (some ⟨k, 0, none⟩) 16 16 /\ w.heap[k]? = some (.cells (bA weK) 5 (0, 0)) at h
  obtain ⟨k, h1, h2⟩ := h
  exact ⟨k, h1, (hs.block _ (lt_blk h2)).trans h2⟩
 ·change ∃ k, v = .agg (setA 3 12 (.slice (some ⟨k, 0, none⟩) 16 16) 0) /\ w.heap[k]? = some (.cells (bA weK) 5 (0, 0)) at h
  obtain ⟨k, h1, h2⟩ := h
  exact ⟨k, h1, (hs.block _ (lt_blk h2)).trans h2⟩
 ·change ∃ g, v = .slice (some ⟨g, 0, none⟩) 1 1 /\ w.heap[g]? = some (.cells (fmtA none 0) 53 (0, 0)) at h
  obtain ⟨g, h1, h2⟩ := h
  exact ⟨g, h1, (hs.block _ (lt_blk h2)).trans h2⟩
 ·change OneAct w v at h
  exact h.up hs
 ·change ∃ p, v = .pointer (some ⟨p, 0, none⟩) /\ w.heap[p]? = some (.cells pairZ 26 (0, 0)) at h
  obtain ⟨p, h1, h2⟩ := h
  exact ⟨p, h1, (hs.block _ (lt_blk h2)).trans h2⟩
variable {z : Nat} {a0 : Act} {w0 : World} 
theorem stWaw_0 : Fre.StepOB prog opsWaw.1 a0 w0 (VWaw z) Fre.Kept 0 := by
 rintro E w hc hf hE hV hN hS _ ⟨⟩
 simp only [opsWaw, gA, gS, gZ]
 refine Fre.Does.enter (f := 16) (args := #[.int .u8 1]) (w' := w) ?_ ((lsmall1_c w).mono ?_)
 ·go_simp
 ·rintro e w' ⟨rfl, hk'⟩
  exact ⟨_, rfl, rfl, hk'⟩
theorem stWaw_1 : Fre.StepOB prog opsWaw.1 a0 w0 (VWaw z) Fre.Kept 1 := by
 rintro E w hc hf hE hV hN hS _ ⟨⟩
 simp only [opsWaw, gA, gS, gZ]
 have hr := mk_bytes 16 (by decide) w
 refine Fre.Does.value (v := .slice (some ⟨w.heap.size, 0, none⟩) 16 16) (w' := w.alloc (.cells (bA weK) 5)) ?_ ⟨⟨_, rfl, heap_new' _ _⟩, below_box _ _⟩
 unfold execOp;simp only [hc, Sem.run_bind]
 erw [hr]
 rfl
theorem stWaw_2 : Fre.StepOB prog opsWaw.1 a0 w0 (VWaw z) Fre.Kept 2 := by
 rintro E w hc hf hE hV hN hS _ ⟨⟩
 simp only [opsWaw, gA, gS, gZ]
 have d0 : E (.tmp 21) = .agg #[.int .i64 (3 : Nat), .int .i64 (12 : Nat)] := hV 0 21 (by kernel_rfl) (by kernel_rfl)
 have d1 := hV 1 22 (by kernel_rfl) (by kernel_rfl)
 replace d1 : (fun v : Value => ∃ k, v = .slice (some ⟨k, 0, none⟩) 16 16 /\ w.heap[k]? = some (.cells (bA weK) 5 (0, 0))) (E (.tmp 22)) := d1
 simp only at d1
 obtain ⟨k, d1, hk⟩ := d1
 have hb2 := run_build (P := prog) w 49 #[(0, .agg #[.int .i64 (3 : Nat), .int .i64 (12 : Nat)]), (1, .slice (some ⟨k, 0, none⟩) 16 16)] _ (built_set k)
 refine Fre.Does.value (v := .agg (setA 3 12 (.slice (some ⟨k, 0, none⟩) 16 16) 0)) (w' := w) ?_ ⟨⟨_, rfl, hk⟩, Fre.Kept.refl _⟩
 unfold execOp;simp only [d0, d1, List.map_toArray, List.map_cons, List.map_nil, Sem.run_bind, hb2, Result.andThen_ok]
 rfl
theorem stWaw_3 : Fre.StepOB prog opsWaw.1 a0 w0 (VWaw z) Fre.Kept 3 := by
 rintro E w hc hf hE hV hN hS _ ⟨⟩
 simp only [opsWaw, gA, gS, gZ]
 have hb2 := run_build (P := prog) w 53 #[(0, .int .i64 0)] _ built_ract
 refine Fre.dv (v := .agg (fmtA none 0)) ?_
 unfold execOp;simp only [hc, List.map_toArray, List.map_cons, List.map_nil, Sem.run_bind, hb2, Result.andThen_ok]
 rfl
theorem stWaw_4 : Fre.StepOB prog opsWaw.1 a0 w0 (VWaw z) Fre.Kept 4 := by
 rintro E w hc hf hE hV hN hS _ ⟨⟩
 simp only [opsWaw, gA, gS, gZ]
 have d3 : E (.tmp 24) = .agg (fmtA none 0) := hV 3 24 (by kernel_rfl) (by kernel_rfl)
 refine Fre.Does.value (v := .slice (some ⟨w.heap.size, 0, none⟩) 1 1) (w' := w.alloc (.cells (fmtA none 0) 53)) ?_ ⟨⟨_, rfl, heap_new' _ _⟩, below_box _ _⟩
 exact ractRT2.run_build (w := w) E _ (by decide) (.tmp 24) rfl (p := ()) d3
theorem stWaw_5 : Fre.StepOB prog opsWaw.1 a0 w0 (VWaw z) Fre.Kept 5 := by
 rintro E w hc hf hE hV hN hS _ ⟨⟩
 simp only [opsWaw, gA, gS, gZ]
 have d4 := hV 4 25 (by kernel_rfl) (by kernel_rfl)
 replace d4 : (fun v : Value => ∃ g, v = .slice (some ⟨g, 0, none⟩) 1 1 /\ w.heap[g]? = some (.cells (fmtA none 0) 53 (0, 0))) (E (.tmp 25)) := d4
 simp only at d4
 obtain ⟨g, d4, hg⟩ := d4
 refine Fre.Does.enter (f := 17) (args := #[.slice (some ⟨g, 0, none⟩) 1 1]) (w' := w) ?_ ((ours0_c g 1 w hg).mono ?_)
 ·go_simp
 ·rintro e w' ⟨v', rfl, h9, hk'⟩
  exact ⟨_, rfl, h9, hk'⟩
theorem stWaw_6 : Fre.StepOB prog opsWaw.1 a0 w0 (VWaw z) Fre.Kept 6 := by
 rintro E w hc hf hE hV hN hS _ ⟨⟩
 simp only [opsWaw, gA, gS, gZ]
 have d2 := hV 2 23 (by kernel_rfl) (by kernel_rfl)
 replace d2 : (fun v : Value => ∃ k, v = .agg (setA 3 12 (.slice (some ⟨k, 0, none⟩) 16 16) 0) /\ w.heap[k]? = some (.cells (bA weK) 5 (0, 0))) (E (.tmp 23)) := d2
 simp only at d2
 have d5 := hV 5 26 (by kernel_rfl) (by kernel_rfl)
 replace d5 : (fun v : Value => OneAct w v) (E (.tmp 26)) := d5
 simp only at d5
 obtain ⟨k, d2, hk⟩ := d2
 obtain ⟨y, hy⟩ : ∃ y, y = E (.tmp 26) := ⟨_, rfl⟩
 rw [<- hy] at d5
 replace hy := hy.symm
 refine Fre.Does.enter (f := 15) (args := #[.agg (setA 3 12 (.slice (some ⟨k, 0, none⟩) 16 16) 0), y]) (w' := w) ?_ ((find16_c k y w hk d5).mono ?_)
 ·go_simp
 ·rintro e w' ⟨rfl, hk'⟩
  exact ⟨_, rfl, rfl, hk'⟩
theorem stWaw_7 : Fre.StepOB prog opsWaw.1 a0 w0 (VWaw z) Fre.Kept 7 := by
 rintro E w hc hf hE hV hN hS _ ⟨⟩
 simp only [opsWaw, gA, gS, gZ]
 have d6 : E (.tmp 27) = .tuple #[.agg pairZ, .bool false, .int .i64 0] := hV 6 27 (by kernel_rfl) (by kernel_rfl)
 refine Fre.dv (v := .tuple #[.agg pairZ, .bool false, .int .i64 0]) ?_
 go_simp
theorem stWaw_8 : Fre.StepOB prog opsWaw.1 a0 w0 (VWaw z) Fre.Kept 8 := by
 rintro E w hc hf hE hV hN hS _ ⟨⟩
 simp only [opsWaw, gA, gS, gZ]
 have d7 : E (.tmp 20) = .tuple #[.agg pairZ, .bool false, .int .i64 0] := hV 7 20 (by kernel_rfl) (by kernel_rfl)
 refine Fre.dv (v := .agg pairZ) ?_
 go_simp
theorem stWaw_9 : Fre.StepOB prog opsWaw.1 a0 w0 (VWaw z) Fre.Kept 9 := by
 rintro E w hc hf hE hV hN hS _ ⟨⟩
 simp only [opsWaw, gA, gS, gZ]
 have d7 : E (.tmp 20) = .tuple #[.agg pairZ, .bool false, .int .i64 0] := hV 7 20 (by kernel_rfl) (by kernel_rfl)
 refine Fre.dv (v := .bool false) ?_
 go_simp
theorem stWaw_10 : Fre.StepOB prog opsWaw.1 a0 w0 (VWaw z) Fre.Kept 10 := by
 rintro E w hc hf hE hV hN hS _ ⟨⟩
 simp only [opsWaw, gA, gS, gZ]
 have d7 : E (.tmp 20) = .tuple #[.agg pairZ, .bool false, .int .i64 0] := hV 7 20 (by kernel_rfl) (by kernel_rfl)
 refine Fre.dv (v := .int .i64 0) ?_
 go_simp
theorem stWaw_11 : Fre.StepOB prog opsWaw.1 a0 w0 (VWaw z) Fre.Kept 11 := by
 rintro E w hc hf hE hV hN hS _ ⟨⟩
 simp only [opsWaw, gA, gS, gZ]
 refine Fre.Does.value (v := .pointer (some ⟨w.heap.size, 0, none⟩)) (w' := w.alloc (.cells pairZ 26)) ?_ ⟨⟨_, rfl, heap_new' _ _⟩, below_box _ _⟩
 show _ = Result.ok (Next.value _) (w.alloc (.cells #[.slice none 0 0, .slice none 0 0] 26))
 go_simp
theorem stWaw_12 : Fre.StepOB prog opsWaw.1 a0 w0 (VWaw z) Fre.Kept 12 := by
 rintro E w hc hf hE hV hN hS _ ⟨⟩
 simp only [opsWaw, gA, gS, gZ]
 have d11 := hV 11 3 (by kernel_rfl) (by kernel_rfl)
 replace d11 : (fun v : Value => ∃ p, v = .pointer (some ⟨p, 0, none⟩) /\ w.heap[p]? = some (.cells pairZ 26 (0, 0))) (E (.tmp 3)) := d11
 simp only at d11
 have d8 : E (.tmp 28) = .agg pairZ := hV 8 28 (by kernel_rfl) (by kernel_rfl)
 obtain ⟨p, d11, hp⟩ := d11
 refine Fre.Does.skip (w' := w) ?_ ⟨trivial, Fre.Kept.refl _⟩
 have hr := run_storeVar_row (P := prog) w p 26 26 pairZ pairZ hp pair2 rfl (by rw [<- Array.all_toList]; simp [pairZ, Value.oneCell'])
 rw [setRow_selfW w p pairZ _ _ hp] at hr
 unfold execOp;simp only [d11, d8, Instr.storeAt, Instr.sureAddr, Sem.run_bind, Sem.run_pure, Result.andThen_ok, hr]
theorem stWaw_13 : Fre.StepOB prog opsWaw.1 a0 w0 (VWaw z) Fre.Kept 13 := by
 rintro E w hc hf hE hV hN hS _ ⟨⟩
 simp only [opsWaw, gA, gS, gZ]
 have d9 : E (.tmp 29) = .bool false := hV 9 29 (by kernel_rfl) (by kernel_rfl)
 refine Fre.dv (v := .bool false) ?_
 go_simp
theorem stWaw_14 : Fre.StepOB prog opsWaw.1 a0 w0 (VWaw z) Fre.Kept 14 := by
 rintro E w hc hf hE hV hN hS _ ⟨⟩
 simp only [opsWaw, gA, gS, gZ]
 have d10 : E (.tmp 30) = .int .i64 0 := hV 10 30 (by kernel_rfl) (by kernel_rfl)
 refine Fre.dv (v := .int .i64 0) ?_
 go_simp
variable (z w0)
theorem regionWaw {QQ : Exit -> Act -> World -> Prop} (hQ : ∀ (vs : Nat -> Value) w, (∀ j, j < 15 -> VWaw z j (vs j) w) -> Fre.Kept w0 w -> QQ .normal ⟨#[u0, u1, u2, vs 11, vs 13, vs 14, u6, u7, u8, u9, u10, u11, u12, u13, u14, u15, u16, u17, u18, u19, vs 7, vs 0, vs 1, vs 2, vs 3, vs 4, vs 5, vs 6, vs 8, vs 9, vs 10, u31, u32, u33, u34, u35, u36, u37, u38, u39, u40, u41, u42, u43, u44, u45, u46, u47, u48, u49, u50], []⟩ w) : (Code.region 2 opsWaw.1 true).wp prog QQ ⟨#[u0, u1, u2, u3, u4, u5, u6, u7, u8, u9, u10, u11, u12, u13, u14, u15, u16, u17, u18, u19, u20, u21, u22, u23, u24, u25, u26, u27, u28, u29, u30, u31, u32, u33, u34, u35, u36, u37, u38, u39, u40, u41, u42, u43, u44, u45, u46, u47, u48, u49, u50], []⟩ w0 := by
 refine Fre.region_keptO 51 (by kernel_rfl) fitWaw rfl (VWaw z) (kpWaw z) (fun i hi => ?_) (fun vs w h1 h2 => ?_)
 case refine_2 =>
  have h9 := hQ vs w (fun j hj => h1 j (by rw [sizeWaw]; exact hj)) h2
  exact Fre.fe (p := fun t => QQ .normal ⟨t, []⟩ w) h9 (by kernel_rfl)
 rw [sizeWaw] at hi;rcases cs15 hi with rfl | rfl | rfl | rfl | rfl | rfl | rfl | rfl | rfl | rfl | rfl | rfl | rfl | rfl | rfl
 ·exact stWaw_0
 ·exact stWaw_1
 ·exact stWaw_2
 ·exact stWaw_3
 ·exact stWaw_4
 ·exact stWaw_5
 ·exact stWaw_6
 ·exact stWaw_7
 ·exact stWaw_8
 ·exact stWaw_9
 ·exact stWaw_10
 ·exact stWaw_11
 ·exact stWaw_12
 ·exact stWaw_13
 ·exact stWaw_14
end
theorem wpList_convR {P : Program} {ops : Array Oper} {rest : List Oper} {o : Oper} {A : Act} {w w1 : World} {Q : Exit -> Act -> World -> Prop} (hgd : o.guard = none) (t u : TypeId) (x : Operand) (ho : o.op = .convert t u x) {v v' : Value} (hx : A.eval x = v) (hr : (convert t u v).run P w = .ok v' w1) (hK : wpList P ops Q rest (A.put o.dst v') w1) : wpList P ops Q (o :: rest) A w :=
 wpList_plain hgd fun _ hk => by
  unfold Oper.wp execOp
  simp only [ho, hx, Sem.run_bind, hr, Result.andThen_ok]; exact hk _ _ hK
theorem built_set0 : prog.built 49 [] = some (setA 0 0 (.slice none 0 0) 0) := by kernel_rfl
theorem pairZ_one : pairZ.all (·.oneCell') = true := by
 rw [<- Array.all_toList]; simp [pairZ, Value.oneCell']
theorem const1 (x : Nat) (B : Nat) (w : World) (hB : B <= w.heap.size) : ∃ w', (convert 22 22 (.slice (some ⟨w.heap.size, 0, none⟩) 1 1)).run prog (w.alloc (.cells #[.int .u8 (x : Int)] 5)) = .ok (.slice (some ⟨w.heap.size, 0, none⟩) 1 1) w' /\ Fre.KeptC B (w.alloc (.cells #[.int .u8 (x : Int)] 5)) w' /\ w'.cell? ⟨w.heap.size, 0, none⟩ = some (.int .u8 (x : Int)) /\ w.heap.size < w'.heap.size /\ (∀ p v, p.block < w.heap.size -> w.cell? p = some v -> w'.cell? p = some v) /\ Below B w w' := by
 have hn := heap_new' w (.cells #[.int .u8 (x : Int)] 5)
 obtain ⟨w', hr, hk⟩ := run_sameS (w := w.alloc (.cells #[.int .u8 (x : Int)] 5)) (q := w.heap.size) (n := 1) (B := B) (m := 1) hB (by simp only [World.shape?, hn]; rfl)
 have hbx := below_box w (.cells #[.int .u8 (x : Int)] 5)
 refine ⟨w', hr, hk, hk.c _ _ (by rw [cells_at hn 0]; rfl), Nat.lt_of_lt_of_le (lt_blk hn) hk.b.size, fun p v hp hv => hk.c _ _ ?_, (hbx.mono hB).trans hk.b⟩
 obtain ⟨pb, po, ps⟩ := p
 simp only [World.cell?] at hv ⊢
 rw [hbx.block pb hp]; exact hv
theorem awake29_c (w : World) : Calls prog 8 #[] w fun r w' => r = .returned (.bool true) /\ Below w.heap.size w w' := by
 obtain ⟨w2, hr2, _, hc2, hl2, hk2, hb2⟩ := const1 97 w.heap.size w (Nat.le_refl _)
 obtain ⟨w4, hr4, _, hc4, hl4, hk4, hb4⟩ := const1 98 w.heap.size w2 hb2.size
 obtain ⟨w6, hr6, _, hc6, hl6, hk6, hb6⟩ := const1 97 w.heap.size w4 (Nat.le_trans hb2.size hb4.size)
 obtain ⟨q1, hq1⟩ : ∃ q1, q1 = w.heap.size := ⟨_, rfl⟩
 obtain ⟨q2, hq2⟩ : ∃ q2, q2 = w2.heap.size := ⟨_, rfl⟩
 obtain ⟨q3, hq3⟩ : ∃ q3, q3 = w4.heap.size := ⟨_, rfl⟩
 obtain ⟨w7, hw7⟩ : ∃ w7, w7 = w6.alloc (.cells #[.slice (some ⟨q1, 0, none⟩) 1 1, .slice (some ⟨q2, 0, none⟩) 1 1, .slice (some ⟨q3, 0, none⟩) 1 1] 22) := ⟨_, rfl⟩
 have hx7 := heap_new' w6 (.cells #[.slice (some ⟨q1, 0, none⟩) 1 1, .slice (some ⟨q2, 0, none⟩) 1 1, .slice (some ⟨q3, 0, none⟩) 1 1] 22)
 have hb67 := below_box w6 (.cells #[.slice (some ⟨q1, 0, none⟩) 1 1, .slice (some ⟨q2, 0, none⟩) 1 1, .slice (some ⟨q3, 0, none⟩) 1 1] 22)
 rw [<- hw7] at hx7 hb67;have hB6 : Below w.heap.size w w6 := hb2.trans (hb4.trans hb6)
 have hB7 : Below w.heap.size w w7 := hB6.trans (hb67.mono hB6.size)
 have s1 : w7.cell? ⟨q1, 0, none⟩ = some (.int .u8 (97 : Nat)) := by
  rw [hq1];exact (hb67.cell (p := ⟨w.heap.size, 0, none⟩) (by simp only; omega)).trans (hk6 _ _ (by simp only; omega) (hk4 _ _ (by simp only; omega) hc2))
 have s2 : w7.cell? ⟨q2, 0, none⟩ = some (.int .u8 (98 : Nat)) := by
  rw [hq2];exact (hb67.cell (p := ⟨w2.heap.size, 0, none⟩) (by simp only; omega)).trans (hk6 _ _ (by simp only; omega) hc4)
 have s3 : w7.cell? ⟨q3, 0, none⟩ = some (.int .u8 (97 : Nat)) := by
  rw [hq3];exact (hb67.cell (p := ⟨w4.heap.size, 0, none⟩) (by simp only; omega)).trans hc6
 have hsl : ∀ (q x : Nat), x < 256 -> q < w7.heap.size -> w7.cell? ⟨q, 0, none⟩ = some (.int .u8 (x : Int)) -> SlB w7 w7.heap.size (.slice (some ⟨q, 0, none⟩) 1 1) [x] := fun q x hx hq hc =>
  ⟨some ⟨q, 0, none⟩, 1, rfl, ⟨fun y hy => by rw [List.mem_singleton.1 hy]; exact hx, fun _ => ⟨q, 0, rfl, Nat.le_refl _, hq, fun j hj => by
   have hj0 : j = 0 := by simp at hj; exact hj
   subst hj0; exact hc⟩⟩, fun e => (by cases e), Nat.le_refl _, by decide, fun p e => by injection e with e; rw [<- e]; exact ⟨hq, rfl⟩⟩
 have hs67 := hb67.size
 have hrows : RowsB w7 (some ⟨w6.heap.size, 0, none⟩) [[97], [98], [97]] := by
  intro i l hi;have hi3 : i < 3 := (List.getElem?_eq_some_iff.1 hi).1
  have hc3 : i = 0 \/ i = 1 \/ i = 2 := by omega
  have hlx := lt_blk hx7
  rcases hc3 with rfl | rfl | rfl
  ·obtain rfl : [97] = l := by simpa using hi
   exact ⟨_, _, _, rfl, hlx, by rw [cells_at hx7]; rfl, (hsl q1 97 (by decide) (by omega) s1).at⟩
  ·obtain rfl : [98] = l := by simpa using hi
   exact ⟨_, _, _, rfl, hlx, by rw [cells_at hx7]; rfl, (hsl q2 98 (by decide) (by omega) s2).at⟩
  ·obtain rfl : [97] = l := by simpa using hi
   exact ⟨_, _, _, rfl, hlx, by rw [cells_at hx7]; rfl, (hsl q3 97 (by decide) (by omega) s3).at⟩
 have HAM := Lib.hid (among_c [[97], [98], [97]] 3 rfl (by decide) (by decide) (some ⟨w6.heap.size, 0, none⟩) 3 w7 hrows)
 rw [<- hq1] at hr2;rw [<- hq2] at hr4;rw [<- hq3] at hr6;have HR2 := Lib.hid hr2;have HR4 := Lib.hid hr4;have HR6 := Lib.hid hr6;have HB7 := Lib.hid hB7;have HW7 := Lib.hid hw7;have HQ := Lib.hid (And.intro hq1 (And.intro hq2 hq3))
 clear hr2 hr4 hr6 hc2 hc4 hc6 hl2 hl4 hl6 hk2 hk4 hk6 hb2 hb4 hb6 hw7 hx7 hb67 hB6 hB7 s1 s2 s3 hsl hs67 hrows hq1 hq2 hq3
 go_enter func8, ntmps8
 go_wp2_with (first
  | (refine wpList_convR rfl 22 22 (.tmp 10) rfl rfl (by rw [HQ.out.1] at HR2; exact HR2.out) ?_)
  | (refine wpList_convR rfl 22 22 (.tmp 12) rfl rfl (by rw [HQ.out.2.1] at HR4; exact HR4.out) ?_)
  | (refine wpList_convR rfl 22 22 (.tmp 14) rfl rfl (by rw [HQ.out.2.2] at HR6; exact HR6.out) ?_)
  | fail)
 rw [<- HQ.out.1, <- HQ.out.2.1, <- HQ.out.2.2, <- HW7.out]
 refine HAM.out.mono ?_
 rintro r w8 ⟨rv, rfl, ham, hb8⟩
 unfold AmR at ham
 rw [am_ex] at ham;have ham : rv = .tuple #[.agg pairZ, .bool false] := ham
 subst ham;have HB8 : Hid (Below w.heap.size w w8) := HB7.out.trans (hb8.mono HB7.out.size)
 clear hb8 HAM HR2 HR4 HR6 HB7 HW7 HQ
 go_upto_region 2 with (first
  | (refine wpList_store_row rfl 26 (.tmp 1) (.tmp 18) rfl w8.heap.size pairZ rfl rfl 26 pairZ (World.alloc_heap_new _ _) pair2 rfl pairZ_one ?_)
  | fail)
 generalize hW9 : World.setRow _ _ _ = w9
 have HB9 : Hid (Below w.heap.size w w9) := Lib.hid (by rw [<- hW9]; exact below_setRow (below_al HB8.out _) HB8.out.size _)
 clear hW9 HB8;refine regionWaw 0 w9 ?_
 intro vs w10 hv hk10;have e13 : vs 13 = .bool false := hv 13 (by omega)
 have e14 : vs 14 = .int .i64 0 := hv 14 (by omega)
 generalize vs 13 = x13 at e13
 generalize vs 14 = x14 at e14
 subst e13 e14
 have HB10 : Hid (Below w.heap.size w w10) := HB9.out.trans (hk10.mono HB9.out.size)
 have HFX := Lib.hid (fun (lv : Value) w => findX_c (n := 0) (x := 0) (c := 0) (kl := 0) (kc := 0) none (by decide) (by decide) lv w)
 obtain ⟨SA, hSA⟩ : ∃ SA, SA = setA 0 0 (.slice none 0 0) 0 := ⟨_, rfl⟩
 have HBS := Lib.hid built_set0;rw [<- hSA] at HFX HBS;clear hv hk10 HB9 hSA;go_wp2_with (first
  | (refine wpList_build_c rfl 49 [] rfl SA ?_ ?_; exact HBS.out)
  | fail)
 refine (HFX.out _ _).mono ?_
 rintro r w11 ⟨rfl, hb11⟩
 have HB11 : Hid (Below w.heap.size w w11) := HB10.out.trans (hb11.mono HB10.out.size)
 clear hb11 HFX HB10
 go_upto_region 4 with (first
  | (refine wpList_store_row rfl 26 (.tmp 6) (.tmp 34) rfl w11.heap.size pairZ rfl rfl 26 pairZ (World.alloc_heap_new _ _) pair2 rfl pairZ_one ?_)
  | fail)
 generalize hW12 : World.setRow _ _ _ = w12
 have HB12 : Hid (Below w.heap.size w w12) := Lib.hid (by rw [<- hW12]; exact below_setRow (below_al HB11.out _) HB11.out.size _)
 clear hW12 HB11;go_wp2
 go_ret
 exact ⟨rfl, HB12.out⟩
abbrev Sl3 := Option Addr × Nat × Nat
def s3V (x : Sl3) : Value := .slice x.1 x.2.1 x.2.2
def s3E (x : Sl3) : List Value := [s3V x]
theorem s3RT : RowTy prog s3V s3E 1 24 23 22 :=
 ⟨underlying23, ⟨.slice none 0 0, by kernel_rfl, rfl⟩, fun x => rfl, fun x => rfl, fun x v hv => by simp [s3E] at hv; subst hv; rfl, by decide⟩
theorem u8RT2 : RowTy prog (fun x : Nat => .int .u8 (x : Int)) (fun x => [.int .u8 (x : Int)]) 1 1 22 5 :=
 ⟨underlying22, ⟨.int .u8 0, by kernel_rfl, rfl⟩, fun x => rfl, fun x => rfl, fun x v hv => by simp at hv; subst hv; rfl, by decide⟩
theorem BytesAt.takeW {w : World} {a : Option Addr} {c : Nat} {l : List Nat} (h : BytesAt w a c l) (n : Nat) : BytesAt w a c (l.take n) := by
 refine ⟨fun x hx => h.1 x (List.mem_of_mem_take hx), fun h0 => ?_⟩
 rw [List.length_take] at h0;have h1 : 0 < l.length := by omega
 obtain ⟨g, o, e1, e2, e3, e4⟩ := h.2 h1
 refine ⟨g, o, e1, by rw [List.length_take]; omega, e3, fun j hj => ?_⟩
 rw [List.length_take] at hj;rw [e4 j (by omega), List.getD_eq_getElem?_getD, List.getD_eq_getElem?_getD, List.getElem?_take_of_lt (by omega)]
def shortL (L : List (List Nat)) : List (List Nat) := (L.take 12).map (·.take 80)
theorem shortL_len (L : List (List Nat)) : (shortL L).length = min 12 L.length := by simp [shortL]
theorem shortL_each (L : List (List Nat)) : ∀ l ∈ shortL L, l.length <= 80 := by
 intro l hl;obtain ⟨x, _, rfl⟩ := List.mem_map.1 hl
 rw [List.length_take]; omega
def Sh3 (w : World) (M : List Sl3) (L : List (List Nat)) : Prop := M.length = L.length /\ ∀ (i : Nat) (x : Sl3) (l : List Nat), M[i]? = some x -> L[i]? = some l -> SlAt w (s3V x) l
theorem Sh3.push {w : World} {M : List Sl3} {L : List (List Nat)} (h : Sh3 w M L) {x : Sl3} {l : List Nat} (hx : SlAt w (s3V x) l) : Sh3 w (M ++ [x]) (L ++ [l]) := by
 refine ⟨by simp [h.1], fun i y k hy hk => ?_⟩
 by_cases hi : i < M.length
 ·rw [List.getElem?_append_left hi] at hy
  rw [List.getElem?_append_left (by rw [<- h.1]; exact hi)] at hk
  exact h.2 i y k hy hk
 ·rw [List.getElem?_append_right (by omega)] at hy
  rw [List.getElem?_append_right (by rw [<- h.1]; omega)] at hk
  have h0 : i - M.length = 0 := by
   have := (List.getElem?_eq_some_iff.1 hy).1
   simp at this; omega
  rw [h0] at hy;rw [<- h.1, h0] at hk
  cases hy; cases hk; exact hx
theorem short_step (L : List (List Nat)) (j : Nat) (l : List Nat) (h : L[j]? = some l) : (L.take (j + 1)).map (·.take 80) = (L.take j).map (·.take 80) ++ [l.take 80] := by
 rw [List.take_add_one, h]; simp
theorem take80 (l : List Nat) (h : l.length <= 80) : l.take 80 = l := List.take_of_length_le h
theorem sh_rows {w w' : World} {M : List Sl3} {L : List (List Nat)} {a : Option Addr} {c n B : Nat} (h : Sh3 w M L) (hn : n = M.length) (hown : w'.ownsRow B 22 1 (.slice a n c) n (cellsK s3E M)) (hb : Below w.heap.size w w') : RowsB w' a L := by
 have hR := rowK_own (enc := s3E) (k := 1) (fun x => rfl) Nat.one_pos hown
 intro i l hl;have hi : i < M.length := by rw [h.1]; exact (List.getElem?_eq_some_iff.1 hl).1
 have hg := List.getElem?_eq_getElem hi
 obtain ⟨g, o, e1, e2, e3⟩ := hR i _ hg
 have e4 := e3 0 _ rfl
 rw [Nat.mul_one, Nat.add_zero] at e4
 exact ⟨g, o, _, e1, e2, e4, (h.2 i _ l hg hl).up hb (Nat.le_refl _)⟩
def ShR (L : List (List Nat)) (v : Value) (w : World) : Prop := ∃ a c, v = .slice a (shortL L).length c /\ RowsB w a (shortL L)
theorem short_c (L : List (List Nat)) (n : Nat) (hL : L.length = n) (hn : n < 2 ^ 63) (ta : Option Addr) (tc : Nat) (w : World) (hR : RowsB w ta L) (hl : ∀ l ∈ L, l.length < 2 ^ 63) :
  Calls prog 5 #[.slice ta n tc] w fun r w' => ∃ v, r = .returned v /\ ShR L v w' /\ Below w.heap.size w w' := by
 have HR := Lib.hid hR;have HN := Lib.hid (And.intro hL (And.intro hn hl))
 clear hR hL hn hl
 go_enter func5, ntmps5
 go_wp2_with fail
 go_loopw [3, 8] (fun v3 v8 wr => ∃ j : Nat, j <= n /\ j <= 12 /\ v8 = .int .i64 (j : Int) /\ Hid (∃ M : List Sl3, Sh3 w M ((L.take j).map (·.take 80)) /\ wr.ownsRow w.heap.size 22 1 v3 j (cellsK s3E M)) /\ Hid (Below w.heap.size w wr)) (fun _ v8 _ => n - (intOf v8).toNat)
 case atStart => exact ⟨0, Nat.zero_le _, Nat.zero_le _, rfl, Lib.hid ⟨[], ⟨rfl, fun i x l h => by cases h⟩, World.ownsRow_nil _ _ _ _⟩, Lib.hid (Below.refl _ _)⟩
 case round =>
  obtain ⟨j, hj, hj12, rfl, hM, hbel⟩ := hrel
  obtain ⟨v3, hv3⟩ : ∃ v3, v3 = u3 := ⟨_, rfl⟩
  rw [<- hv3] at hM ⊢
  clear hv3;obtain ⟨M, hsh, hown⟩ := hM.out
  have hml : M.length = j := by
   have h1 := hsh.1
   have h2 := HN.out.1
   rw [List.length_map, List.length_take] at h1; omega
  obtain ⟨a3, c3, hv3⟩ := own_sl hown
  subst hv3;have hfinal : (n <= j \/ 12 <= j) -> (shortL L).length = j /\ RowsB wr a3 (shortL L) := fun hc => by
   have h1 := HN.out.1
   have hlen : (shortL L).length = j := by rw [shortL_len]; omega
   refine ⟨hlen, ?_⟩
   have he : shortL L = (L.take j).map (·.take 80) := by
    unfold shortL;rcases hc with hc | hc
    ·rw [List.take_of_length_le (by omega), List.take_of_length_le (by omega)]
    ·rw [show j = 12 by omega]
   rw [he];exact sh_rows hsh hml.symm hown hbel.out
  have HFIN := Lib.hid hfinal;have HSH := Lib.hid hsh;have HOWN := Lib.hid hown;have HML := Lib.hid hml;have HBR := Lib.hid hbel.out;have HJ := Lib.hid (And.intro hj hj12)
  clear hfinal hsh hown hml hbel hM
  by_cases hlt : j < n
  ·have dl : (j : Int) < (n : Int) := by omega
   have d0 : ¬ (j : Int) < 0 := by omega
   have hjl : j < L.length := by rw [HN.out.1]; exact hlt
   have hgl := List.getElem?_eq_getElem hjl
   obtain ⟨l, hld⟩ : ∃ l, l = L[j] := ⟨_, rfl⟩
   rw [<- hld] at hgl;have hl63 := HN.out.2.2 l (by rw [hld]; exact List.getElem_mem _)
   obtain ⟨g, o, v, hta, hg, hcell, hs⟩ := HR.out j l hgl
   subst hta;have hsW := hs
   obtain ⟨a, c, rfl, hB, hz, hle, hmx⟩ := hs
   have cx : wr.cell? ⟨g, o + j, none⟩ = some (.slice a l.length c) := (HBR.out.cell (p := ⟨g, o + j, none⟩) hg).trans hcell
   obtain ⟨ln, hln⟩ : ∃ ln, ln = l.length := ⟨_, rfl⟩
   rw [<- hln] at cx hle hsW hl63;have HS := Lib.hid (And.intro hB (And.intro hz (And.intro hle hmx)))
   have HG := Lib.hid hgl;have HLN := Lib.hid hln;have HLT := Lib.hid hlt;have HL63 := Lib.hid hl63;clear hg hcell hsW hB hz hmx hgl hld hjl hlt
   by_cases h12 : j < 12
   ·have d12 : ¬ (j : Int) >= 12 := by omega
    have ej : IntKind.i64.wrap ((j : Int) + 1) = (j : Int) + 1 := IntWalk.i64_in _ (by omega)
    have H12 := Lib.hid h12;clear h12 hj12 hj hln hl63
    by_cases h80 : 80 < ln
    ·have d80 : (ln : Int) > 80 := by omega
     have htk : SlAt w (s3V ((a, 80, c) : Sl3)) (l.take 80) := by
      have h1 := HLN.out
      refine ⟨a, c, by rw [List.length_take, show min 80 l.length = 80 by omega]; rfl, HS.out.1.takeW 80, HS.out.2.1, by rw [List.length_take]; omega, HS.out.2.2.2⟩
     have HC80 : Hid (80 <= c) := Lib.hid (by omega)
     clear h80 hle;obtain ⟨w5, hw5⟩ : ∃ w5, w5 = wr.alloc (.cells (s3E (a, 80, c)).toArray 22) := ⟨_, rfl⟩
     have hrow : RowK s3E 1 w5 (some ⟨wr.heap.size, 0, none⟩) [((a, 80, c) : Sl3)] := by rw [hw5]; exact rowK_one (fun _ => rfl) (heap_new' _ _)
     have hown5 : w5.ownsRow w.heap.size 22 1 (.slice a3 j c3) j (cellsK s3E M) := by
      rw [hw5]; exact own_keepS HOWN.out (fun k hk => (below_box _ _).block k (HOWN.out.lt k hk).2)
     have hb5 : Below w.heap.size w w5 := by rw [hw5]; exact HBR.out.trans ((below_box _ _).mono HBR.out.size)
     have HROW := Lib.hid hrow;have HOWN5 := Lib.hid hown5;have HB5 := Lib.hid hb5;have HTK := Lib.hid htk;have HSZ : Hid (w.heap.size <= w5.heap.size) := Lib.hid hb5.size
     have HW5 : Hid (w5 = wr.alloc (.cells #[.slice a 80 c] 22)) := Lib.hid hw5
     clear hrow hown5 hb5 htk;go_wp2_with (first
      | (refine u8RT2.wpList_subH rfl (.tmp 18) (.const (.int .i64 80)) rfl rfl (h := 80) rfl HC80.out ?_)
      | (refine s3RT.wpList_build (p := (a, 80, c)) (by decide) rfl (.tmp 21) rfl rfl ?_; rw [<- hw5]; clear hw5)
      | (refine s3RT.wpList_append_at rfl (.tmp 20) (.tmp 22) rfl (base := w.heap.size) (v := .slice a3 j c3) (n := j) (L := M) rfl HOWN5.out (a := some ⟨wr.heap.size, 0, none⟩) (m := 1) (cap := 1) (M := [((a, 80, c) : Sl3)]) rfl rfl HROW.out (fun h => by cases h) (by rintro _ ⟨⟩; rfl) (by have := H12.out; unfold maxLen; omega) (by have := H12.out; omega) HSZ.out ?_; intro v6 w6 hown6 hgr6 hnil6 hat6; have HO6 := Lib.hid hown6; have HB6 : Hid (Below w.heap.size w w6) := Lib.hid (HB5.out.trans ((Chg.grown (S := fun k => (Value.slice a3 j c3).ownBlock = some k) hgr6 fun k hk _ => hk).below HSZ.out (fun k hk => (HOWN5.out.lt k hk).1))); clear hown6 hgr6 hnil6 hat6)
      | fail)
     go_roundw
     case rel => exact ⟨j + 1, by have := HLT.out; omega, by have := H12.out; omega, by go_num, Lib.hid ⟨M ++ [((a, 80, c) : Sl3)], by rw [short_step L j l HG.out]; exact HSH.out.push HTK.out, HO6.out⟩, HB6.out⟩
     case measure => simp [intOf]; have := HLT.out; omega
    ·have d80 : ¬ (ln : Int) > 80 := by omega
     have htk : SlAt w (s3V ((a, ln, c) : Sl3)) (l.take 80) := by
      have h1 := HLN.out
      rw [take80 l (by omega)]
      exact ⟨a, c, by rw [<- h1]; rfl, HS.out.1, HS.out.2.1, by omega, HS.out.2.2.2⟩
     clear h80 hle;obtain ⟨w5, hw5⟩ : ∃ w5, w5 = wr.alloc (.cells (s3E (a, ln, c)).toArray 22) := ⟨_, rfl⟩
     have hrow : RowK s3E 1 w5 (some ⟨wr.heap.size, 0, none⟩) [((a, ln, c) : Sl3)] := by rw [hw5]; exact rowK_one (fun _ => rfl) (heap_new' _ _)
     have hown5 : w5.ownsRow w.heap.size 22 1 (.slice a3 j c3) j (cellsK s3E M) := by
      rw [hw5]; exact own_keepS HOWN.out (fun k hk => (below_box _ _).block k (HOWN.out.lt k hk).2)
     have hb5 : Below w.heap.size w w5 := by rw [hw5]; exact HBR.out.trans ((below_box _ _).mono HBR.out.size)
     have HROW := Lib.hid hrow;have HOWN5 := Lib.hid hown5;have HB5 := Lib.hid hb5;have HTK := Lib.hid htk;have HSZ : Hid (w.heap.size <= w5.heap.size) := Lib.hid hb5.size
     have HW5 : Hid (w5 = wr.alloc (.cells #[.slice a ln c] 22)) := Lib.hid hw5
     clear hrow hown5 hb5 htk;go_wp2_with (first
      | (refine s3RT.wpList_build (p := (a, ln, c)) (by decide) rfl (.tmp 21) rfl rfl ?_; rw [<- hw5]; clear hw5)
      | (refine s3RT.wpList_append_at rfl (.tmp 20) (.tmp 22) rfl (base := w.heap.size) (v := .slice a3 j c3) (n := j) (L := M) rfl HOWN5.out (a := some ⟨wr.heap.size, 0, none⟩) (m := 1) (cap := 1) (M := [((a, ln, c) : Sl3)]) rfl rfl HROW.out (fun h => by cases h) (by rintro _ ⟨⟩; rfl) (by have := H12.out; unfold maxLen; omega) (by have := H12.out; omega) HSZ.out ?_; intro v6 w6 hown6 hgr6 hnil6 hat6; have HO6 := Lib.hid hown6; have HB6 : Hid (Below w.heap.size w w6) := Lib.hid (HB5.out.trans ((Chg.grown (S := fun k => (Value.slice a3 j c3).ownBlock = some k) hgr6 fun k hk _ => hk).below HSZ.out (fun k hk => (HOWN5.out.lt k hk).1))); clear hown6 hgr6 hnil6 hat6)
      | fail)
     go_roundw
     case rel => exact ⟨j + 1, by have := HLT.out; omega, by have := H12.out; omega, by go_num, Lib.hid ⟨M ++ [((a, ln, c) : Sl3)], by rw [short_step L j l HG.out]; exact HSH.out.push HTK.out, HO6.out⟩, HB6.out⟩
     case measure => simp [intOf]; have := HLT.out; omega
   ·have d12 : (j : Int) >= 12 := by omega
    have HT := Lib.hid (HFIN.out (.inr (by omega)))
    clear hj12 hj hln hl63 hle h12;go_wp2_with fail
    go_ret
    exact ⟨_, rfl, ⟨a3, c3, by rw [HT.out.1]; rfl, HT.out.2⟩, HBR.out⟩
  ·have dl : ¬ (j : Int) < (n : Int) := by omega
   have HT := Lib.hid (HFIN.out (.inl (by omega)))
   clear hlt hj hj12;go_wp2_with fail
   go_ret
   exact ⟨_, rfl, ⟨a3, c3, by rw [HT.out.1]; rfl, HT.out.2⟩, HBR.out⟩
theorem RowsB.short {w : World} {a : Option Addr} {L : List (List Nat)} (h : RowsB w a L) : ∀ l ∈ L, l.length < 2 ^ 63 := by
 intro l hl;obtain ⟨i, hi, he⟩ := List.getElem_of_mem hl
 obtain ⟨g, o, v, _, _, _, a', c', _, _, _, h5, h6⟩ := h i l (by rw [List.getElem?_eq_getElem hi, he])
 have : maxLen < 2 ^ 63 := by decide
 omega
end Go.Proofs.YtnmdjggdgakeoaaGreat
