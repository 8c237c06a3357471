/- Lemmas for the proof. -/
import Derived.Test.YtnmdjggdgakeoaaGreatPXq
import Derived.Test.YtnmdjggdgakeoaaGreatPXh
set_option maxRecDepth 100000
set_option maxHeartbeats 16000000
set_option linter.unusedVariables false
set_option linter.unusedSimpArgs false
set_option linter.unusedSectionVars false
namespace Go.Proofs.YtnmdjggdgakeoaaGreat
open Go Go.RowKit Sha GfM Tryz
def setA (n x : Nat) (kv : Value) (c : Nat) : Array Value := #[.int .i64 (n : Int), .int .i64 (x : Int), kv, .int .u64 (c : Int)]
def baseZ : Array Value := #[.pointer none, .pointer none, .pointer none, .pointer none, .int .i64 0, .int .i64 0]
def zero32 : List Nat := List.replicate 32 0
theorem zero32_len : zero32.length = 32 := rfl
theorem built_regc (c : Nat) : prog.built 116 [(0, .int .u64 (c : Int))] = some (regA c zero32) := by kernel_rfl
theorem built_book (tb mb : Nat) : prog.built 132 [(0, .func (.func 12) #[.pointer (some ⟨tb, 0, none⟩)] #[]), (1, .map (some mb))] = some (bkA tb mb none) := by kernel_rfl
theorem bookNew_c (tb : Nat) (w : World) :
  Calls prog 51 #[.pointer (some ⟨tb, 0, none⟩)] w fun r w' => r = .returned (.pointer (some ⟨w.heap.size + 1, 0, none⟩)) /\ w' = (w.alloc (.map #[] 0)).alloc (.cells (bkA tb w.heap.size none) 132) := by
 obtain ⟨z, hz⟩ : ∃ z, z = w.heap.size := ⟨_, rfl⟩
 obtain ⟨BA, hBA⟩ : ∃ BA, BA = bkA tb z none := ⟨_, rfl⟩
 have HBT := Lib.hid (built_book tb z)
 rw [<- hz, <- hBA]
 rw [<- hBA] at HBT;have HZ := Lib.hid hz;clear hBA hz
 go_enter func51, ntmps51
 go_wp2_with (first
  | (refine wpList_makeMap rfl 129 rfl ?_; rw [<- HZ.out])
  | (refine wpList_build_c rfl 132 [(0, .tmp 6), (1, .tmp 7)] rfl BA ?_ ?_; exact HBT.out)
  | fail)
 go_ret
 exact ⟨by rw [HZ.out]; rfl, rfl⟩
def opsPnA : {o : Array Oper // some o = (Tryz.f31.body.bind (Fre.findR 1))} := ⟨_, rfl⟩
theorem fitPnA : Fre.fit .any opsPnA.1 55 = true := by kernel_rfl
theorem sizePnA : opsPnA.1.size = 9 := by kernel_rfl
def VPnA (gs n x cn gk o cap B : Nat) (key : List Nat) (i : Nat) (v : Value) (w : World) : Prop := match i with
 | 0 => ∃ b, v = .pointer (some ⟨b, 0, none⟩) /\ B <= b /\ IsBox w b
 | 1 => v = .pointer (some ⟨gs, 2, none⟩)
 | 2 => v = .slice (some ⟨gk, o, none⟩) key.length cap
 | 3 => ∃ b c g m cp, v = .tuple #[.pointer (some ⟨c, 0, none⟩), .int .i64 0] /\ Cip w c b g m cp (roundsK key) (wordsK key) /\ B <= b /\ B <= c /\ B <= g
 | 4 => ∃ b c g m cp, v = .tuple #[.pointer (some ⟨c, 0, none⟩), .int .i64 0] /\ Cip w c b g m cp (roundsK key) (wordsK key) /\ B <= b /\ B <= c /\ B <= g
 | 5 => ∃ b c g m cp, v = .pointer (some ⟨c, 0, none⟩) /\ Cip w c b g m cp (roundsK key) (wordsK key) /\ B <= b /\ B <= c /\ B <= g
 | 6 => v = .int .i64 0
 | 7 => ∃ b c g m cp, v = .pointer (some ⟨c, 0, none⟩) /\ Cip w c b g m cp (roundsK key) (wordsK key) /\ B <= b /\ B <= c /\ B <= g
 | 8 => v = .int .i64 0
 | _ => True
section
variable {u0 u2 u3 u4 u5 u6 u7 u8 u9 u10 u11 u12 u13 u14 u15 u16 u17 u18 u19 u20 u21 u22 u23 u24 u25 u26 u27 u28 u29 u30 u31 u32 u33 u34 u35 u36 u37 u38 u39 u40 u41 u42 u43 u44 u45 u46 u47 u48 u49 u50 u51 u52 u53 u54 : Value}
theorem kpPnA (gs n x cn gk o cap B : Nat) (key : List Nat) : ∀ j v w w', j < opsPnA.1.size -> VPnA gs n x cn gk o cap B key j v w -> Fre.Kept w w' -> VPnA gs n x cn gk o cap B key j v w' := by
 intro j v w w' hj h hs
 rw [sizePnA] at hj;rcases cs9 hj with rfl | rfl | rfl | rfl | rfl | rfl | rfl | rfl | rfl
 any_goals exact h
 ·change ∃ b, v = .pointer (some ⟨b, 0, none⟩) /\ B <= b /\ IsBox w b at h
  obtain ⟨b, h1, h2, h3⟩ := h
  exact ⟨b, h1, h2, h3.later hs h3.lt⟩
 ·change ∃ b c g m cp, v = .tuple #[.pointer (some ⟨c, 0, none⟩), .int .i64 0] /\ Cip w c b g m cp (roundsK key) (wordsK key) /\ B <= b /\ B <= c /\ B <= g at h
  obtain ⟨b, c, g, m, cp, h1, h2, h3⟩ := h
  exact ⟨b, c, g, m, cp, h1, h2.up hs (Nat.le_refl _), h3⟩
 ·change ∃ b c g m cp, v = .tuple #[.pointer (some ⟨c, 0, none⟩), .int .i64 0] /\ Cip w c b g m cp (roundsK key) (wordsK key) /\ B <= b /\ B <= c /\ B <= g at h
  obtain ⟨b, c, g, m, cp, h1, h2, h3⟩ := h
  exact ⟨b, c, g, m, cp, h1, h2.up hs (Nat.le_refl _), h3⟩
 ·change ∃ b c g m cp, v = .pointer (some ⟨c, 0, none⟩) /\ Cip w c b g m cp (roundsK key) (wordsK key) /\ B <= b /\ B <= c /\ B <= g at h
  obtain ⟨b, c, g, m, cp, h1, h2, h3⟩ := h
  exact ⟨b, c, g, m, cp, h1, h2.up hs (Nat.le_refl _), h3⟩
 ·change ∃ b c g m cp, v = .pointer (some ⟨c, 0, none⟩) /\ Cip w c b g m cp (roundsK key) (wordsK key) /\ B <= b /\ B <= c /\ B <= g at h
  obtain ⟨b, c, g, m, cp, h1, h2, h3⟩ := h
  exact ⟨b, c, g, m, cp, h1, h2.up hs (Nat.le_refl _), h3⟩
variable {gs n x cn gk o cap B : Nat} {key : List Nat} {a0 : Act} {w0 : World} (h0 : w0.heap[gs]? = some (.cells (setA n x (.slice (some ⟨gk, o, none⟩) key.length cap) cn) 49 (0, 0))) (hB : B <= w0.heap.size) (hkl : key.length = 16) (hkb : ∀ x ∈ key, x < 256) (hcap : key.length <= cap) (hgk : gk < w0.heap.size) (hk : ∀ j, j < key.length -> w0.cell? ⟨gk, o + j, none⟩ = some (.int .u8 ((key.getD j 0 : Nat) : Int)))
include h0 hB hkl hkb hcap hgk hk
theorem stPnA_0 : Fre.StepB prog opsPnA.1 a0 w0 (VPnA gs n x cn gk o cap B key) Fre.Kept 0 := by
 rintro E w hc hf hE hV hN hS _ ⟨⟩
 simp only [opsPnA, gA, gS, gZ]
 refine Fre.Does.enter (f := 44) (args := #[]) (w' := w) ?_ ((newbox_c w).mono ?_)
 ·go_simp
 ·rintro e w' ⟨rfl, h1, h2, hk'⟩
  exact ⟨_, rfl, ⟨_, rfl, Nat.le_trans hB hS.size, h1⟩, hk'⟩
theorem stPnA_1 (g91 : a0.tmps.getD 1 undef = .pointer (some ⟨gs, 0, none⟩)) : Fre.StepB prog opsPnA.1 a0 w0 (VPnA gs n x cn gk o cap B key) Fre.Kept 1 := by
 rintro E w hc hf hE hV hN hS _ ⟨⟩
 simp only [opsPnA, gA, gS, gZ]
 have b1 : E (.tmp 1) = .pointer (some ⟨gs, 0, none⟩) := (hE 1 (by kernel_rfl)).trans g91
 clear g91;refine Fre.dv (v := .pointer (some ⟨gs, 2, none⟩)) ?_
 go_simp
theorem stPnA_2 : Fre.StepB prog opsPnA.1 a0 w0 (VPnA gs n x cn gk o cap B key) Fre.Kept 2 := by
 rintro E w hc hf hE hV hN hS _ ⟨⟩
 simp only [opsPnA, gA, gS, gZ]
 have d1 : E (.tmp 11) = .pointer (some ⟨gs, 2, none⟩) := hV 1 11 (by kernel_rfl) (by kernel_rfl)
 have c0 : w.cell? ⟨gs, 2, none⟩ = some (.slice (some ⟨gk, o, none⟩) key.length cap) := by rw [cells_at ((hS.block gs (lt_blk h0)).trans h0) 2]; rfl
 refine Fre.dv (v := .slice (some ⟨gk, o, none⟩) key.length cap) ?_
 go_simp
theorem stPnA_3 : Fre.StepB prog opsPnA.1 a0 w0 (VPnA gs n x cn gk o cap B key) Fre.Kept 3 := by
 rintro E w hc hf hE hV hN hS _ ⟨⟩
 simp only [opsPnA, gA, gS, gZ]
 have d0 := hV 0 10 (by kernel_rfl) (by kernel_rfl)
 replace d0 : (fun v : Value => ∃ b, v = .pointer (some ⟨b, 0, none⟩) /\ B <= b /\ IsBox w b) (E (.tmp 10)) := d0
 simp only at d0
 have d2 : E (.tmp 12) = .slice (some ⟨gk, o, none⟩) key.length cap := hV 2 12 (by kernel_rfl) (by kernel_rfl)
 obtain ⟨b, d0, hbB, hbx⟩ := d0
 have hnew := new_c b gk o cap key hkl hkb hcap w hbx (Nat.lt_of_lt_of_le hgk hS.size) (fun j hj => (hS.cell (p := ⟨gk, o + j, none⟩) hgk).trans (hk j hj))
 refine Fre.Does.enter (f := 43) (args := #[.pointer (some ⟨b, 0, none⟩), .slice (some ⟨gk, o, none⟩) key.length cap]) (w' := w) ?_ (hnew.mono ?_)
 ·go_simp
 ·rintro e w' ⟨c, g, m, cp, rfl, hC, hc2, hg2, hk'⟩
  exact ⟨_, rfl, ⟨b, c, g, m, cp, rfl, hC, hbB, Nat.le_trans (Nat.le_trans hB hS.size) hc2, Nat.le_trans (Nat.le_trans hB hS.size) hg2⟩, hk'⟩
theorem stPnA_4 : Fre.StepB prog opsPnA.1 a0 w0 (VPnA gs n x cn gk o cap B key) Fre.Kept 4 := by
 rintro E w hc hf hE hV hN hS _ ⟨⟩
 simp only [opsPnA, gA, gS, gZ]
 have d3 := hV 3 13 (by kernel_rfl) (by kernel_rfl)
 replace d3 : (fun v : Value => ∃ b c g m cp, v = .tuple #[.pointer (some ⟨c, 0, none⟩), .int .i64 0] /\ Cip w c b g m cp (roundsK key) (wordsK key) /\ B <= b /\ B <= c /\ B <= g) (E (.tmp 13)) := d3
 simp only at d3
 obtain ⟨b, c, g, m, cp, d3, hC⟩ := d3
 refine Fre.Does.value (v := .tuple #[.pointer (some ⟨c, 0, none⟩), .int .i64 0]) (w' := w) ?_ ⟨⟨b, c, g, m, cp, rfl, hC⟩, Fre.Kept.refl _⟩
 go_simp
theorem stPnA_5 : Fre.StepB prog opsPnA.1 a0 w0 (VPnA gs n x cn gk o cap B key) Fre.Kept 5 := by
 rintro E w hc hf hE hV hN hS _ ⟨⟩
 simp only [opsPnA, gA, gS, gZ]
 have d4 := hV 4 9 (by kernel_rfl) (by kernel_rfl)
 replace d4 : (fun v : Value => ∃ b c g m cp, v = .tuple #[.pointer (some ⟨c, 0, none⟩), .int .i64 0] /\ Cip w c b g m cp (roundsK key) (wordsK key) /\ B <= b /\ B <= c /\ B <= g) (E (.tmp 9)) := d4
 simp only at d4
 obtain ⟨b, c, g, m, cp, d4, hC⟩ := d4
 refine Fre.Does.value (v := .pointer (some ⟨c, 0, none⟩)) (w' := w) ?_ ⟨⟨b, c, g, m, cp, rfl, hC⟩, Fre.Kept.refl _⟩
 go_simp
theorem stPnA_6 : Fre.StepB prog opsPnA.1 a0 w0 (VPnA gs n x cn gk o cap B key) Fre.Kept 6 := by
 rintro E w hc hf hE hV hN hS _ ⟨⟩
 simp only [opsPnA, gA, gS, gZ]
 have d4 := hV 4 9 (by kernel_rfl) (by kernel_rfl)
 replace d4 : (fun v : Value => ∃ b c g m cp, v = .tuple #[.pointer (some ⟨c, 0, none⟩), .int .i64 0] /\ Cip w c b g m cp (roundsK key) (wordsK key) /\ B <= b /\ B <= c /\ B <= g) (E (.tmp 9)) := d4
 simp only at d4
 obtain ⟨b, c, g, m, cp, d4, hC⟩ := d4
 refine Fre.dv (v := .int .i64 0) ?_
 go_simp
theorem stPnA_7 : Fre.StepB prog opsPnA.1 a0 w0 (VPnA gs n x cn gk o cap B key) Fre.Kept 7 := by
 rintro E w hc hf hE hV hN hS _ ⟨⟩
 simp only [opsPnA, gA, gS, gZ]
 have d5 := hV 5 14 (by kernel_rfl) (by kernel_rfl)
 replace d5 : (fun v : Value => ∃ b c g m cp, v = .pointer (some ⟨c, 0, none⟩) /\ Cip w c b g m cp (roundsK key) (wordsK key) /\ B <= b /\ B <= c /\ B <= g) (E (.tmp 14)) := d5
 simp only at d5
 obtain ⟨b, c, g, m, cp, d5, hC⟩ := d5
 refine Fre.Does.value (v := .pointer (some ⟨c, 0, none⟩)) (w' := w) ?_ ⟨⟨b, c, g, m, cp, rfl, hC⟩, Fre.Kept.refl _⟩
 go_simp
theorem stPnA_8 : Fre.StepB prog opsPnA.1 a0 w0 (VPnA gs n x cn gk o cap B key) Fre.Kept 8 := by
 rintro E w hc hf hE hV hN hS _ ⟨⟩
 simp only [opsPnA, gA, gS, gZ]
 have d6 : E (.tmp 15) = .int .i64 0 := hV 6 15 (by kernel_rfl) (by kernel_rfl)
 refine Fre.dv (v := .int .i64 0) ?_
 go_simp
variable (gs n x cn gk o cap B key w0)
theorem regionPnA {QQ : Exit -> Act -> World -> Prop} (hQ : ∀ (vs : Nat -> Value) w, (∀ j, j < 9 -> VPnA gs n x cn gk o cap B key j (vs j) w) -> Fre.Kept w0 w -> QQ .normal ⟨#[u0, .pointer (some ⟨gs, 0, none⟩), u2, u3, vs 7, vs 8, u6, u7, u8, vs 4, vs 0, vs 1, vs 2, vs 3, vs 5, vs 6, u16, u17, u18, u19, u20, u21, u22, u23, u24, u25, u26, u27, u28, u29, u30, u31, u32, u33, u34, u35, u36, u37, u38, u39, u40, u41, u42, u43, u44, u45, u46, u47, u48, u49, u50, u51, u52, u53, u54], []⟩ w) : (Code.region 1 opsPnA.1 true).wp prog QQ ⟨#[u0, .pointer (some ⟨gs, 0, none⟩), u2, u3, u4, u5, u6, u7, u8, u9, u10, u11, u12, u13, u14, u15, u16, u17, u18, u19, u20, u21, u22, u23, u24, u25, u26, u27, u28, u29, u30, u31, u32, u33, u34, u35, u36, u37, u38, u39, u40, u41, u42, u43, u44, u45, u46, u47, u48, u49, u50, u51, u52, u53, u54], []⟩ w0 := by
 refine Fre.region_kept 55 (by kernel_rfl) fitPnA rfl (VPnA gs n x cn gk o cap B key) (kpPnA gs n x cn gk o cap B key) (fun i hi => ?_) (fun vs w h1 h2 => ?_)
 case refine_2 =>
  have h9 := hQ vs w (fun j hj => h1 j (by rw [sizePnA]; exact hj)) h2
  exact Fre.fe (p := fun t => QQ .normal ⟨t, []⟩ w) h9 (by kernel_rfl)
 rw [sizePnA] at hi;rcases cs9 hi with rfl | rfl | rfl | rfl | rfl | rfl | rfl | rfl | rfl
 ·exact stPnA_0 h0 hB hkl hkb hcap hgk hk
 ·exact stPnA_1 h0 hB hkl hkb hcap hgk hk rfl
 ·exact stPnA_2 h0 hB hkl hkb hcap hgk hk
 ·exact stPnA_3 h0 hB hkl hkb hcap hgk hk
 ·exact stPnA_4 h0 hB hkl hkb hcap hgk hk
 ·exact stPnA_5 h0 hB hkl hkb hcap hgk hk
 ·exact stPnA_6 h0 hB hkl hkb hcap hgk hk
 ·exact stPnA_7 h0 hB hkl hkb hcap hgk hk
 ·exact stPnA_8 h0 hB hkl hkb hcap hgk hk
end
def opsPnB : {o : Array Oper // some o = (Tryz.f31.body.bind (Fre.findR 5))} := ⟨_, rfl⟩
theorem fitPnB : Fre.fit .any opsPnB.1 55 = true := by kernel_rfl
theorem sizePnB : opsPnB.1.size = 15 := by kernel_rfl
theorem tailPnB : Fre.tailFitT .any opsPnB.1 14 = true := by kernel_rfl
def VPnB (gs n x cn d kc B : Nat) (kv : Value) (i : Nat) (v : Value) (w : World) : Prop := match i with
 | 0 => v = .pointer (some ⟨d, 0, none⟩)
 | 1 => v = .pointer (some ⟨d, 0, none⟩)
 | 2 => v = .pointer (some ⟨gs, 3, none⟩)
 | 3 => v = .int .u64 (cn : Int)
 | 4 => v = .agg (regA cn zero32)
 | 5 => ∃ t, v = .pointer (some ⟨t, 0, none⟩) /\ B <= t /\ TrAt w t d cn zero32
 | 6 => v = .pointer (some ⟨kc, 0, none⟩)
 | 7 => ∃ s, v = .pointer (some ⟨s + 1, 0, none⟩) /\ B <= s /\ w.heap[s + 1]? = some (.cells #[.pointer (some ⟨kc, 0, none⟩), .map (some s), .slice none 0 0] 170 (0, 0)) /\ w.heap[s]? = some (.map #[] 0)
 | 8 => ∃ tb, v = .pointer (some ⟨tb, 0, none⟩) /\ B <= tb /\ w.heap[tb]? = some (.cells (wA (KT ++ HL)) 64 (0, 0))
 | 9 => ∃ tb b, v = .pointer (some ⟨b + 1, 0, none⟩) /\ B <= tb /\ B <= b /\ w.heap[tb]? = some (.cells (wA (KT ++ HL)) 64 (0, 0)) /\ w.heap[b + 1]? = some (.cells (bkA tb b none) 132 (0, 0)) /\ w.heap[b]? = some (.map #[] 0)
 | 10 => v = .pointer (some ⟨gs, 0, none⟩)
 | 11 => v = .agg #[.int .i64 (n : Int), .int .i64 (x : Int)]
 | 12 => ∃ t s tb b, v = .agg #[.pointer (some ⟨d, 0, none⟩), .pointer (some ⟨t, 0, none⟩), .pointer (some ⟨s + 1, 0, none⟩), .pointer (some ⟨b + 1, 0, none⟩), .int .i64 (n : Int), .int .i64 (x : Int)] /\ (B <= t /\ B <= s /\ B <= tb /\ B <= b) /\ TrAt w t d cn zero32 /\ w.heap[s + 1]? = some (.cells #[.pointer (some ⟨kc, 0, none⟩), .map (some s), .slice none 0 0] 170 (0, 0)) /\ w.heap[s]? = some (.map #[] 0) /\ w.heap[tb]? = some (.cells (wA (KT ++ HL)) 64 (0, 0)) /\ w.heap[b + 1]? = some (.cells (bkA tb b none) 132 (0, 0)) /\ w.heap[b]? = some (.map #[] 0)
 | 13 => ∃ p, v = .pointer (some ⟨p, 0, none⟩) /\ B <= p /\ w.heap[p]? = some (.cells baseZ 90 (0, 0))
 | _ => True
section
variable {u0 u2 u3 u5 u7 u8 u9 u10 u11 u12 u13 u14 u15 u16 u17 u18 u19 u20 u21 u22 u23 u24 u25 u26 u27 u28 u29 u30 u31 u32 u33 u34 u35 u36 u37 u38 u39 u40 u41 u42 u43 u44 u45 u46 u47 u48 u49 u50 u51 u52 u53 u54 : Value}
theorem kpPnB (gs n x cn d kc B : Nat) (kv : Value) : ∀ j v w w', j < 14 -> VPnB gs n x cn d kc B kv j v w -> Fre.Kept w w' -> VPnB gs n x cn d kc B kv j v w' := by
 intro j v w w' hj h hs
 rcases cs14 hj with rfl | rfl | rfl | rfl | rfl | rfl | rfl | rfl | rfl | rfl | rfl | rfl | rfl | rfl
 any_goals exact h
 ·change ∃ t, v = .pointer (some ⟨t, 0, none⟩) /\ B <= t /\ TrAt w t d cn zero32 at h
  obtain ⟨t, h1, h2, h3⟩ := h
  exact ⟨t, h1, h2, (h3.on.below hs).holds⟩
 ·change ∃ s, v = .pointer (some ⟨s + 1, 0, none⟩) /\ B <= s /\ w.heap[s + 1]? = some (.cells #[.pointer (some ⟨kc, 0, none⟩), .map (some s), .slice none 0 0] 170 (0, 0)) /\ w.heap[s]? = some (.map #[] 0) at h
  obtain ⟨s, h1, h2, h3, h4⟩ := h
  exact ⟨s, h1, h2, (hs.block _ (lt_blk h3)).trans h3, (hs.block _ (lt_blk h4)).trans h4⟩
 ·change ∃ tb, v = .pointer (some ⟨tb, 0, none⟩) /\ B <= tb /\ w.heap[tb]? = some (.cells (wA (KT ++ HL)) 64 (0, 0)) at h
  obtain ⟨tb, h1, h2, h3⟩ := h
  exact ⟨tb, h1, h2, (hs.block _ (lt_blk h3)).trans h3⟩
 ·change ∃ tb b, v = .pointer (some ⟨b + 1, 0, none⟩) /\ B <= tb /\ B <= b /\ w.heap[tb]? = some (.cells (wA (KT ++ HL)) 64 (0, 0)) /\ w.heap[b + 1]? = some (.cells (bkA tb b none) 132 (0, 0)) /\ w.heap[b]? = some (.map #[] 0) at h
  obtain ⟨tb, b, h1, h2, h3, h4, h5, h6⟩ := h
  exact ⟨tb, b, h1, h2, h3, (hs.block _ (lt_blk h4)).trans h4, (hs.block _ (lt_blk h5)).trans h5, (hs.block _ (lt_blk h6)).trans h6⟩
 ·change ∃ t s tb b, v = .agg #[.pointer (some ⟨d, 0, none⟩), .pointer (some ⟨t, 0, none⟩), .pointer (some ⟨s + 1, 0, none⟩), .pointer (some ⟨b + 1, 0, none⟩), .int .i64 (n : Int), .int .i64 (x : Int)] /\ (B <= t /\ B <= s /\ B <= tb /\ B <= b) /\ TrAt w t d cn zero32 /\ w.heap[s + 1]? = some (.cells #[.pointer (some ⟨kc, 0, none⟩), .map (some s), .slice none 0 0] 170 (0, 0)) /\ w.heap[s]? = some (.map #[] 0) /\ w.heap[tb]? = some (.cells (wA (KT ++ HL)) 64 (0, 0)) /\ w.heap[b + 1]? = some (.cells (bkA tb b none) 132 (0, 0)) /\ w.heap[b]? = some (.map #[] 0) at h
  obtain ⟨t, s, tb, b, h1, h2, h3, h4, h5, h6, h7, h8⟩ := h
  exact ⟨t, s, tb, b, h1, h2, (h3.on.below hs).holds, (hs.block _ (lt_blk h4)).trans h4, (hs.block _ (lt_blk h5)).trans h5, (hs.block _ (lt_blk h6)).trans h6, (hs.block _ (lt_blk h7)).trans h7, (hs.block _ (lt_blk h8)).trans h8⟩
 ·change ∃ p, v = .pointer (some ⟨p, 0, none⟩) /\ B <= p /\ w.heap[p]? = some (.cells baseZ 90 (0, 0)) at h
  obtain ⟨p, h1, h2, h3⟩ := h
  exact ⟨p, h1, h2, (hs.block _ (lt_blk h3)).trans h3⟩
variable {gs n x cn d kc B : Nat} {kv : Value} {a0 : Act} {w0 : World} (h0 : w0.heap[gs]? = some (.cells (setA n x kv cn) 49 (0, 0))) (hB : B <= w0.heap.size)
include h0 hB
theorem stPnB_0 (g96 : a0.tmps.getD 6 undef = .pointer (some ⟨d, 0, none⟩)) : Fre.StepB prog opsPnB.1 a0 w0 (VPnB gs n x cn d kc B kv) Fre.Kept 0 := by
 rintro E w hc hf hE hV hN hS _ ⟨⟩
 simp only [opsPnB, gA, gS, gZ]
 have b6 : E (.tmp 6) = .pointer (some ⟨d, 0, none⟩) := (hE 6 (by kernel_rfl)).trans g96
 clear g96;refine Fre.dv (v := .pointer (some ⟨d, 0, none⟩)) ?_
 go_simp
theorem stPnB_1 (g96 : a0.tmps.getD 6 undef = .pointer (some ⟨d, 0, none⟩)) : Fre.StepB prog opsPnB.1 a0 w0 (VPnB gs n x cn d kc B kv) Fre.Kept 1 := by
 rintro E w hc hf hE hV hN hS _ ⟨⟩
 simp only [opsPnB, gA, gS, gZ]
 have b6 : E (.tmp 6) = .pointer (some ⟨d, 0, none⟩) := (hE 6 (by kernel_rfl)).trans g96
 clear g96;refine Fre.dv (v := .pointer (some ⟨d, 0, none⟩)) ?_
 go_simp
theorem stPnB_2 (g91 : a0.tmps.getD 1 undef = .pointer (some ⟨gs, 0, none⟩)) : Fre.StepB prog opsPnB.1 a0 w0 (VPnB gs n x cn d kc B kv) Fre.Kept 2 := by
 rintro E w hc hf hE hV hN hS _ ⟨⟩
 simp only [opsPnB, gA, gS, gZ]
 have b1 : E (.tmp 1) = .pointer (some ⟨gs, 0, none⟩) := (hE 1 (by kernel_rfl)).trans g91
 clear g91;refine Fre.dv (v := .pointer (some ⟨gs, 3, none⟩)) ?_
 go_simp
theorem stPnB_3 : Fre.StepB prog opsPnB.1 a0 w0 (VPnB gs n x cn d kc B kv) Fre.Kept 3 := by
 rintro E w hc hf hE hV hN hS _ ⟨⟩
 simp only [opsPnB, gA, gS, gZ]
 have d2 : E (.tmp 32) = .pointer (some ⟨gs, 3, none⟩) := hV 2 32 (by kernel_rfl) (by kernel_rfl)
 have c0 : w.cell? ⟨gs, 3, none⟩ = some (.int .u64 (cn : Int)) := by rw [cells_at ((hS.block gs (lt_blk h0)).trans h0) 3]; rfl
 refine Fre.dv (v := .int .u64 (cn : Int)) ?_
 go_simp
theorem stPnB_4 : Fre.StepB prog opsPnB.1 a0 w0 (VPnB gs n x cn d kc B kv) Fre.Kept 4 := by
 rintro E w hc hf hE hV hN hS _ ⟨⟩
 simp only [opsPnB, gA, gS, gZ]
 have d3 : E (.tmp 33) = .int .u64 (cn : Int) := hV 3 33 (by kernel_rfl) (by kernel_rfl)
 have hbt := built_regc cn
 have hb2 := run_build (P := prog) w 116 #[(0, .int .u64 (cn : Int))] _ hbt
 refine Fre.dv (v := .agg (regA cn zero32)) ?_
 unfold execOp;simp only [d3, List.map_toArray, List.map_cons, List.map_nil, Sem.run_bind, hb2, Result.andThen_ok]
 rfl
theorem stPnB_5 : Fre.StepB prog opsPnB.1 a0 w0 (VPnB gs n x cn d kc B kv) Fre.Kept 5 := by
 rintro E w hc hf hE hV hN hS _ ⟨⟩
 simp only [opsPnB, gA, gS, gZ]
 have d1 : E (.tmp 31) = .pointer (some ⟨d, 0, none⟩) := hV 1 31 (by kernel_rfl) (by kernel_rfl)
 have d4 : E (.tmp 34) = .agg (regA cn zero32) := hV 4 34 (by kernel_rfl) (by kernel_rfl)
 refine Fre.Does.enter (f := 49) (args := #[.pointer (some ⟨d, 0, none⟩), .agg (regA cn zero32)]) (w' := w) ?_ ((trAt_c d cn zero32 zero32_len w).mono ?_)
 ·go_simp
 ·rintro e w' ⟨t, rfl, h1, h2, hk'⟩
  exact ⟨_, rfl, ⟨t, rfl, Nat.le_trans (Nat.le_trans hB hS.size) h1, h2⟩, hk'⟩
theorem stPnB_6 (g94 : a0.tmps.getD 4 undef = .pointer (some ⟨kc, 0, none⟩)) : Fre.StepB prog opsPnB.1 a0 w0 (VPnB gs n x cn d kc B kv) Fre.Kept 6 := by
 rintro E w hc hf hE hV hN hS _ ⟨⟩
 simp only [opsPnB, gA, gS, gZ]
 have b4 : E (.tmp 4) = .pointer (some ⟨kc, 0, none⟩) := (hE 4 (by kernel_rfl)).trans g94
 clear g94;refine Fre.dv (v := .pointer (some ⟨kc, 0, none⟩)) ?_
 go_simp
theorem stPnB_7 : Fre.StepB prog opsPnB.1 a0 w0 (VPnB gs n x cn d kc B kv) Fre.Kept 7 := by
 rintro E w hc hf hE hV hN hS _ ⟨⟩
 simp only [opsPnB, gA, gS, gZ]
 have d6 : E (.tmp 36) = .pointer (some ⟨kc, 0, none⟩) := hV 6 36 (by kernel_rfl) (by kernel_rfl)
 refine Fre.Does.enter (f := 50) (args := #[.pointer (some ⟨kc, 0, none⟩)]) (w' := w) ?_ ((snew_c kc w).mono ?_)
 ·go_simp
 ·rintro e w' ⟨rfl, rfl⟩
  exact ⟨_, rfl, ⟨w.heap.size, rfl, Nat.le_trans hB hS.size, by rw [show w.heap.size + 1 = (w.alloc (.map #[] 0)).heap.size by rw [World.size_alloc]]; exact heap_new' _ _, ((below_box _ _).block _ (by rw [World.size_alloc]; omega)).trans (World.alloc_heap_new _ _)⟩, below_al (below_box _ _) _⟩
theorem stPnB_8 : Fre.StepB prog opsPnB.1 a0 w0 (VPnB gs n x cn d kc B kv) Fre.Kept 8 := by
 rintro E w hc hf hE hV hN hS _ ⟨⟩
 simp only [opsPnB, gA, gS, gZ]
 refine Fre.Does.enter (f := 11) (args := #[]) (w' := w) ?_ ((make_c w).mono ?_)
 ·go_simp
 ·rintro e w' ⟨rfl, h1, hk'⟩
  exact ⟨_, rfl, ⟨_, rfl, Nat.le_trans hB hS.size, h1⟩, hk'⟩
theorem stPnB_9 : Fre.StepB prog opsPnB.1 a0 w0 (VPnB gs n x cn d kc B kv) Fre.Kept 9 := by
 rintro E w hc hf hE hV hN hS _ ⟨⟩
 simp only [opsPnB, gA, gS, gZ]
 have d8 := hV 8 38 (by kernel_rfl) (by kernel_rfl)
 replace d8 : (fun v : Value => ∃ tb, v = .pointer (some ⟨tb, 0, none⟩) /\ B <= tb /\ w.heap[tb]? = some (.cells (wA (KT ++ HL)) 64 (0, 0))) (E (.tmp 38)) := d8
 simp only at d8
 obtain ⟨tb, d8, h2, h3⟩ := d8
 refine Fre.Does.enter (f := 51) (args := #[.pointer (some ⟨tb, 0, none⟩)]) (w' := w) ?_ ((bookNew_c tb w).mono ?_)
 ·go_simp
 ·rintro e w' ⟨rfl, rfl⟩
  have hk' : Below w.heap.size w ((w.alloc (.map #[] 0)).alloc (.cells (bkA tb w.heap.size none) 132)) := below_al (below_box _ _) _
  exact ⟨_, rfl, ⟨tb, w.heap.size, rfl, h2, Nat.le_trans hB hS.size, (hk'.block _ (lt_blk h3)).trans h3, by rw [show w.heap.size + 1 = (w.alloc (.map #[] 0)).heap.size by rw [World.size_alloc]]; exact heap_new' _ _, ((below_box _ _).block _ (by rw [World.size_alloc]; omega)).trans (World.alloc_heap_new _ _)⟩, hk'⟩
theorem stPnB_10 (g91 : a0.tmps.getD 1 undef = .pointer (some ⟨gs, 0, none⟩)) : Fre.StepB prog opsPnB.1 a0 w0 (VPnB gs n x cn d kc B kv) Fre.Kept 10 := by
 rintro E w hc hf hE hV hN hS _ ⟨⟩
 simp only [opsPnB, gA, gS, gZ]
 have b1 : E (.tmp 1) = .pointer (some ⟨gs, 0, none⟩) := (hE 1 (by kernel_rfl)).trans g91
 clear g91;refine Fre.dv (v := .pointer (some ⟨gs, 0, none⟩)) ?_
 go_simp
theorem stPnB_11 : Fre.StepB prog opsPnB.1 a0 w0 (VPnB gs n x cn d kc B kv) Fre.Kept 11 := by
 rintro E w hc hf hE hV hN hS _ ⟨⟩
 simp only [opsPnB, gA, gS, gZ]
 have d10 : E (.tmp 40) = .pointer (some ⟨gs, 0, none⟩) := hV 10 40 (by kernel_rfl) (by kernel_rfl)
 have c0 : w.cell? ⟨gs, 0, none⟩ = some (.int .i64 (n : Int)) := by rw [cells_at ((hS.block gs (lt_blk h0)).trans h0) 0]; rfl
 have c1 : w.cell? ⟨gs, 1, none⟩ = some (.int .i64 (x : Int)) := by rw [cells_at ((hS.block gs (lt_blk h0)).trans h0) 1]; rfl
 refine Fre.dv (v := .agg #[.int .i64 (n : Int), .int .i64 (x : Int)]) ?_
 go_simp
theorem stPnB_12 : Fre.StepB prog opsPnB.1 a0 w0 (VPnB gs n x cn d kc B kv) Fre.Kept 12 := by
 rintro E w hc hf hE hV hN hS _ ⟨⟩
 simp only [opsPnB, gA, gS, gZ]
 have d0 : E (.tmp 30) = .pointer (some ⟨d, 0, none⟩) := hV 0 30 (by kernel_rfl) (by kernel_rfl)
 have d5 := hV 5 35 (by kernel_rfl) (by kernel_rfl)
 replace d5 : (fun v : Value => ∃ t, v = .pointer (some ⟨t, 0, none⟩) /\ B <= t /\ TrAt w t d cn zero32) (E (.tmp 35)) := d5
 simp only at d5
 have d7 := hV 7 37 (by kernel_rfl) (by kernel_rfl)
 replace d7 : (fun v : Value => ∃ s, v = .pointer (some ⟨s + 1, 0, none⟩) /\ B <= s /\ w.heap[s + 1]? = some (.cells #[.pointer (some ⟨kc, 0, none⟩), .map (some s), .slice none 0 0] 170 (0, 0)) /\ w.heap[s]? = some (.map #[] 0)) (E (.tmp 37)) := d7
 simp only at d7
 have d9 := hV 9 39 (by kernel_rfl) (by kernel_rfl)
 replace d9 : (fun v : Value => ∃ tb b, v = .pointer (some ⟨b + 1, 0, none⟩) /\ B <= tb /\ B <= b /\ w.heap[tb]? = some (.cells (wA (KT ++ HL)) 64 (0, 0)) /\ w.heap[b + 1]? = some (.cells (bkA tb b none) 132 (0, 0)) /\ w.heap[b]? = some (.map #[] 0)) (E (.tmp 39)) := d9
 simp only at d9
 have d11 : E (.tmp 41) = .agg #[.int .i64 (n : Int), .int .i64 (x : Int)] := hV 11 41 (by kernel_rfl) (by kernel_rfl)
 obtain ⟨t, d5, a1, a2⟩ := d5
 obtain ⟨s, d7, a3, a4, a5⟩ := d7
 obtain ⟨tb, b, d9, a6, a7, a8, a9, a10⟩ := d9
 refine Fre.Does.value (v := .agg #[.pointer (some ⟨d, 0, none⟩), .pointer (some ⟨t, 0, none⟩), .pointer (some ⟨s + 1, 0, none⟩), .pointer (some ⟨b + 1, 0, none⟩), .int .i64 (n : Int), .int .i64 (x : Int)]) (w' := w) ?_ ⟨⟨t, s, tb, b, rfl, ⟨a1, a3, a6, a7⟩, a2, a4, a5, a8, a9, a10⟩, Fre.Kept.refl _⟩
 go_simp
theorem stPnB_13 : Fre.StepB prog opsPnB.1 a0 w0 (VPnB gs n x cn d kc B kv) Fre.Kept 13 := by
 rintro E w hc hf hE hV hN hS _ ⟨⟩
 simp only [opsPnB, gA, gS, gZ]
 refine Fre.Does.value (v := .pointer (some ⟨w.heap.size, 0, none⟩)) (w' := w.alloc (.cells baseZ 90)) ?_ ⟨⟨_, rfl, Nat.le_trans hB hS.size, heap_new' _ _⟩, below_box _ _⟩
 show _ = Result.ok (Next.value _) (w.alloc (.cells #[.pointer none, .pointer none, .pointer none, .pointer none, .int .i64 0, .int .i64 0] 90))
 go_simp
variable (gs n x cn d kc B kv w0)
theorem regionPnB {QQ : Exit -> Act -> World -> Prop} (hQ : ∀ (vs : Nat -> Value) w, (∀ j, j < 14 -> VPnB gs n x cn d kc B kv j (vs j) w) -> Fre.Kept w0 w -> wpList prog opsPnB.1 QQ (opsPnB.1.toList.drop 14) ⟨#[u0, .pointer (some ⟨gs, 0, none⟩), u2, u3, .pointer (some ⟨kc, 0, none⟩), u5, .pointer (some ⟨d, 0, none⟩), vs 13, u8, u9, u10, u11, u12, u13, u14, u15, u16, u17, u18, u19, u20, u21, u22, u23, u24, u25, u26, u27, u28, u29, vs 0, vs 1, vs 2, vs 3, vs 4, vs 5, vs 6, vs 7, vs 8, vs 9, vs 10, vs 11, vs 12, u43, u44, u45, u46, u47, u48, u49, u50, u51, u52, u53, u54], []⟩ w) : (Code.region 5 opsPnB.1 true).wp prog QQ ⟨#[u0, .pointer (some ⟨gs, 0, none⟩), u2, u3, .pointer (some ⟨kc, 0, none⟩), u5, .pointer (some ⟨d, 0, none⟩), u7, u8, u9, u10, u11, u12, u13, u14, u15, u16, u17, u18, u19, u20, u21, u22, u23, u24, u25, u26, u27, u28, u29, u30, u31, u32, u33, u34, u35, u36, u37, u38, u39, u40, u41, u42, u43, u44, u45, u46, u47, u48, u49, u50, u51, u52, u53, u54], []⟩ w0 := by
 refine Fre.region_tailT 55 14 (by kernel_rfl) fitPnB rfl tailPnB (by rw [sizePnB]; omega) (VPnB gs n x cn d kc B kv) (kpPnB gs n x cn d kc B kv) (fun i hi => ?_) (fun vs w h1 h2 => ?_)
 case refine_2 =>
  have h9 := hQ vs w h1 h2
  exact Fre.fe (p := fun t => wpList prog opsPnB.1 QQ (opsPnB.1.toList.drop 14) ⟨t, []⟩ w) h9 (by kernel_rfl)
 rcases cs14 hi with rfl | rfl | rfl | rfl | rfl | rfl | rfl | rfl | rfl | rfl | rfl | rfl | rfl | rfl
 ·exact stPnB_0 h0 hB rfl
 ·exact stPnB_1 h0 hB rfl
 ·exact stPnB_2 h0 hB rfl
 ·exact stPnB_3 h0 hB
 ·exact stPnB_4 h0 hB
 ·exact stPnB_5 h0 hB
 ·exact stPnB_6 h0 hB rfl
 ·exact stPnB_7 h0 hB
 ·exact stPnB_8 h0 hB
 ·exact stPnB_9 h0 hB
 ·exact stPnB_10 h0 hB rfl
 ·exact stPnB_11 h0 hB
 ·exact stPnB_12 h0 hB
 ·exact stPnB_13 h0 hB
end
def worldA (X : BaseR) (hp : Nat) : Array Value := baseV X ++ #[.pointer (some ⟨hp, 0, none⟩)]
theorem built_world (X : BaseR) (hp : Nat) : prog.built 123 [(0, .agg (baseV X)), (1, .pointer (some ⟨hp, 0, none⟩))] = some (worldA X hp) := by kernel_rfl
theorem load_sgeo {w : World} {gs n x cn : Nat} {kv : Value} (h : w.heap[gs]? = some (.cells (setA n x kv cn) 49 (0, 0))) : (loadVar 44 ⟨gs, 0, none⟩).run prog w = .ok (.agg #[.int .i64 (n : Int), .int .i64 (x : Int)]) w := by
 have hr := run_loadVar_mid (P := prog) w gs 0 44 [.int .i64 (n : Int), .int .i64 (x : Int)] _ (fun j v hv => by
  have hj : j < 2 := (List.getElem?_eq_some_iff.1 hv).1
  rw [Nat.zero_add, cells_at h j]
  have h2 : j = 0 \/ j = 1 := by omega
  rcases h2 with rfl | rfl <;> exact hv) underlying44 rfl (by rw [geo2]; rfl)
 exact hr
theorem cells_ne {w : World} {i j : Nat} {A B : Array Value} {s t : TypeId} {z z' : Nat × Nat} (h1 : w.heap[i]? = some (.cells A s z)) (h2 : w.heap[j]? = some (.cells B t z')) (hst : s ≠ t) : i ≠ j := fun e => by
 subst e;rw [h1] at h2
 injection h2 with h2
 injection h2 with _ h3 _
 exact hst h3
theorem cells_map_ne {w : World} {i j : Nat} {A : Array Value} {s : TypeId} {z : Nat × Nat} {es : Array MapEntry} {c : Nat} (h1 : w.heap[i]? = some (.cells A s z)) (h2 : w.heap[j]? = some (.map es c)) : i ≠ j := fun e => by
 subst e;rw [h1] at h2
 injection h2 with h2
 cases h2
theorem mapB_new {α : Type} {kv : α -> Value} {good : α -> Prop} {w : World} {m : Nat} (h : w.heap[m]? = some (.map #[] 0)) : MapB kv good w m [] :=
 ⟨⟨#[], 0, h, rfl, rfl, fun i e x h1 _ => by simp at h1⟩, fun x hx => (by cases hx), List.Pairwise.nil⟩
def newX (D : DevB) (n x c n4 ts ss tb bs : Nat) (K : KeyC) : BaseR := { D := D, av := .slice none 0 0, N := List.replicate (64 * n4) 0, t := ts, c := c, R := zero32, s := ss + 1, m := ss, K := K, M := [], b := bs + 1, tb := tb, mb := bs, cl := none, E := [], TS := [], n := n, x := x }
theorem newX_S {D : DevB} {n x c n4 ts ss tb bs : Nat} {K : KeyC} {k : Nat} : (newX D n x c n4 ts ss tb bs K).S k ↔ (k = D.d \/ k = D.wb) \/ k = ts \/ (k = ss + 1 \/ k = K.c \/ k = K.b \/ k = K.g \/ k = ss) \/ (k = bs + 1 \/ k = tb \/ k = bs) := by
 unfold BaseR.S BaseR.dS BaseR.sS BaseR.bS devS slnS bkS mapS newX
 simp only [List.not_mem_nil, false_and, exists_false, or_false, Value.ownBlock]
 constructor
 ·rintro (⟨h | h | h⟩ | h | h | h)
  ·exact .inl (.inl h)
  ·exact .inl (.inr h)
  ·cases h
  ·exact .inr (.inl h)
  ·exact .inr (.inr (.inl h))
  ·exact .inr (.inr (.inr h))
 ·rintro ((h | h) | h | h | h)
  ·exact .inl (.inl h)
  ·exact .inl (.inr (.inl h))
  ·exact .inr (.inl h)
  ·exact .inr (.inr (.inl h))
  ·exact .inr (.inr (.inr h))
theorem new_base {w : World} {D : DevB} {n x c n4 ts ss tb bs B3 B5 : Nat} {K : KeyC} (hg : geoB n x = true) (hkl : K.key.length = 16 \/ K.key.length = 32) (hdev : Dev w D (.slice none 0 0) (List.replicate (64 * n4) 0)) (hDn : D.n = 8 * n4) (hn4 : n4 = 4 * totalN n x) (hd : B3 <= D.d /\ B3 <= D.wb) (hd5 : D.d < B5 /\ D.wb < B5) (hcip : Cip w K.c K.b K.g K.n K.cp (roundsK K.key) (wordsK K.key)) (hc3 : K.c < B3 /\ K.b < B3 /\ K.g < B3) (hB : B3 <= B5) (hl : B5 <= ts /\ B5 <= ss /\ B5 <= tb /\ B5 <= bs) (t1 : TrAt w ts D.d c zero32)
  (t2 : w.heap[ss + 1]? = some (.cells #[.pointer (some ⟨K.c, 0, none⟩), .map (some ss), .slice none 0 0] 170 (0, 0))) (t3 : w.heap[ss]? = some (.map #[] 0)) (t4 : w.heap[tb]? = some (.cells (wA (KT ++ HL)) 64 (0, 0))) (t5 : w.heap[bs + 1]? = some (.cells (bkA tb bs none) 132 (0, 0))) (t6 : w.heap[bs]? = some (.map #[] 0)) :
  BaseAt w (newX D n x c n4 ts ss tb bs K) := by
 have n1 : ts ≠ ss + 1 := cells_ne t1 t2 (by decide)
 have n2 : ts ≠ ss := cells_map_ne t1 t3
 have n3 : ts ≠ tb := cells_ne t1 t4 (by decide)
 have n4' : ts ≠ bs + 1 := cells_ne t1 t5 (by decide)
 have n5 : ts ≠ bs := cells_map_ne t1 t6
 have n6 : ss + 1 ≠ tb := cells_ne t2 t4 (by decide)
 have n7 : ss + 1 ≠ bs + 1 := cells_ne t2 t5 (by decide)
 have n8 : ss + 1 ≠ bs := cells_map_ne t2 t6
 have n9 : tb ≠ ss := cells_map_ne t4 t3
 have n10 : bs + 1 ≠ ss := cells_map_ne t5 t3
 have hS : ∀ k, slnS (ss + 1) ss K [] k -> k = ss + 1 \/ k = K.c \/ k = K.b \/ k = K.g \/ k = ss := by
  rintro k (h | h | h | h | h | ⟨y, hy, _⟩)
  ·exact .inl h
  ·exact .inr (.inl h)
  ·exact .inr (.inr (.inl h))
  ·exact .inr (.inr (.inr (.inl h)))
  ·exact .inr (.inr (.inr (.inr h)))
  ·cases hy
 have hK : ∀ k, bkS (bs + 1) tb bs [] k -> k = bs + 1 \/ k = tb \/ k = bs := by
  rintro k (h | h | h | ⟨y, hy, _⟩)
  ·exact .inl h
  ·exact .inr (.inl h)
  ·exact .inr (.inr h)
  ·cases hy
 have hD : ∀ k, devS D (.slice none 0 0) k -> k = D.d \/ k = D.wb := by
  rintro k (h | h | h)
  ·exact .inl h
  ·exact .inr h
  ·cases h
 refine ⟨hdev, t1, ⟨t2, hcip, mapB_new t3⟩, ⟨t5, t4, mapB_new t6, fun y hy => (by cases hy), fun _ => rfl⟩, zero32_len, hg, ?_, hkl, fun e => ?_, fun e => ?_, fun e => ?_, fun k h1 h2 => ?_, fun k h1 h2 => ?_, fun k h1 h2 => ?_⟩
 ·show 8 * D.n = 256 * totalN n x
  rw [hDn, hn4]; omega
 ·have := hD ts e; omega
 ·have := hS ts e; omega
 ·have := hK ts e; omega
 ·have h3 := hD k h1; have h4 := hS k h2; omega
 ·have h3 := hD k h1; have h4 := hK k h2; omega
 ·have h3 := hS k h1; have h4 := hK k h2; omega
theorem baseV_one (X : BaseR) : (baseV X).all (·.oneCell') = true := by
 rw [<- Array.all_toList]; simp [baseV, Value.oneCell']
def NewOf (n x c : Nat) (key : List Nat) (X : BaseR) : Prop := X.n = n /\ X.x = x /\ X.c = c /\ X.K.key = key /\ X.M = [] /\ X.TS = [] /\ X.R = zero32 /\ X.N = List.replicate (256 * totalN n x) 0
def WldP (w w' : World) (n x c : Nat) (key : List Nat) (wd : Nat) : Prop := ∃ X hp, w'.heap[wd]? = some (.cells (worldA X hp) 123 (0, 0)) /\ w'.heap[hp]? = some (.cells (heapA X) 174 (0, 0)) /\ BaseAt w' X /\ NewOf n x c key X /\ (∀ k, X.S k -> w.heap.size <= k) /\ w.heap.size <= wd /\ w.heap.size <= hp /\ ¬ X.S wd /\ ¬ X.S hp /\ wd ≠ hp /\ Below w.heap.size w w'
theorem playNew_c {n x c : Nat} (key : List Nat) (gk o cap : Nat) (hg : geoB n x = true) (hkl : key.length = 16) (hkb : ∀ x ∈ key, x < 256) (hcap : key.length <= cap) (w : World) (hgk : gk < w.heap.size) (hk : ∀ j, j < key.length -> w.cell? ⟨gk, o + j, none⟩ = some (.int .u8 ((key.getD j 0 : Nat) : Int))) :
  Calls prog 31 #[.agg (setA n x (.slice (some ⟨gk, o, none⟩) key.length cap) c)] w fun r w' => ∃ wd, r = .returned (.tuple #[.pointer (some ⟨wd, 0, none⟩), .int .i64 0]) /\ WldP w w' n x c key wd := by
 obtain ⟨SA, hSA⟩ : ∃ SA, SA = setA n x (.slice (some ⟨gk, o, none⟩) key.length cap) c := ⟨_, rfl⟩
 obtain ⟨w1, hw1⟩ : ∃ w1, w1 = w.alloc (.cells SA 49) := ⟨_, rfl⟩
 have hx1 := heap_new' w (.cells SA 49)
 have hb1 : Below w.heap.size w w1 := by rw [hw1]; exact below_box _ _
 rw [<- hw1] at hx1;have hk1 : ∀ j, j < key.length -> w1.cell? ⟨gk, o + j, none⟩ = some (.int .u8 ((key.getD j 0 : Nat) : Int)) := fun j hj => (hb1.cell (p := ⟨gk, o + j, none⟩) hgk).trans (hk j hj)
 have HSA := Lib.hid hSA;rw [<- hSA];have HX1 : Hid (w1.heap[w.heap.size]? = some (.cells (setA n x (.slice (some ⟨gk, o, none⟩) key.length cap) c) 49 (0, 0))) := by rw [<- hSA]; exact hx1
 have HK1 := Lib.hid hk1;have HB1 := Lib.hid hb1;have HG := Lib.hid hg;have HKL := Lib.hid (And.intro hkl (And.intro hkb (And.intro hcap hgk)))
 clear hSA hx1 hb1 hk1 hk hg hkl hkb hcap hgk
 go_enter func31, ntmps31
 go_upto_region 1 with fail
 rw [<- hw1];clear hw1;refine regionPnA w.heap.size n x c gk o cap w.heap.size key w1 HX1.out HB1.out.size HKL.out.1 HKL.out.2.1 HKL.out.2.2.1 (Nat.lt_of_lt_of_le HKL.out.2.2.2 HB1.out.size) HK1.out ?_
 intro vs w2 hv hkp;obtain ⟨b, kc, kg, km, kcp, e7, hcip, hbb, hbc, hbg⟩ := hv 7 (by omega)
 have e8 : vs 8 = .int .i64 0 := hv 8 (by omega)
 generalize vs 7 = x7 at e7
 generalize vs 8 = x8 at e8
 subst e7 e8
 have HX2 : Hid (w2.heap[w.heap.size]? = some (.cells (setA n x (.slice (some ⟨gk, o, none⟩) key.length cap) c) 49 (0, 0))) := (hkp.block _ (lt_blk HX1.out)).trans HX1.out
 have HB2 : Hid (Below w.heap.size w w2) := HB1.out.trans (hkp.mono HB1.out.size)
 have HCIP := Lib.hid hcip;have HCB := Lib.hid (And.intro hbb (And.intro hbc hbg))
 have g0 : w2.cell? ⟨w.heap.size, 0, none⟩ = some (.int .i64 (n : Int)) := by rw [cells_at HX2.out 0]; rfl
 have g1 : w2.cell? ⟨w.heap.size, 1, none⟩ = some (.int .i64 (x : Int)) := by rw [cells_at HX2.out 1]; rfl
 have hge : geoE n x = 0 := geoE_ok HG.out
 have HE := Lib.hid (fun w => gcheck_c n x w)
 rw [hge] at HE;clear hv hkp hcip hbb hbc hbg HX1 HB1 HK1 hge;go_wp2_with fail
 refine (HE.out _).mono ?_
 rintro r w3 ⟨rfl, hb3⟩
 have HX3 : Hid (w3.heap[w.heap.size]? = some (.cells (setA n x (.slice (some ⟨gk, o, none⟩) key.length cap) c) 49 (0, 0))) := (hb3.block _ (lt_blk HX2.out)).trans HX2.out
 have HB3 : Hid (Below w.heap.size w w3) := HB2.out.trans (hb3.mono HB2.out.size)
 have HC3 := Lib.hid (HCIP.out.up hb3 (Nat.le_refl _))
 have HL3 := Lib.hid (load_sgeo HX3.out)
 have HT := Lib.hid (gTotal_c HG.out w3)
 obtain ⟨t, ht⟩ : ∃ t, t = totalN n x := ⟨_, rfl⟩
 have htb : 1 <= t /\ t <= 98 := by
  have h1 := geo_ok HG.out
  have h2 := leavesN_le n h1.2.1
  rw [ht]; unfold totalN; omega
 have HTT := Lib.hid (And.intro ht htb)
 rw [<- ht] at HT;have HBY := Lib.hid (fun w => gBytes_c t (by have := HTT.out; omega) w)
 obtain ⟨n4, hn4⟩ : ∃ n4, n4 = 4 * t := ⟨_, rfl⟩
 have eqw : wrap64 ((256 * (t : Int)).tdiv 64) = (n4 : Int) := by
  rw [Int.tdiv_eq_ediv_of_nonneg (by omega), show (256 * (t : Int)) / 64 = (n4 : Int) by omega]
  exact IntWalk.wrap64_in (n4 : Int) (by omega)
 have HEQ := Lib.hid eqw;have HN4 := Lib.hid hn4;have HDN := Lib.hid (fun w => devNew_c n4 (by omega) (by omega) w)
 clear eqw hn4;clear hb3 HCIP HX2 HB2 g0 g1 HE ht htb;go_wp2_with (first
  | (refine wpList_load_run rfl 44 (.tmp 24) rfl rfl HL3.out ?_)
  | fail)
 refine HT.out.mono ?_
 rintro r w4 ⟨rfl, hb4⟩
 have HB4 : Hid (Below w3.heap.size w3 w4) := hb4
 clear hb4 HT HL3;go_wp2_with fail
 refine (HBY.out _).mono ?_
 rintro r w5 ⟨rfl, rfl⟩
 clear HBY;go_wp2_with fail
 rw [HEQ.out];refine (HDN.out _).mono ?_
 rintro r w5 ⟨D, rfl, hDn, hdev, hd1, hd2, hb5⟩
 have HX5 : Hid (w5.heap[w.heap.size]? = some (.cells (setA n x (.slice (some ⟨gk, o, none⟩) key.length cap) c) 49 (0, 0))) := ((HB4.out.trans (hb5.mono HB4.out.size)).block _ (lt_blk HX3.out)).trans HX3.out
 have HB5 : Hid (Below w.heap.size w w5) := HB3.out.trans ((HB4.out.trans (hb5.mono HB4.out.size)).mono HB3.out.size)
 have HL35 : Hid (w3.heap.size <= w5.heap.size) := Nat.le_trans HB4.out.size hb5.size
 have HC5 := Lib.hid (HC3.out.up (HB4.out.trans (hb5.mono HB4.out.size)) (Nat.le_refl _))
 have HD5 := Lib.hid (And.intro hdev (And.intro hDn (And.intro (Nat.le_trans HB4.out.size hd1) (Nat.le_trans HB4.out.size hd2))))
 clear hDn hdev hd1 hd2 hb5 HDN HEQ HX3 HB4
 go_upto_region 5 with fail
 refine regionPnB w.heap.size n x c D.d kc w5.heap.size _ w5 HX5.out (Nat.le_refl _) ?_
 intro vs2 w6 hv2 hk6;obtain ⟨ts, ss, tb, bs, e12, ⟨l1, l2, l3, l4⟩, t1, t2, t3, t4, t5, t6⟩ := hv2 12 (by omega)
 obtain ⟨p, e13, l5, hp6⟩ := hv2 13 (by omega)
 generalize vs2 12 = x12 at e12
 generalize vs2 13 = x13 at e13
 subst e12 e13
 have hB6 : Below w.heap.size w w6 := HB5.out.trans (hk6.mono HB5.out.size)
 have hld := HD5.out.1.on.lt
 have hlc := HC3.out.lt
 have hbase := new_base (K := ⟨key, kc, b, kg, km, kcp⟩) (B3 := w3.heap.size) (B5 := w5.heap.size) HG.out (.inl HKL.out.1) (HD5.out.1.on.below hk6).holds HD5.out.2.1 (by rw [HN4.out, HTT.out.1]) HD5.out.2.2 ⟨hld _ (.inl rfl), hld _ (.inr (.inl rfl))⟩ (HC5.out.up hk6 (Nat.le_refl _)) hlc HL35.out ⟨l1, l2, l3, l4⟩ t1 t2 t3 t4 t5 t6
 obtain ⟨X, hX⟩ : ∃ X, X = newX D n x c n4 ts ss tb bs ⟨key, kc, b, kg, km, kcp⟩ := ⟨_, rfl⟩
 have hSX : ∀ k, X.S k -> w.heap.size <= k /\ k ≠ p := fun k hk => by
  rw [hX] at hk;have hp1 : p ≠ ts := cells_ne hp6 t1 (by decide)
  have hp2 : p ≠ ss + 1 := cells_ne hp6 t2 (by decide)
  have hp3 : p ≠ ss := cells_map_ne hp6 t3
  have hp4 : p ≠ tb := cells_ne hp6 t4 (by decide)
  have hp5 : p ≠ bs + 1 := cells_ne hp6 t5 (by decide)
  have hp7 : p ≠ bs := cells_map_ne hp6 t6
  have h1 := HD5.out.2.2
  have h2 := HCB.out
  have h3 := HB3.out.size
  have h4 := HL35.out
  have h5 := hld _ (.inl rfl)
  have h6 := hld _ (.inr (.inl rfl))
  have h7 := newX_S.1 hk
  simp only at h7
  omega
 have hVX : Value.agg #[.pointer (some ⟨D.d, 0, none⟩), .pointer (some ⟨ts, 0, none⟩), .pointer (some ⟨ss + 1, 0, none⟩), .pointer (some ⟨bs + 1, 0, none⟩), .int .i64 (n : Int), .int .i64 (x : Int)] = .agg (baseV X) := by rw [hX]; rfl
 rw [hVX];have hNW : NewOf n x c key X := by
  rw [hX];exact ⟨rfl, rfl, rfl, rfl, rfl, rfl, rfl, by show List.replicate (64 * n4) 0 = _; rw [HN4.out, HTT.out.1, show 64 * (4 * totalN n x) = 256 * totalN n x by omega]⟩
 rw [<- hX] at hbase;have HBASE := Lib.hid hbase;have HSX := Lib.hid hSX;have HNW := Lib.hid hNW;have HP6 := Lib.hid (And.intro hp6 (Nat.le_trans HB5.out.size l5))
 have HB6 := Lib.hid hB6;obtain ⟨B, hBB⟩ : ∃ B, B = baseV X := ⟨_, rfl⟩
 have HBE := Lib.hid hBB;rw [<- hBB];simp only [opsPnB, List.drop_succ_cons, List.drop_zero]
 clear hbase hSX hNW hp6 hB6 hX hVX hBB hv2 hk6 t1 t2 t3 t4 t5 t6 l1 l2 l3 l4 l5 hld hlc HB5 HX5 HC5 HD5
 go_upto_region 6 with (first
  | (refine wpList_store_row rfl 90 (.tmp 7) (.tmp 42) rfl p B rfl rfl 90 baseZ HP6.out.1 (by rw [HBE.out]; exact base6) (by rw [HBE.out]; rfl) (by rw [HBE.out]; exact baseV_one X) ?_)
  | fail)
 obtain ⟨w7, hw7⟩ : ∃ w7, w7 = w6.setRow p B := ⟨_, rfl⟩
 have hX7 : w7.heap[p]? = some (.cells B 90 (0, 0)) := by rw [hw7]; exact setRow_heap _ _ _ _ _ _ HP6.out.1
 have hc7 : Chg (fun k => k = p) w6 w7 := by rw [hw7]; exact Chg.setRow w6 p B rfl
 have HX7 := Lib.hid hX7;have HB7 : Hid (Below w.heap.size w w7) := by rw [hw7]; exact below_setRow HB6.out HP6.out.2 B
 have HBASE7 : Hid (BaseAt w7 X) := (HBASE.out.on.chg hc7 fun k hk e => (HSX.out k hk).2 e).holds
 rw [<- hw7];clear hw7 hX7 hc7 HBASE HB6;have HNEW := Lib.hid (heapNew_c X w7)
 rw [<- HBE.out] at HNEW;go_wp2_with (first
  | (refine wpList_load_row rfl 90 (.tmp 7) rfl p rfl _ _ _ _ HX7.out underlying90 rfl (by rw [HBE.out]; exact base6) ?_)
  | fail)
 refine HNEW.out.mono ?_
 rintro r w8 ⟨rfl, hh8, hb8⟩
 have HH8 : Hid (w8.heap[w7.heap.size + 1]? = some (.cells (heapA X) 174 (0, 0))) := hh8
 have HX8 : Hid (w8.heap[p]? = some (.cells B 90 (0, 0))) := (hb8.block _ (lt_blk HX7.out)).trans HX7.out
 have HB8 : Hid (Below w.heap.size w w8) := HB7.out.trans (hb8.mono HB7.out.size)
 have HBASE8 : Hid (BaseAt w8 X) := (HBASE7.out.on.below hb8).holds
 obtain ⟨hp, hhp⟩ : ∃ hp, hp = w7.heap.size + 1 := ⟨_, rfl⟩
 have HLH : Hid (w.heap.size <= hp /\ ∀ k, X.S k -> k < hp) := Lib.hid ⟨by have := HB7.out.size; omega, fun k hk => by have := HBASE7.out.lt k hk; omega⟩
 have HBW := Lib.hid (built_world X hp)
 obtain ⟨WA, hWA⟩ : ∃ WA, WA = worldA X hp := ⟨_, rfl⟩
 have HWA := Lib.hid hWA;rw [<- hhp] at HH8;rw [<- hhp];rw [<- HBE.out, <- hWA] at HBW
 clear hb8 hh8 HNEW HX7 HB7 HBASE7 hhp hWA;go_wp2_with (first
  | (refine wpList_load_row rfl 90 (.tmp 7) rfl p rfl _ _ _ _ HX8.out underlying90 rfl (by rw [HBE.out]; exact base6) ?_)
  | (refine wpList_build_c rfl 123 [(0, .tmp 51), (1, .tmp 52)] rfl WA ?_ ?_; exact HBW.out)
  | fail)
 go_ret2
 have hbox := below_box w8 (.cells WA 123)
 refine ⟨w8.heap.size, rfl, X, hp, ?_, (hbox.block _ (lt_blk HH8.out)).trans HH8.out, (HBASE8.out.on.below hbox).holds, HNW.out, fun k hk => (HSX.out k hk).1, HB8.out.size, HLH.out.1, fun e => ?_, fun e => ?_, fun e => ?_, HB8.out.trans (hbox.mono HB8.out.size)⟩
 ·rw [<- HWA.out]; exact heap_new' _ _
 ·exact Nat.lt_irrefl _ (HBASE8.out.lt _ e)
 ·exact Nat.lt_irrefl _ (HLH.out.2 _ e)
 ·have := lt_blk HH8.out; omega
def fmtA (a : Option Addr) (cap : Nat) : Array Value := #[.int .i64 0, .bool false, .int .i64 0, .int .i64 0, .int .i64 0, .int .i64 0, .slice a 0 cap]
def restA : Array Value := #[.int .i64 0, .int .i64 0, .int .i64 0, .int .i64 0, .int .i64 0, .int .i64 0, .bool false]
theorem act7 : (prog.info? 93).map (·.size) = some 7 := by kernel_rfl
theorem num0_c (w : World) : Calls prog 86 #[.int .i64 0] w fun r w' => r = .returned (.bool true) /\ w = w' := by
 go_enter func86, ntmps86
 go_wp2
 go_ret
 exact ⟨rfl, rfl⟩
theorem restA_one : restA.all (·.oneCell') = true := by
 rw [<- Array.all_toList]; simp [restA, Value.oneCell']
theorem rest7 : (prog.info? 241).map (·.size) = some 7 := by kernel_rfl
theorem rest0_c (a : Option Addr) (cap : Nat) (w : World) : Calls prog 156 #[.agg (fmtA a cap)] w fun r w' => r = .returned (.agg restA) /\ Below w.heap.size w w' := by
 have hx := heap_new' w (.cells (fmtA a cap) 93)
 obtain ⟨w1, hw1⟩ : ∃ w1, w1 = w.alloc (.cells (fmtA a cap) 93) := ⟨_, rfl⟩
 have hb1 : Below w.heap.size w w1 := by rw [hw1]; exact below_box _ _
 have hs1 : w1.heap.size = w.heap.size + 1 := by rw [hw1, World.size_alloc]
 rw [<- hw1] at hx;obtain ⟨w2, hw2⟩ : ∃ w2, w2 = w1.alloc (.cells restA 241) := ⟨_, rfl⟩
 have hx2 : w2.heap[w.heap.size]? = some (.cells (fmtA a cap) 93 (0, 0)) := by rw [hw2]; exact ((below_box w1 _).block _ (lt_blk hx)).trans hx
 have hr2 : w2.heap[w1.heap.size]? = some (.cells restA 241 (0, 0)) := by rw [hw2]; exact heap_new' _ _
 have hb2 : Below w.heap.size w w2 := by rw [hw2]; exact below_al hb1 _
 have c0 : w2.cell? ⟨w.heap.size, 0, none⟩ = some (.int .i64 0) := by rw [cells_at hx2 0]; rfl
 have c1 : w2.cell? ⟨w.heap.size, 1, none⟩ = some (.bool false) := by rw [cells_at hx2 1]; rfl
 have c2 : w2.cell? ⟨w.heap.size, 2, none⟩ = some (.int .i64 0) := by rw [cells_at hx2 2]; rfl
 have c3 : w2.cell? ⟨w.heap.size, 3, none⟩ = some (.int .i64 0) := by rw [cells_at hx2 3]; rfl
 have c4 : w2.cell? ⟨w.heap.size, 4, none⟩ = some (.int .i64 0) := by rw [cells_at hx2 4]; rfl
 have c5 : w2.cell? ⟨w.heap.size, 5, none⟩ = some (.int .i64 0) := by rw [cells_at hx2 5]; rfl
 have c6 : w2.cell? ⟨w.heap.size, 6, none⟩ = some (.slice a 0 cap) := by rw [cells_at hx2 6]; rfl
 obtain ⟨SA, hSA⟩ : ∃ SA, SA = fmtA a cap := ⟨_, rfl⟩
 rw [<- hSA] at hw1 ⊢
 obtain ⟨q, hq⟩ : ∃ q, q = w1.heap.size := ⟨_, rfl⟩
 have HQ := Lib.hid hq;rw [<- hq] at hr2;have HB2 := Lib.hid hb2;have HR2 := Lib.hid hr2;have HS1 := Lib.hid hs1;have HW2 : Hid (w2 = w1.alloc (.cells #[.int .i64 0, .int .i64 0, .int .i64 0, .int .i64 0, .int .i64 0, .int .i64 0, .bool false] 241)) := Lib.hid hw2
 clear hx hb1 hb2 hs1 hSA hx2 hr2 hw2 hq
 go_enter func156, ntmps156
 go_upto_region 1 with fail
 rw [<- hw1];rw [show w.heap.size + 1 = q by rw [HQ.out, HS1.out], <- HW2.out]
 clear hw1 HW2;go_wp2_with (first
  | (refine wpList_store_row rfl 241 (.tmp 2) (.tmp 18) rfl q restA rfl rfl 241 restA HR2.out rest7 rfl restA_one ?_)
  | fail)
 exact bodyPost_ret (results_cell_row rfl _ _ q 241 restA (0, 0) _ rfl (setRow_heap _ _ _ _ _ _ HR2.out) underlying241 rfl rest7) rfl ⟨rfl, below_setRow HB2.out (by have := HS1.out; have := HQ.out; omega) _⟩
def actZ : Array Value := #[.int .i64 0, .bool false, .int .i64 0, .int .i64 0, .int .i64 0, .int .i64 0, .slice none 0 0]
theorem fmtA_one (a : Option Addr) (cap : Nat) : (fmtA a cap).all (·.oneCell') = true := by
 rw [<- Array.all_toList]; simp [fmtA, Value.oneCell']
theorem bare0_c (a : Option Addr) (cap : Nat) (w : World) : Calls prog 87 #[.agg (fmtA a cap)] w fun r w' => r = .returned (.agg (fmtA a cap)) /\ Below w.heap.size w w' := by
 have hx := heap_new' w (.cells (fmtA a cap) 93)
 obtain ⟨w1, hw1⟩ : ∃ w1, w1 = w.alloc (.cells (fmtA a cap) 93) := ⟨_, rfl⟩
 have hb1 : Below w.heap.size w w1 := by rw [hw1]; exact below_box _ _
 have hs1 : w1.heap.size = w.heap.size + 1 := by rw [hw1, World.size_alloc]
 rw [<- hw1] at hx;obtain ⟨w2, hw2⟩ : ∃ w2, w2 = w1.alloc (.cells actZ 93) := ⟨_, rfl⟩
 have hx2 : w2.heap[w.heap.size]? = some (.cells (fmtA a cap) 93 (0, 0)) := by rw [hw2]; exact ((below_box w1 _).block _ (lt_blk hx)).trans hx
 have hr2 : w2.heap[w1.heap.size]? = some (.cells actZ 93 (0, 0)) := by rw [hw2]; exact heap_new' _ _
 have hb2 : Below w.heap.size w w2 := by rw [hw2]; exact below_al hb1 _
 have c0 : w2.cell? ⟨w.heap.size, 0, none⟩ = some (.int .i64 0) := by rw [cells_at hx2 0]; rfl
 have f0 : w2.frozen? ⟨w.heap.size, 0, none⟩ = false := free_at hx2 0
 obtain ⟨SA, hSA⟩ : ∃ SA, SA = fmtA a cap := ⟨_, rfl⟩
 rw [<- hSA] at hw1 ⊢
 obtain ⟨q, hq⟩ : ∃ q, q = w1.heap.size := ⟨_, rfl⟩
 have HQ := Lib.hid hq;rw [<- hq] at hr2;have HB2 := Lib.hid hb2;have HR2 := Lib.hid hr2;have HS1 := Lib.hid hs1;have HX2 := Lib.hid hx2;have HSA := Lib.hid hSA;have HW2 : Hid (w2 = w1.alloc (.cells #[.int .i64 0, .bool false, .int .i64 0, .int .i64 0, .int .i64 0, .int .i64 0, .slice none 0 0] 93)) := Lib.hid hw2
 clear hx hb1 hb2 hs1 hSA hx2 hr2 hw2 hq
 go_enter func87, ntmps87
 go_upto_region 1 with fail
 rw [<- hw1];rw [show w.heap.size + 1 = q by rw [HQ.out, HS1.out], <- HW2.out]
 clear hw1 HW2
 go_upto_region 29 with fail
 obtain ⟨w3, hw3⟩ : ∃ w3, w3 = w2.setCell ⟨w.heap.size, 0, none⟩ (.int .i64 0) := ⟨_, rfl⟩
 have hx3 : w3.heap[w.heap.size]? = some (.cells SA 93 (0, 0)) := by rw [hw3, HSA.out]; exact (block_at HX2.out 0 _).trans rfl
 have hc3 : Chg (fun k => k = w.heap.size) w2 w3 := by rw [hw3]; exact Chg.setCell _ _ _ _ rfl
 have hr3 : w3.heap[q]? = some (.cells actZ 93 (0, 0)) := (hc3.block q (lt_blk HR2.out) (by rw [HQ.out, HS1.out]; omega)).trans HR2.out
 have hb3 : Below w.heap.size w w3 := by rw [hw3]; exact Below.setCell HB2.out (p := ⟨w.heap.size, 0, none⟩) (Nat.le_refl _) _
 have HX3 := Lib.hid hx3;have HR3 := Lib.hid hr3;have HB3 := Lib.hid hb3;rw [<- hw3];clear hw3 hx3 hr3 hb3 hc3 HX2 HR2 HB2 c0 f0;go_wp2_with (first
  | (refine wpList_load_row rfl 93 (.tmp 1) rfl w.heap.size rfl _ _ _ _ HX3.out underlying93 rfl (by rw [HSA.out]; exact act7) ?_)
  | (refine wpList_store_row rfl 93 (.tmp 2) (.tmp 43) rfl q SA rfl rfl 93 actZ HR3.out (by rw [HSA.out]; exact act7) (by rw [HSA.out]; rfl) (by rw [HSA.out]; exact fmtA_one _ _) ?_)
  | fail)
 exact bodyPost_ret (results_cell_row rfl _ _ q 93 SA (0, 0) _ rfl (setRow_heap _ _ _ _ _ _ HR3.out) underlying93 rfl (by rw [HSA.out]; exact act7)) rfl ⟨by rw [HSA.out], below_setRow HB3.out (by have := HS1.out; have := HQ.out; omega) _⟩
theorem load_act {w : World} {g : Nat} {A : Array Value} (hA : A.size = 7) (h : w.heap[g]? = some (.cells A 93 (0, 0))) : (loadVar 93 ⟨g, 0, none⟩).run prog w = .ok (.agg A) w := by
 have hr := run_loadVar_mid (P := prog) w g 0 93 A.toList _ (fun j v hv => by
  rw [Nat.zero_add, cells_at h j, <- Array.getElem?_toList]; exact hv) underlying93 rfl (by rw [act7, Array.length_toList, hA])
 exact hr
theorem bytes_none (w : World) (a : Option Addr) (c : Nat) : BytesAt w a c [] := ⟨fun x hx => (by cases hx), fun h => absurd h (Nat.lt_irrefl 0)⟩
def opsScS : {o : Array Oper // some o = (Tryz.f123.body.bind (Fre.findR 1))} := ⟨_, rfl⟩
theorem fitScS : Fre.fit .any (Fre.bare opsScS.1) 17 = true := by kernel_rfl
def GScS (i : Nat) : Bool := #[true, true, true, true, true, true, true, true, true, true, true, true, true].getD i true
def gvScS (j : Nat) : Bool := match j with
 | 5 => true
 | _ => false
theorem gdScS : Fre.guardsB opsScS.1 gvScS GScS = true := by kernel_rfl
theorem glScS : Fre.guardsL opsScS.1 = [5, 5, 5, 5, 5] := by kernel_rfl
theorem sizeScS : opsScS.1.size = 13 := by kernel_rfl
def VScS (g g2 cap : Nat) (a : Option Addr) (i : Nat) (v : Value) (w : World) : Prop := match i with
 | 0 => v = .agg (fmtA a cap)
 | 1 => v = .agg restA
 | 2 => v = .agg (fmtA none 0)
 | 3 => v = .agg restA
 | 4 => v = .bool true
 | 5 => v = .bool true
 | 6 => v = .pointer (some ⟨g, 6, none⟩)
 | 7 => v = .slice a 0 cap
 | 8 => v = .pointer (some ⟨g2, 6, none⟩)
 | 9 => v = .slice none 0 0
 | 10 => v = .bool true
 | 11 => v = .bool true
 | 12 => v = .bool true
 | _ => True
section
variable {u0 u1 u4 u5 u6 u7 u8 u9 u10 u11 u12 u13 u14 u15 u16 : Value}
theorem kpScS (g g2 cap : Nat) (a : Option Addr) : ∀ j v w w', j < opsScS.1.size -> VScS g g2 cap a j v w -> Fre.Kept w w' -> VScS g g2 cap a j v w' := by
 intro j v w w' hj h hs
 rw [sizeScS] at hj;rcases cs13 hj with rfl | rfl | rfl | rfl | rfl | rfl | rfl | rfl | rfl | rfl | rfl | rfl | rfl <;> exact h
variable {g g2 cap : Nat} {a : Option Addr} {a0 : Act} {w0 : World} (h0 : w0.heap[g]? = some (.cells (fmtA a cap) 93 (0, 0))) (h1 : w0.heap[g2]? = some (.cells (fmtA none 0) 93 (0, 0)))
include h0 h1
theorem stScS_0 (g92 : a0.tmps.getD 2 undef = .pointer (some ⟨g, 0, none⟩)) : Fre.StepB prog opsScS.1 a0 w0 (VScS g g2 cap a) Fre.Kept 0 := by
 rintro E w hc hf hE hV hN hS _ ⟨⟩
 simp only [opsScS, gA, gS, gZ]
 have b2 : E (.tmp 2) = .pointer (some ⟨g, 0, none⟩) := (hE 2 (by kernel_rfl)).trans g92
 clear g92;have hr := load_act (A := fmtA a cap) rfl ((hS.block g (lt_blk h0)).trans h0)
 refine Fre.dv (v := .agg (fmtA a cap)) ?_
 unfold execOp;simp only [Instr.loadAt, Instr.sureAddr, Sem.run_bind, Sem.run_pure, Result.andThen_ok, hr, b2]
theorem stScS_1 : Fre.StepB prog opsScS.1 a0 w0 (VScS g g2 cap a) Fre.Kept 1 := by
 rintro E w hc hf hE hV hN hS _ ⟨⟩
 simp only [opsScS, gA, gS, gZ]
 have d0 : E (.tmp 5) = .agg (fmtA a cap) := hV 0 5 (by kernel_rfl) (by kernel_rfl)
 refine Fre.Does.enter (f := 156) (args := #[.agg (fmtA a cap)]) (w' := w) ?_ ((rest0_c a cap w).mono ?_)
 ·go_simp
 ·rintro e w' ⟨rfl, hk'⟩
  exact ⟨_, rfl, rfl, hk'⟩
theorem stScS_2 (g93 : a0.tmps.getD 3 undef = .pointer (some ⟨g2, 0, none⟩)) : Fre.StepB prog opsScS.1 a0 w0 (VScS g g2 cap a) Fre.Kept 2 := by
 rintro E w hc hf hE hV hN hS _ ⟨⟩
 simp only [opsScS, gA, gS, gZ]
 have b3 : E (.tmp 3) = .pointer (some ⟨g2, 0, none⟩) := (hE 3 (by kernel_rfl)).trans g93
 clear g93;have hr := load_act (A := fmtA none 0) rfl ((hS.block g2 (lt_blk h1)).trans h1)
 refine Fre.dv (v := .agg (fmtA none 0)) ?_
 unfold execOp;simp only [Instr.loadAt, Instr.sureAddr, Sem.run_bind, Sem.run_pure, Result.andThen_ok, hr, b3]
theorem stScS_3 : Fre.StepB prog opsScS.1 a0 w0 (VScS g g2 cap a) Fre.Kept 3 := by
 rintro E w hc hf hE hV hN hS _ ⟨⟩
 simp only [opsScS, gA, gS, gZ]
 have d2 : E (.tmp 7) = .agg (fmtA none 0) := hV 2 7 (by kernel_rfl) (by kernel_rfl)
 refine Fre.Does.enter (f := 156) (args := #[.agg (fmtA none 0)]) (w' := w) ?_ ((rest0_c none 0 w).mono ?_)
 ·go_simp
 ·rintro e w' ⟨rfl, hk'⟩
  exact ⟨_, rfl, rfl, hk'⟩
theorem stScS_4 : Fre.StepB prog opsScS.1 a0 w0 (VScS g g2 cap a) Fre.Kept 4 := by
 rintro E w hc hf hE hV hN hS _ ⟨⟩
 simp only [opsScS, gA, gS, gZ]
 have d1 : E (.tmp 6) = .agg restA := hV 1 6 (by kernel_rfl) (by kernel_rfl)
 have d3 : E (.tmp 8) = .agg restA := hV 3 8 (by kernel_rfl) (by kernel_rfl)
 unfold restA at d1 d3
 refine Fre.dv (v := .bool true) ?_
 go_simp
theorem stScS_5 : Fre.StepB prog opsScS.1 a0 w0 (VScS g g2 cap a) Fre.Kept 5 := by
 rintro E w hc hf hE hV hN hS _ ⟨⟩
 simp only [opsScS, gA, gS, gZ]
 have d4 : E (.tmp 9) = .bool true := hV 4 9 (by kernel_rfl) (by kernel_rfl)
 refine Fre.dv (v := .bool true) ?_
 go_simp
theorem stScS_6 (g92 : a0.tmps.getD 2 undef = .pointer (some ⟨g, 0, none⟩)) : Fre.StepB prog opsScS.1 a0 w0 (VScS g g2 cap a) Fre.Kept 6 := by
 rintro E w hc hf hE hV hN hS _ ⟨⟩
 simp only [opsScS, gA, gS, gZ]
 have b2 : E (.tmp 2) = .pointer (some ⟨g, 0, none⟩) := (hE 2 (by kernel_rfl)).trans g92
 clear g92;refine Fre.dv (v := .pointer (some ⟨g, 6, none⟩)) ?_
 go_simp
theorem stScS_7 : Fre.StepB prog opsScS.1 a0 w0 (VScS g g2 cap a) Fre.Kept 7 := by
 rintro E w hc hf hE hV hN hS _ ⟨⟩
 simp only [opsScS, gA, gS, gZ]
 have d6 : E (.tmp 11) = .pointer (some ⟨g, 6, none⟩) := hV 6 11 (by kernel_rfl) (by kernel_rfl)
 have c0 : w.cell? ⟨g, 6, none⟩ = some (.slice a 0 cap) := by rw [cells_at ((hS.block g (lt_blk h0)).trans h0) 6]; rfl
 refine Fre.dv (v := .slice a 0 cap) ?_
 go_simp
theorem stScS_8 (g93 : a0.tmps.getD 3 undef = .pointer (some ⟨g2, 0, none⟩)) : Fre.StepB prog opsScS.1 a0 w0 (VScS g g2 cap a) Fre.Kept 8 := by
 rintro E w hc hf hE hV hN hS _ ⟨⟩
 simp only [opsScS, gA, gS, gZ]
 have b3 : E (.tmp 3) = .pointer (some ⟨g2, 0, none⟩) := (hE 3 (by kernel_rfl)).trans g93
 clear g93;refine Fre.dv (v := .pointer (some ⟨g2, 6, none⟩)) ?_
 go_simp
theorem stScS_9 : Fre.StepB prog opsScS.1 a0 w0 (VScS g g2 cap a) Fre.Kept 9 := by
 rintro E w hc hf hE hV hN hS _ ⟨⟩
 simp only [opsScS, gA, gS, gZ]
 have d8 : E (.tmp 13) = .pointer (some ⟨g2, 6, none⟩) := hV 8 13 (by kernel_rfl) (by kernel_rfl)
 have c0 : w.cell? ⟨g2, 6, none⟩ = some (.slice none 0 0) := by rw [cells_at ((hS.block g2 (lt_blk h1)).trans h1) 6]; rfl
 refine Fre.dv (v := .slice none 0 0) ?_
 go_simp
theorem stScS_10 : Fre.StepB prog opsScS.1 a0 w0 (VScS g g2 cap a) Fre.Kept 10 := by
 rintro E w hc hf hE hV hN hS _ ⟨⟩
 simp only [opsScS, gA, gS, gZ]
 have d7 : E (.tmp 12) = .slice a 0 cap := hV 7 12 (by kernel_rfl) (by kernel_rfl)
 have d9 : E (.tmp 14) = .slice none 0 0 := hV 9 14 (by kernel_rfl) (by kernel_rfl)
 refine Fre.Does.enter (f := 13) (args := #[.slice a 0 cap, .slice none 0 0]) (w' := w) ?_ ((equalB_c a none cap 0 0 0 [] [] rfl rfl w (bytes_none w a cap) (bytes_none w none 0)).mono ?_)
 ·go_simp
 ·rintro e w' ⟨rfl, rfl⟩
  exact ⟨_, rfl, rfl, Fre.Kept.refl _⟩
theorem stScS_11 : Fre.StepB prog opsScS.1 a0 w0 (VScS g g2 cap a) Fre.Kept 11 := by
 rintro E w hc hf hE hV hN hS _ ⟨⟩
 simp only [opsScS, gA, gS, gZ]
 have d5 : E (.tmp 10) = .bool true := hV 5 10 (by kernel_rfl) (by kernel_rfl)
 have d10 : E (.tmp 15) = .bool true := hV 10 15 (by kernel_rfl) (by kernel_rfl)
 refine Fre.dv (v := .bool true) ?_
 go_simp
theorem stScS_12 : Fre.StepB prog opsScS.1 a0 w0 (VScS g g2 cap a) Fre.Kept 12 := by
 rintro E w hc hf hE hV hN hS _ ⟨⟩
 simp only [opsScS, gA, gS, gZ]
 have d11 : E (.tmp 16) = .bool true := hV 11 16 (by kernel_rfl) (by kernel_rfl)
 refine Fre.dv (v := .bool true) ?_
 go_simp
variable (g g2 cap a w0)
theorem regionScS {QQ : Exit -> Act -> World -> Prop} (hQ : ∀ (vs : Nat -> Value) w, (∀ j, j < 13 -> VScS g g2 cap a j (vs j) w) -> Fre.Kept w0 w -> QQ .normal ⟨#[u0, u1, .pointer (some ⟨g, 0, none⟩), .pointer (some ⟨g2, 0, none⟩), vs 12, vs 0, vs 1, vs 2, vs 3, vs 4, vs 5, vs 6, vs 7, vs 8, vs 9, vs 10, vs 11], []⟩ w) : (Code.region 1 opsScS.1 true).wp prog QQ ⟨#[u0, u1, .pointer (some ⟨g, 0, none⟩), .pointer (some ⟨g2, 0, none⟩), u4, u5, u6, u7, u8, u9, u10, u11, u12, u13, u14, u15, u16], []⟩ w0 := by
 refine Fre.region_keptG 17 (by kernel_rfl) fitScS rfl (VScS g g2 cap a) GScS gvScS gdScS (fun j hj v w hV => ?_) (kpScS g g2 cap a) (fun i hi hg => ?_) (fun i hi hg w => ?_) (fun vs w h1 h2 => ?_)
 case refine_1 =>
  have hj2 := Fre.isGuard_mem hj
  rw [glScS] at hj2;have hc : j = 5 := by simpa using hj2
  rcases hc with rfl
  ·exact hV
 case refine_3 =>
  rw [sizeScS] at hi;rcases cs13 hi with rfl | rfl | rfl | rfl | rfl | rfl | rfl | rfl | rfl | rfl | rfl | rfl | rfl <;> exact absurd hg (by decide)
 case refine_4 =>
  have h9 := hQ vs w (fun j hj => h1 j (by rw [sizeScS]; exact hj)) h2
  exact Fre.fe (p := fun t => QQ .normal ⟨t, []⟩ w) h9 (by kernel_rfl)
 rw [sizeScS] at hi;rcases cs13 hi with rfl | rfl | rfl | rfl | rfl | rfl | rfl | rfl | rfl | rfl | rfl | rfl | rfl
 ·exact stScS_0 h0 h1 rfl
 ·exact stScS_1 h0 h1
 ·exact stScS_2 h0 h1 rfl
 ·exact stScS_3 h0 h1
 ·exact stScS_4 h0 h1
 ·exact stScS_5 h0 h1
 ·exact stScS_6 h0 h1 rfl
 ·exact stScS_7 h0 h1
 ·exact stScS_8 h0 h1 rfl
 ·exact stScS_9 h0 h1
 ·exact stScS_10 h0 h1
 ·exact stScS_11 h0 h1
 ·exact stScS_12 h0 h1
end
theorem same0_c (a : Option Addr) (cap : Nat) (w : World) : Calls prog 123 #[.agg (fmtA a cap), .agg (fmtA none 0)] w fun r w' => r = .returned (.bool true) /\ Below w.heap.size w w' := by
 obtain ⟨A, hA⟩ : ∃ A, A = fmtA a cap := ⟨_, rfl⟩
 obtain ⟨B, hB⟩ : ∃ B, B = fmtA none 0 := ⟨_, rfl⟩
 obtain ⟨w2, hw2⟩ : ∃ w2, w2 = (w.alloc (.cells A 93)).alloc (.cells B 93) := ⟨_, rfl⟩
 have h0 : w2.heap[w.heap.size]? = some (.cells (fmtA a cap) 93 (0, 0)) := by rw [hw2, <- hA]; exact ((below_box _ _).block _ (by rw [World.size_alloc]; omega)).trans (World.alloc_heap_new _ _)
 have h1 : w2.heap[w.heap.size + 1]? = some (.cells (fmtA none 0) 93 (0, 0)) := by rw [hw2, <- hB, show w.heap.size + 1 = (w.alloc (.cells A 93)).heap.size by rw [World.size_alloc]]; exact heap_new' _ _
 have hb2 : Below w.heap.size w w2 := by rw [hw2]; exact below_al (below_box _ _) _
 rw [<- hA, <- hB]
 have H0 := Lib.hid h0;have H1 := Lib.hid h1;have HB2 := Lib.hid hb2;clear h0 h1 hb2 hA hB
 go_enter func123, ntmps123
 go_upto_region 1 with fail
 rw [<- hw2];clear hw2;refine regionScS w.heap.size (w.heap.size + 1) cap a w2 H0.out H1.out ?_
 intro vs w3 hv hk;have e12 : vs 12 = .bool true := hv 12 (by omega)
 generalize vs 12 = x12 at e12
 subst e12;have HB3 : Hid (Below w.heap.size w w3) := HB2.out.trans (hk.mono HB2.out.size)
 clear hv hk;go_wp2
 go_ret
 exact ⟨rfl, HB3.out⟩
theorem built_act : prog.built 93 [] = some (fmtA none 0) := by kernel_rfl
theorem zero0_c (a : Option Addr) (cap : Nat) (w : World) : Calls prog 88 #[.agg (fmtA a cap)] w fun r w' => r = .returned (.bool true) /\ Below w.heap.size w w' := by
 obtain ⟨A, hA⟩ : ∃ A, A = fmtA a cap := ⟨_, rfl⟩
 obtain ⟨B, hB⟩ : ∃ B, B = fmtA none 0 := ⟨_, rfl⟩
 have HS := Lib.hid (fun w => same0_c a cap w)
 have HBT := Lib.hid built_act;rw [<- hA] at HS ⊢
 rw [<- hB] at HS HBT;have HA := Lib.hid hA;obtain ⟨w1, hw1⟩ : ∃ w1, w1 = w.alloc (.cells A 93) := ⟨_, rfl⟩
 have HX := Lib.hid (heap_new' w (.cells A 93))
 rw [<- hw1] at HX;have HB1 : Hid (Below w.heap.size w w1) := Lib.hid (by rw [hw1]; exact below_box _ _)
 clear hA hB
 go_enter func88, ntmps88
 go_upto_region 1 with fail
 rw [<- hw1];clear hw1;go_wp2_with (first
  | (refine wpList_load_row rfl 93 (.tmp 1) rfl w.heap.size rfl _ _ _ _ HX.out underlying93 rfl (by rw [HA.out]; exact act7) ?_)
  | (refine wpList_build_c rfl 93 [] rfl B ?_ ?_; exact HBT.out)
  | fail)
 refine (HS.out _).mono ?_
 rintro r w2 ⟨rfl, hb2⟩
 have HB2 : Hid (Below w.heap.size w w2) := HB1.out.trans (hb2.mono HB1.out.size)
 clear hb2 HS;go_wp2
 go_ret
 exact ⟨rfl, HB2.out⟩
theorem may0_c (a : Option Addr) (cap : Nat) (w : World) : Calls prog 70 #[.agg (fmtA a cap)] w fun r w' => r = .returned (.bool true) /\ Below w.heap.size w w' := by
 obtain ⟨A, hA⟩ : ∃ A, A = fmtA a cap := ⟨_, rfl⟩
 have HBR := Lib.hid (fun w => bare0_c a cap w)
 have HZ := Lib.hid (fun w => zero0_c a cap w)
 obtain ⟨w1, hw1⟩ : ∃ w1, w1 = w.alloc (.cells (fmtA a cap) 93) := ⟨_, rfl⟩
 have hx := heap_new' w (.cells (fmtA a cap) 93)
 rw [<- hw1] at hx;have c0 : w1.cell? ⟨w.heap.size, 0, none⟩ = some (.int .i64 0) := by rw [cells_at hx 0]; rfl
 have c2 : w1.cell? ⟨w.heap.size, 2, none⟩ = some (.int .i64 0) := by rw [cells_at hx 2]; rfl
 have c3 : w1.cell? ⟨w.heap.size, 3, none⟩ = some (.int .i64 0) := by rw [cells_at hx 3]; rfl
 have c4 : w1.cell? ⟨w.heap.size, 4, none⟩ = some (.int .i64 0) := by rw [cells_at hx 4]; rfl
 have c5 : w1.cell? ⟨w.heap.size, 5, none⟩ = some (.int .i64 0) := by rw [cells_at hx 5]; rfl
 have c6 : w1.cell? ⟨w.heap.size, 6, none⟩ = some (.slice a 0 cap) := by rw [cells_at hx 6]; rfl
 rw [<- hA] at HBR HZ hw1 hx ⊢
 have HA := Lib.hid hA;have HX := Lib.hid hx;have HB1 : Hid (Below w.heap.size w w1) := Lib.hid (by rw [hw1]; exact below_box _ _)
 clear hA hx
 go_enter func70, ntmps70
 go_upto_region 1 with fail
 rw [<- hw1];clear hw1;go_wp2_with fail
 refine (num0_c _).mono ?_
 rintro r w2 ⟨rfl, rfl⟩
 go_wp2_with fail
 refine (num0_c _).mono ?_
 rintro r w2 ⟨rfl, rfl⟩
 go_wp2_with fail
 refine (num0_c _).mono ?_
 rintro r w2 ⟨rfl, rfl⟩
 go_wp2_with fail
 refine (num0_c _).mono ?_
 rintro r w2 ⟨rfl, rfl⟩
 go_wp2_with (first
  | (refine wpList_load_rowG (by rfl) 93 (.tmp 1) rfl w.heap.size rfl _ _ _ _ HX.out underlying93 rfl (by rw [HA.out]; exact act7) ?_)
  | fail)
 refine (HBR.out _).mono ?_
 rintro r w2 ⟨rfl, hb2⟩
 have HB2 : Hid (Below w.heap.size w w2) := HB1.out.trans (hb2.mono HB1.out.size)
 clear hb2 HBR;go_wp2_with fail
 refine (HZ.out _).mono ?_
 rintro r w3 ⟨rfl, hb3⟩
 have HB3 : Hid (Below w.heap.size w w3) := HB2.out.trans (hb3.mono HB2.out.size)
 clear hb3 HZ;go_wp2
 go_ret
 exact ⟨rfl, HB3.out⟩
end Go.Proofs.YtnmdjggdgakeoaaGreat
