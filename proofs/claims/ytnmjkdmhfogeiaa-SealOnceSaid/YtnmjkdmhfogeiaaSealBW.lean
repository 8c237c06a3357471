/- The walk of the law SealBack. Printed by gen_sealw.py. -/
import Derived.Test.YtnmjkdmhfogeiaaSealD
set_option linter.unusedVariables false
set_option linter.unusedSimpArgs false
namespace Go.Proofs.Ytnmjkdmhfogeiaa
open Go Go.RowKit GfM
theorem wpAnyH_more {P : Program} {md : Region.Mode} {ops : Array Oper} {Q : Exit → Act → World → Prop} {S S' : World → Prop} (hS : ∀ w, S' w → S w) : ∀ (fuel : Nat) (listed : Array Bool) (a : Act) (w : World), wpAnyH P md ops Q S' fuel listed a w → wpAnyH P md ops Q S fuel listed a w
  | 0, _, _, _, h => h
  | fuel + 1, _, _, _, h => ⟨h.1, fun i hi => wpOp_mono (fun a' w' h' => ⟨hS _ h'.1, wpAnyH_more hS fuel _ a' w' h'.2⟩) (h.2 i hi)⟩
theorem row_nil {w : World} {a : Option Addr} {len cap : Nat} {zs : List Int} {k : IntKind} (hrow : IsRow k w a len cap zs) : a = none → cap = 0 := by
  intro ha
  rcases hrow with ⟨_, _, h, _⟩ | ⟨_, h, _⟩
  · exact h
  · rw [ha] at h; cases h
/-- Full of a slice that came in, in whatever later world -/
theorem full_in {w : World} {a : Option Addr} {len cap : Nat} {zs : List Int} (hrow : IsRow .u8 w a len cap zs) : ∃ p : List Nat, p.length = 256 ∧ (∀ x ∈ p, x < 256) ∧ ∀ w', Below w.heap.size w w' → Calls Try.prog 59 #[.slice a len cap] w' fun e w'' => ∃ q cp, e = .returned (.slice (some ⟨q, 0, none⟩) 256 cp) ∧ BytesAt w'' (some ⟨q, 0, none⟩) cp p ∧ Below w'.heap.size w' w'' := by
  obtain ⟨l, hl, hB⟩ := bytesAt_in hrow 256
  obtain ⟨h1, h2⟩ := row_cap hrow
  refine ⟨fullL l, fullL_len l (by omega), fullL_lt hB.1, fun w' hb => ?_⟩
  exact (full_c a len cap h1 h2 (row_nil hrow) l hl w' (hB.up hb (Nat.le_refl _))).mono fun e w'' ⟨q, cp, e1, _, _, e2, e3⟩ => ⟨q, cp, e1, e2, e3⟩
theorem xorL_inj {p q s : List Nat} (h : xorL p s = xorL q s) : p = q := by rw [← xorL_back p s, h, xorL_back q s]
theorem xor_dec (p q s : List Nat) : decide (xorL p s = xorL q s) = decide (p = q) := by
  by_cases h : p = q
  · subst h; simp
  · have : ¬ xorL p s = xorL q s := fun h' => h (xorL_inj h')
    simp [h, this]
set_option maxRecDepth 100000 in
set_option maxHeartbeats 8000000 in
theorem walkSealBack (w : World) (k : List Nat) (hk : k.length = 16) (hkb : ∀ x ∈ k, x < 256) (e : Int) (we : (Lit.int .u64 e).wf = true) (b : Int) (wb : (Lit.int .u16 b).wf = true) (a3 : Option Addr) (len3 cap3 : Nat) (zs3 : List Int) (hrow3 : IsRow .u8 w a3 len3 cap3 zs3) :
    Calls Try.prog 22 #[.agg (bA k), .int .u64 e, .int .u16 b, .slice a3 len3 cap3] w fun e w' => e = .returned (.bool true) ∧ Below w.heap.size w w' := by
  obtain ⟨e, he, rfl⟩ := wf_nat64 we
  obtain ⟨b, hb, rfl⟩ := wf_nat16 wb
  obtain ⟨p3, hp3, hpb3, hF3⟩ := full_in hrow3
  have h0 := heap_new' w (.cells (bA k) 44)
  have hbl : Below w.heap.size w (w.alloc (.cells (bA k) 44)) := (Below.refl _ _).alloc (Nat.le_refl _) _
  have ew : IntKind.i64.wrap (b : Int) = (b : Int) := IntWalk.i64_in _ (by omega)
  have HK := Lib.hid (And.intro hk hkb)
  have H0 := Lib.hid h0
  have HBL := Lib.hid hbl
  have HMK : Hid (∀ w', Calls Try.prog 57 #[.agg (bA k)] w' fun e w'' => ∃ s m, e = .returned (.pointer (some ⟨s, 0, none⟩)) ∧ Slr w'' w'.heap.size s m k [] none ∧ Below w'.heap.size w' w'') := fun w' => made_c k hk hkb w'
  have HSE : Hid (∀ (B s m : Nat) (M : MapM) (T : Option (Nat × Nat)) (a : Option Addr) (cap : Nat) (p : List Nat) (w' : World), p.length = 256 → B ≤ w'.heap.size → Slr w' B s m k M T → BytesAt w' a cap p → Calls Try.prog 58 #[.pointer (some ⟨s, 0, none⟩), .int .u64 (e : Int), .int .i64 (b : Int), .slice a 256 cap] w' fun r w'' =>
      ∃ q M' T', r = .returned (.tuple #[.slice (some ⟨q, 0, none⟩) 256 256, .int .i64 0]) ∧ SStp M T (e, b) p M' T' ∧ w'.heap.size ≤ q ∧ w''.heap[q]? = some (.cells (bA (xorL p (strL k e b 256))) 5 (0, 0)) ∧ Slr w'' B s m k M' T' ∧ Below B w' w'' ∧ (∀ k, k < w'.heap.size → k ≠ s → k ≠ m → w''.heap[k]? = w'.heap[k]?)) :=
    fun B s m M T a cap p w' hp hB hS hBA => seal_c (Or.inl hk) e b he hb a cap p hp w' hB hS hBA
  have HOP : Hid (∀ (B s m : Nat) (M : MapM) (T : Option (Nat × Nat)) (a : Option Addr) (cap : Nat) (l : List Nat) (w' : World), l.length = 256 → Slr w' B s m k M T → BytesAt w' a cap l → Calls Try.prog 62 #[.pointer (some ⟨s, 0, none⟩), .int .u64 (e : Int), .int .i64 (b : Int), .slice a 256 cap] w' fun r w'' =>
      ∃ q, r = .returned (.tuple #[.slice (some ⟨q, 0, none⟩) 256 256, .int .i64 0]) ∧ w'.heap.size ≤ q ∧ w''.heap[q]? = some (.cells (bA (xorL l (strL k e b 256))) 5 (0, 0)) ∧ Below w'.heap.size w' w'') :=
    fun B s m M T a cap l w' hl hS hB => open_c (Or.inl hk) e b he hb a cap l hl w' hS hB
  have HP3 := Lib.hid (And.intro hp3 hpb3)
  have HF3 := Lib.hid hF3
  clear we wb hk hkb he hb h0 hbl hrow3 hp3 hpb3 hF3
  generalize hW0 : (w.alloc (.cells (bA k) 44)) = W0 at *
  go_enter Try.func22, Try.ntmps22
  go_wp2_with (first
    | (refine wpList_load_row rfl 44 (.tmp 4) rfl w.heap.size rfl _ _ _ _ (by first | exact H0.out | (rw [hW0]; exact H0.out)) Try.underlying44 rfl (by rw [zero16', bA_size, HK.out.1]) ?_)
    | fail)
  refine (HMK.out W0).mono ?_
  rintro r w1 ⟨s, m, rfl, hS1, hb1⟩
  clear hW0
  have HS1 := Lib.hid hS1
  have HB1 : Hid (Below w.heap.size w w1) := HBL.out.trans (hb1.mono HBL.out.size)
  have HB0 : Hid (Below W0.heap.size W0 w1) := Lib.hid hb1
  clear hS1 hb1
  go_wp2_with fail
  refine (HF3.out w1 HB1.out).mono ?_
  rintro r wB2 ⟨qB2, cB2, rfl, hBB2, hlB2⟩
  have HSB2 := Lib.hid (HS1.out.up hlB2 (Nat.le_refl _))
  have HBB2 : Hid (Below w.heap.size w wB2) := HB1.out.trans (hlB2.mono HB1.out.size)
  have HCB2 : Hid (Below W0.heap.size W0 wB2) := HB0.out.trans (hlB2.mono HB0.out.size)
  have HIN2 := Lib.hid hBB2
  clear hBB2 hlB2
  go_wp2_with fail
  refine (HSE.out W0.heap.size s m _ _ _ cB2 p3 wB2 HP3.out.1 HCB2.out.size HSB2.out HIN2.out).mono ?_
  rintro r wC2 ⟨qC2, M2, T2, rfl, hst2, hqC2, hxC2, hSC2, hlC2, hkC2⟩
  have HS2 := Lib.hid hSC2
  have HC2 : Hid (Below W0.heap.size W0 wC2) := HCB2.out.trans hlC2
  have HB2 : Hid (Below w.heap.size w wC2) := HBB2.out.trans (hlC2.mono HBL.out.size)
  have hxl2 : ∀ x ∈ xorL p3 (strL k e b 256), x < 256 := xorL_lt HP3.out.2 (by obtain ⟨⟨_, _, _, ⟨_, _, _, _, h⟩, _⟩, _⟩ := HS2.out; exact strL_lt (Or.inl HK.out.1) h.fbyte e b 256)
  have HXL2 := Lib.hid hxl2
  have HXN2 : Hid ((xorL p3 (strL k e b 256)).length = 256) := by show _ = _; rw [xorL_len]; exact HP3.out.1
  have HX2 : Hid (BytesAt wC2 (some ⟨qC2, 0, none⟩) 256 (xorL p3 (strL k e b 256))) := by have := bytesAt_block hxl2 hxC2; rw [xorL_len, HP3.out.1] at this; exact this
  clear hst2 hqC2 hxC2 hSC2 hlC2 hkC2 hxl2 HS1 HB1 HB0 HSB2 HBB2 HCB2 HIN2 
  obtain ⟨X, hX⟩ : ∃ X, X = xorL p3 (strL k e b 256) := ⟨_, rfl⟩
  have HBK : Hid (xorL X (strL k e b 256) = p3) := by show _ = _; rw [hX]; exact xorL_back _ _
  rw [← hX] at HX2 HXL2 HXN2
  clear hX
  go_wp2_with fail
  refine (HOP.out _ s m _ _ _ 256 X wC2 HXN2.out HS2.out HX2.out).mono ?_
  rintro r w4 ⟨q4, rfl, hq4, hx4, hb4⟩
  rw [HBK.out] at hx4
  have HX4 : Hid (BytesAt w4 (some ⟨q4, 0, none⟩) 256 p3) := by have := bytesAt_block HP3.out.2 hx4; rw [HP3.out.1] at this; exact this
  have HB4 : Hid (Below w.heap.size w w4) := HB2.out.trans (hb4.mono HB2.out.size)
  clear hx4 hb4 hq4 HS2 HB2 HC2 HX2
  go_wp2
  refine wp_region_held_drew (S := fun w' => Below w4.heap.size w4 w') (by kernel_rfl) (Below.refl _ _).drew ?_
  intro hS
  generalize w4.drew = WD at hS ⊢
  change wpAnyH _ _ _ _ _ 18 #[false, false, false, false, false, false, false, false, false, false, false, false, false, false, false, false, false, false] _ _
  refine wpAnyH_take (i := 0) (v := ?_) rfl (by kernel_rfl) (by kernel_rfl) (by kernel_rfl) (fun _ _ _ h => h) (Or.inl ⟨by rfl, ?hy⟩) hS ?_
  case hy => intro w' hSw; go_simp; try with_reducible rfl
  simp only [List.getElem_toArray, List.getElem_cons_succ, List.getElem_cons_zero, Act.put, List.setIfInBounds_toArray, List.set_cons_zero, List.set_cons_succ]
  change wpAnyH _ _ _ _ _ 17 #[true, false, false, false, false, false, false, false, false, false, false, false, false, false, false, false, false, false] _ _
  refine wpAnyH_take (i := 1) (v := ?_) rfl (by kernel_rfl) (by kernel_rfl) (by kernel_rfl) (fun _ _ _ h => h) (Or.inl ⟨by rfl, ?hy⟩) hS ?_
  case hy => intro w' hSw; go_simp; try with_reducible rfl
  simp only [List.getElem_toArray, List.getElem_cons_succ, List.getElem_cons_zero, Act.put, List.setIfInBounds_toArray, List.set_cons_zero, List.set_cons_succ]
  change wpAnyH _ _ _ _ _ 16 #[true, true, false, false, false, false, false, false, false, false, false, false, false, false, false, false, false, false] _ _
  refine wpAnyH_take (i := 2) (v := ?_) rfl (by kernel_rfl) (by kernel_rfl) (by kernel_rfl) (fun _ _ _ h => h) (Or.inl ⟨by rfl, ?hy⟩) hS ?_
  case hy => intro w' hSw; go_simp; try with_reducible rfl
  simp only [List.getElem_toArray, List.getElem_cons_succ, List.getElem_cons_zero, Act.put, List.setIfInBounds_toArray, List.set_cons_zero, List.set_cons_succ]
  change wpAnyH _ _ _ _ _ 15 #[true, true, true, false, false, false, false, false, false, false, false, false, false, false, false, false, false, false] _ _
  refine wpAnyH_take (i := 3) (v := ?_) rfl (by kernel_rfl) (by kernel_rfl) (by kernel_rfl) (fun _ _ _ h => h) (Or.inl ⟨by rfl, ?hy⟩) hS ?_
  case hy => intro w' hSw; go_simp; try with_reducible rfl
  simp only [List.getElem_toArray, List.getElem_cons_succ, List.getElem_cons_zero, Act.put, List.setIfInBounds_toArray, List.set_cons_zero, List.set_cons_succ]
  change wpAnyH _ _ _ _ _ 14 #[true, true, true, true, false, false, false, false, false, false, false, false, false, false, false, false, false, false] _ _
  refine wpAnyH_take (i := 4) (v := ?_) rfl (by kernel_rfl) (by kernel_rfl) (by kernel_rfl) (fun _ _ _ h => h) (Or.inl ⟨by rfl, ?hy⟩) hS ?_
  case hy => intro w' hSw; go_simp; try with_reducible rfl
  simp only [List.getElem_toArray, List.getElem_cons_succ, List.getElem_cons_zero, Act.put, List.setIfInBounds_toArray, List.set_cons_zero, List.set_cons_succ]
  change wpAnyH _ _ _ _ _ 13 #[true, true, true, true, true, false, false, false, false, false, false, false, false, false, false, false, false, false] _ _
  refine wpAnyH_take (i := 5) (v := ?_) rfl (by kernel_rfl) (by kernel_rfl) (by kernel_rfl) (fun _ _ _ h => h) (Or.inl ⟨by rfl, ?hy⟩) hS ?_
  case hy => intro w' hSw; go_simp; try with_reducible rfl
  simp only [List.getElem_toArray, List.getElem_cons_succ, List.getElem_cons_zero, Act.put, List.setIfInBounds_toArray, List.set_cons_zero, List.set_cons_succ]
  change wpAnyH _ _ _ _ _ 12 #[true, true, true, true, true, true, false, false, false, false, false, false, false, false, false, false, false, false] _ _
  refine wpAnyH_take (i := 6) (v := ?_) rfl (by kernel_rfl) (by kernel_rfl) (by kernel_rfl) (fun _ _ _ h => h) (Or.inl ⟨by rfl, ?hy⟩) hS ?_
  case hy => intro w' hSw; go_simp; try with_reducible rfl
  simp only [List.getElem_toArray, List.getElem_cons_succ, List.getElem_cons_zero, Act.put, List.setIfInBounds_toArray, List.set_cons_zero, List.set_cons_succ]
  change wpAnyH _ _ _ _ _ 11 #[true, true, true, true, true, true, true, false, false, false, false, false, false, false, false, false, false, false] _ _
  refine wpAnyH_take (i := 7) (v := ?_) rfl (by kernel_rfl) (by kernel_rfl) (by kernel_rfl) (fun _ _ _ h => h) (Or.inl ⟨by rfl, ?hy⟩) hS ?_
  case hy => intro w' hSw; go_simp; try with_reducible rfl
  simp only [List.getElem_toArray, List.getElem_cons_succ, List.getElem_cons_zero, Act.put, List.setIfInBounds_toArray, List.set_cons_zero, List.set_cons_succ]
  change wpAnyH _ _ _ _ _ 10 #[true, true, true, true, true, true, true, true, false, false, false, false, false, false, false, false, false, false] _ _
  refine wpAnyH_take (i := 8) rfl (by kernel_rfl) (by kernel_rfl) (by kernel_rfl) (fun _ _ _ h => h) (Or.inl ⟨by rfl, fun w' hSw => run_conv_op HP3.out.1 (HX4.out.up hSw (Nat.le_refl _)) _ (.tmp 42) _ rfl rfl⟩) hS ?_
  simp only [List.getElem_toArray, List.getElem_cons_succ, List.getElem_cons_zero, Act.put, List.setIfInBounds_toArray, List.set_cons_zero, List.set_cons_succ]
  change wpAnyH _ _ _ _ _ 9 #[true, true, true, true, true, true, true, true, true, false, false, false, false, false, false, false, false, false] _ _
  refine wpAnyH_take (i := 9) (v := ?_) rfl (by kernel_rfl) (by kernel_rfl) (by kernel_rfl) (fun _ _ _ h => h) (Or.inl ⟨by rfl, ?hy⟩) hS ?_
  case hy => intro w' hSw; go_simp; try with_reducible rfl
  simp only [List.getElem_toArray, List.getElem_cons_succ, List.getElem_cons_zero, Act.put, List.setIfInBounds_toArray, List.set_cons_zero, List.set_cons_succ]
  change wpAnyH _ _ _ _ _ 8 #[true, true, true, true, true, true, true, true, true, true, false, false, false, false, false, false, false, false] _ _
  refine wpAnyH_ready (rs := [10]) (by kernel_rfl) (by simp) ?_
  refine AllReadyH.cons rfl (fun K hK => ?_) AllReadyH.nil
  rw [if_pos (by rfl)]
  go_simp
  refine (HF3.out WD (HB4.out.trans (hS.mono HB4.out.size))).mono ?_
  rintro r w5 ⟨q5, c5, rfl, hB5, hb5⟩
  refine hK.out _ _ (hS.trans (hb5.mono hS.size)) (fun hS5 => ?_)
  clear hK K
  simp only [List.getElem_toArray, List.getElem_cons_succ, List.getElem_cons_zero, Act.put, List.setIfInBounds_toArray, List.set_cons_zero, List.set_cons_succ]
  change wpAnyH _ _ _ _ _ 7 #[true, true, true, true, true, true, true, true, true, true, true, false, false, false, false, false, false, false] _ _
  refine wpAnyH_ready (rs := [11]) (by kernel_rfl) (by simp) ?_
  refine AllReadyH.cons rfl (fun K hK => ?_) AllReadyH.nil
  rw [if_pos (by rfl)]
  refine wp_conv (.tmp 45) HP3.out.1 hB5 rfl rfl ?_
  refine hK.out _ _ (hS5) (fun hS6 => ?_)
  clear hK K
  simp only [List.getElem_toArray, List.getElem_cons_succ, List.getElem_cons_zero, Act.put, List.setIfInBounds_toArray, List.set_cons_zero, List.set_cons_succ]
  change wpAnyH _ _ _ _ _ 6 #[true, true, true, true, true, true, true, true, true, true, true, true, false, false, false, false, false, false] _ _
  refine wpAnyH_take (i := 12) rfl (by kernel_rfl) (by kernel_rfl) (by kernel_rfl) (fun _ _ _ h => h) (Or.inl ⟨by rfl, fun w' hSw => run_eqs1 p3 HP3.out.2 _ (.tmp 43) (.tmp 46) _ _ rfl rfl rfl w'⟩) hS6 ?_
  simp only [List.getElem_toArray, List.getElem_cons_succ, List.getElem_cons_zero, Act.put, List.setIfInBounds_toArray, List.set_cons_zero, List.set_cons_succ]
  change wpAnyH _ _ _ _ _ 5 #[true, true, true, true, true, true, true, true, true, true, true, true, true, false, false, false, false, false] _ _
  refine wpAnyH_take (i := 13) (v := ?_) rfl (by kernel_rfl) (by kernel_rfl) (by kernel_rfl) (fun _ _ _ h => h) (Or.inl ⟨by rfl, ?hy⟩) hS6 ?_
  case hy => intro w' hSw; go_simp; try with_reducible rfl
  simp only [List.getElem_toArray, List.getElem_cons_succ, List.getElem_cons_zero, Act.put, List.setIfInBounds_toArray, List.set_cons_zero, List.set_cons_succ]
  change wpAnyH _ _ _ _ _ 4 #[true, true, true, true, true, true, true, true, true, true, true, true, true, true, false, false, false, false] _ _
  refine wpAnyH_take (i := 14) (v := ?_) rfl (by kernel_rfl) (by kernel_rfl) (by kernel_rfl) (fun _ _ _ h => h) (Or.inl ⟨by rfl, ?hy⟩) hS6 ?_
  case hy => intro w' hSw; go_simp; try with_reducible rfl
  simp only [List.getElem_toArray, List.getElem_cons_succ, List.getElem_cons_zero, Act.put, List.setIfInBounds_toArray, List.set_cons_zero, List.set_cons_succ]
  change wpAnyH _ _ _ _ _ 3 #[true, true, true, true, true, true, true, true, true, true, true, true, true, true, true, false, false, false] _ _
  refine wpAnyH_ready (rs := [15]) (by kernel_rfl) (by simp) ?_
  refine AllReadyH.cons rfl (fun K hK => ?_) AllReadyH.nil
  rw [if_pos (by rfl)]
  go_simp
  refine (awake10_c w5).mono ?_
  rintro r w6 ⟨rfl, hb6⟩
  refine hK.out _ _ (hS6.trans (hb6.mono hS6.size)) (fun hS7 => ?_)
  clear hK K
  simp only [List.getElem_toArray, List.getElem_cons_succ, List.getElem_cons_zero, Act.put, List.setIfInBounds_toArray, List.set_cons_zero, List.set_cons_succ]
  change wpAnyH _ _ _ _ _ 2 #[true, true, true, true, true, true, true, true, true, true, true, true, true, true, true, true, false, false] _ _
  refine wpAnyH_take (i := 16) (v := ?_) rfl (by kernel_rfl) (by kernel_rfl) (by kernel_rfl) (fun _ _ _ h => h) (Or.inl ⟨by rfl, ?hy⟩) hS7 ?_
  case hy => intro w' hSw; go_simp; try with_reducible rfl
  simp only [List.getElem_toArray, List.getElem_cons_succ, List.getElem_cons_zero, Act.put, List.setIfInBounds_toArray, List.set_cons_zero, List.set_cons_succ]
  change wpAnyH _ _ _ _ _ 1 #[true, true, true, true, true, true, true, true, true, true, true, true, true, true, true, true, true, false] _ _
  refine wpAnyH_take (i := 17) (v := ?_) rfl (by kernel_rfl) (by kernel_rfl) (by kernel_rfl) (fun _ _ _ h => h) (Or.inl ⟨by rfl, ?hy⟩) hS7 ?_
  case hy => intro w' hSw; go_simp; try with_reducible rfl
  simp only [List.getElem_toArray, List.getElem_cons_succ, List.getElem_cons_zero, Act.put, List.setIfInBounds_toArray, List.set_cons_zero, List.set_cons_succ]
  change wpAnyH _ _ _ _ _ 0 #[true, true, true, true, true, true, true, true, true, true, true, true, true, true, true, true, true, true] _ _
  refine wpAnyH_done (by kernel_rfl) ?_ _
  go_wp2_with fail
  go_ret
  exact ⟨rfl, HB4.out.trans (hS7.mono HB4.out.size)⟩
end Go.Proofs.Ytnmjkdmhfogeiaa
