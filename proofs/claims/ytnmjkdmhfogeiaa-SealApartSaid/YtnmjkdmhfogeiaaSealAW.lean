/- The walk of the law SealApart. Printed by gen_sealw.py. -/
import Derived.Test.YtnmjkdmhfogeiaaSealD
import Derived.Test.YtnmjkdmhfogeiaaSealBW
set_option linter.unusedVariables false
set_option linter.unusedSimpArgs false
namespace Go.Proofs.Ytnmjkdmhfogeiaa
open Go Go.RowKit GfM
set_option maxRecDepth 100000 in
set_option maxHeartbeats 8000000 in
theorem walkSealApart (w : World) (k : List Nat) (hk : k.length = 16) (hkb : ∀ x ∈ k, x < 256) (e : Int) (we : (Lit.int .u64 e).wf = true) (b : Int) (wb : (Lit.int .u16 b).wf = true) (a3 : Option Addr) (len3 cap3 : Nat) (zs3 : List Int) (hrow3 : IsRow .u8 w a3 len3 cap3 zs3) (a4 : Option Addr) (len4 cap4 : Nat) (zs4 : List Int) (hrow4 : IsRow .u8 w a4 len4 cap4 zs4) :
    Calls Try.prog 21 #[.agg (bA k), .int .u64 e, .int .u16 b, .slice a3 len3 cap3, .slice a4 len4 cap4] w fun e w' => e = .returned (.bool true) ∧ Below w.heap.size w w' := by
  obtain ⟨e, he, rfl⟩ := wf_nat64 we
  obtain ⟨b, hb, rfl⟩ := wf_nat16 wb
  obtain ⟨p3, hp3, hpb3, hF3⟩ := full_in hrow3
  obtain ⟨p4, hp4, hpb4, hF4⟩ := full_in hrow4
  have h0 := heap_new' w (.cells (bA k) 44)
  have hbl : Below w.heap.size w (w.alloc (.cells (bA k) 44)) := (Below.refl _ _).alloc (Nat.le_refl _) _
  have ew : IntKind.i64.wrap (b : Int) = (b : Int) := IntWalk.i64_in _ (by omega)
  have HK := Lib.hid (And.intro hk hkb)
  have H0 := Lib.hid h0
  have HBL := Lib.hid hbl
  have HMK : Hid (∀ w', Calls Try.prog 57 #[.agg (bA k)] w' fun e w'' => ∃ s m, e = .returned (.pointer (some ⟨s, 0, none⟩)) ∧ Slr w'' w'.heap.size s m k [] none ∧ Below w'.heap.size w' w'') := fun w' => made_c k hk hkb w'
  have HSE : Hid (∀ (B s m : Nat) (M : MapM) (T : Option (Nat × Nat)) (a : Option Addr) (cap : Nat) (p : List Nat) (w' : World), p.length = 256 → B ≤ w'.heap.size → Slr w' B s m k M T → BytesAt w' a cap p → Calls Try.prog 58 #[.pointer (some ⟨s, 0, none⟩), .int .u64 (e : Int), .int .i64 (b : Int), .slice a 256 cap] w' fun r w'' =>
      ∃ q M' T', r = .returned (.tuple #[.slice (some ⟨q, 0, none⟩) 256 256, .int .i64 0]) ∧ SStp M T (e, b) p M' T' ∧ w'.heap.size ≤ q ∧ w''.heap[q]? = some (.cells (bA (xorL p (strL k e b 256))) 5 (0, 0)) ∧ Slr w'' B s m k M' T' ∧ Below B w' w'' ∧ (∀ k, k < w'.heap.size → k ≠ s → k ≠ m → w''.heap[k]? = w'.heap[k]?)) :=
    fun B s m M T a cap p w' hp hB hS hBA => seal_c (Or.inl hk) e b he hb a cap p hp w' hB hS hBA
  have HOP : Hid (∀ (B s m : Nat) (M : MapM) (T : Option (Nat × Nat)) (a : Option Addr) (cap : Nat) (l : List Nat) (w' : World), l.length = 256 → Slr w' B s m k M T → BytesAt w' a cap l → Calls Try.prog 62 #[.pointer (some ⟨s, 0, none⟩), .int .u64 (e : Int), .int .i64 (b : Int), .slice a 256 cap] w' fun r w'' =>
      ∃ q, r = .returned (.tuple #[.slice (some ⟨q, 0, none⟩) 256 256, .int .i64 0]) ∧ w'.heap.size ≤ q ∧ w''.heap[q]? = some (.cells (bA (xorL l (strL k e b 256))) 5 (0, 0)) ∧ Below w'.heap.size w' w'') :=
    fun B s m M T a cap l w' hl hS hB => open_c (Or.inl hk) e b he hb a cap l hl w' hS hB
  have HP3 := Lib.hid (And.intro hp3 hpb3)
  have HF3 := Lib.hid hF3
  have HP4 := Lib.hid (And.intro hp4 hpb4)
  have HF4 := Lib.hid hF4
  clear we wb hk hkb he hb h0 hbl hrow3 hp3 hpb3 hF3 hrow4 hp4 hpb4 hF4
  generalize hW0 : (w.alloc (.cells (bA k) 44)) = W0 at *
  go_enter Try.func21, Try.ntmps21
  go_wp2_with (first
    | (refine wpList_load_row rfl 44 (.tmp 5) rfl w.heap.size rfl _ _ _ _ (by first | exact H0.out | (rw [hW0]; exact H0.out)) Try.underlying44 rfl (by rw [zero16', bA_size, HK.out.1]) ?_)
    | fail)
  refine (HMK.out W0).mono ?_
  rintro r w1 ⟨s, m, rfl, hS1, hb1⟩
  clear hW0
  have HS1 := Lib.hid hS1
  have HB1 : Hid (Below w.heap.size w w1) := HBL.out.trans (hb1.mono HBL.out.size)
  have HB0 : Hid (Below W0.heap.size W0 w1) := Lib.hid hb1
  clear hS1 hb1
  go_wp2_with fail
  refine (HF3.out w1 HB1.out).mono ?_
  rintro r wB2 ⟨qB2, cB2, rfl, hBB2, hlB2⟩
  have HSB2 := Lib.hid (HS1.out.up hlB2 (Nat.le_refl _))
  have HBB2 : Hid (Below w.heap.size w wB2) := HB1.out.trans (hlB2.mono HB1.out.size)
  have HCB2 : Hid (Below W0.heap.size W0 wB2) := HB0.out.trans (hlB2.mono HB0.out.size)
  have HIN2 := Lib.hid hBB2
  clear hBB2 hlB2
  go_wp2_with fail
  refine (HSE.out W0.heap.size s m _ _ _ cB2 p3 wB2 HP3.out.1 HCB2.out.size HSB2.out HIN2.out).mono ?_
  rintro r wC2 ⟨qC2, M2, T2, rfl, hst2, hqC2, hxC2, hSC2, hlC2, hkC2⟩
  have HS2 := Lib.hid hSC2
  have HC2 : Hid (Below W0.heap.size W0 wC2) := HCB2.out.trans hlC2
  have HB2 : Hid (Below w.heap.size w wC2) := HBB2.out.trans (hlC2.mono HBL.out.size)
  have hxl2 : ∀ x ∈ xorL p3 (strL k e b 256), x < 256 := xorL_lt HP3.out.2 (by obtain ⟨⟨_, _, _, ⟨_, _, _, _, h⟩, _⟩, _⟩ := HS2.out; exact strL_lt (Or.inl HK.out.1) h.fbyte e b 256)
  have HXL2 := Lib.hid hxl2
  have HXN2 : Hid ((xorL p3 (strL k e b 256)).length = 256) := by show _ = _; rw [xorL_len]; exact HP3.out.1
  have HX2 : Hid (BytesAt wC2 (some ⟨qC2, 0, none⟩) 256 (xorL p3 (strL k e b 256))) := by have := bytesAt_block hxl2 hxC2; rw [xorL_len, HP3.out.1] at this; exact this
  clear hst2 hqC2 hxC2 hSC2 hlC2 hkC2 hxl2 HS1 HB1 HB0 HSB2 HBB2 HCB2 HIN2 
  go_wp2_with fail
  refine (HF4.out wC2 HB2.out).mono ?_
  rintro r wB3 ⟨qB3, cB3, rfl, hBB3, hlB3⟩
  have HSB3 := Lib.hid (HS2.out.up hlB3 (Nat.le_refl _))
  have HBB3 : Hid (Below w.heap.size w wB3) := HB2.out.trans (hlB3.mono HB2.out.size)
  have HCB3 : Hid (Below W0.heap.size W0 wB3) := HC2.out.trans (hlB3.mono HC2.out.size)
  have HX2B3 := Lib.hid (HX2.out.up hlB3 (Nat.le_refl _))
  have HIN3 := Lib.hid hBB3
  clear hBB3 hlB3
  go_wp2_with fail
  refine (HSE.out W0.heap.size s m _ _ _ cB3 p4 wB3 HP4.out.1 HCB3.out.size HSB3.out HIN3.out).mono ?_
  rintro r wC3 ⟨qC3, M3, T3, rfl, hst3, hqC3, hxC3, hSC3, hlC3, hkC3⟩
  have HS3 := Lib.hid hSC3
  have HC3 : Hid (Below W0.heap.size W0 wC3) := HCB3.out.trans hlC3
  have HB3 : Hid (Below w.heap.size w wC3) := HBB3.out.trans (hlC3.mono HBL.out.size)
  have hxl3 : ∀ x ∈ xorL p4 (strL k e b 256), x < 256 := xorL_lt HP4.out.2 (by obtain ⟨⟨_, _, _, ⟨_, _, _, _, h⟩, _⟩, _⟩ := HS3.out; exact strL_lt (Or.inl HK.out.1) h.fbyte e b 256)
  have HXL3 := Lib.hid hxl3
  have HXN3 : Hid ((xorL p4 (strL k e b 256)).length = 256) := by show _ = _; rw [xorL_len]; exact HP4.out.1
  have HX3 : Hid (BytesAt wC3 (some ⟨qC3, 0, none⟩) 256 (xorL p4 (strL k e b 256))) := by have := bytesAt_block hxl3 hxC3; rw [xorL_len, HP4.out.1] at this; exact this
  have HX2C3 : Hid _ := Lib.hid (bytes_seal HSB3.out HX2B3.out (by rw [HXN2.out]; omega) hkC3)
  clear hst3 hqC3 hxC3 hSC3 hlC3 hkC3 hxl3 HS2 HB2 HC2 HSB3 HBB3 HCB3 HIN3 HX2 HX2B3
  have HDD : Hid (decide (xorL p3 (strL k e b 256) = xorL p4 (strL k e b 256)) = decide (p3 = p4)) := xor_dec _ _ _
  obtain ⟨X, hX⟩ : ∃ X, X = xorL p3 (strL k e b 256) := ⟨_, rfl⟩
  obtain ⟨Y, hY⟩ : ∃ Y, Y = xorL p4 (strL k e b 256) := ⟨_, rfl⟩
  rw [← hX] at HX2C3 HXL2 HXN2 HDD
  rw [← hY] at HX3 HXL3 HXN3 HDD
  clear hX hY HS3 HC3
  go_wp2
  refine wp_region_held_drew (S := fun w' => Below wC3.heap.size wC3 w') (by kernel_rfl) (Below.refl _ _).drew ?_
  intro hS
  generalize wC3.drew = WD at hS ⊢
  change wpAnyH _ _ _ _ _ 25 #[false, false, false, false, false, false, false, false, false, false, false, false, false, false, false, false, false, false, false, false, false, false, false, false, false] _ _
  refine wpAnyH_take (i := 0) (v := ?_) rfl (by kernel_rfl) (by kernel_rfl) (by kernel_rfl) (fun _ _ _ h => h) (Or.inl ⟨by rfl, ?hy⟩) hS ?_
  case hy => intro w' hSw; go_simp; try with_reducible rfl
  simp only [List.getElem_toArray, List.getElem_cons_succ, List.getElem_cons_zero, Act.put, List.setIfInBounds_toArray, List.set_cons_zero, List.set_cons_succ]
  change wpAnyH _ _ _ _ _ 24 #[true, false, false, false, false, false, false, false, false, false, false, false, false, false, false, false, false, false, false, false, false, false, false, false, false] _ _
  refine wpAnyH_take (i := 1) (v := ?_) rfl (by kernel_rfl) (by kernel_rfl) (by kernel_rfl) (fun _ _ _ h => h) (Or.inl ⟨by rfl, ?hy⟩) hS ?_
  case hy => intro w' hSw; go_simp; try with_reducible rfl
  simp only [List.getElem_toArray, List.getElem_cons_succ, List.getElem_cons_zero, Act.put, List.setIfInBounds_toArray, List.set_cons_zero, List.set_cons_succ]
  change wpAnyH _ _ _ _ _ 23 #[true, true, false, false, false, false, false, false, false, false, false, false, false, false, false, false, false, false, false, false, false, false, false, false, false] _ _
  refine wpAnyH_take (i := 2) (v := ?_) rfl (by kernel_rfl) (by kernel_rfl) (by kernel_rfl) (fun _ _ _ h => h) (Or.inl ⟨by rfl, ?hy⟩) hS ?_
  case hy => intro w' hSw; go_simp; try with_reducible rfl
  simp only [List.getElem_toArray, List.getElem_cons_succ, List.getElem_cons_zero, Act.put, List.setIfInBounds_toArray, List.set_cons_zero, List.set_cons_succ]
  change wpAnyH _ _ _ _ _ 22 #[true, true, true, false, false, false, false, false, false, false, false, false, false, false, false, false, false, false, false, false, false, false, false, false, false] _ _
  refine wpAnyH_take (i := 3) (v := ?_) rfl (by kernel_rfl) (by kernel_rfl) (by kernel_rfl) (fun _ _ _ h => h) (Or.inl ⟨by rfl, ?hy⟩) hS ?_
  case hy => intro w' hSw; go_simp; try with_reducible rfl
  simp only [List.getElem_toArray, List.getElem_cons_succ, List.getElem_cons_zero, Act.put, List.setIfInBounds_toArray, List.set_cons_zero, List.set_cons_succ]
  change wpAnyH _ _ _ _ _ 21 #[true, true, true, true, false, false, false, false, false, false, false, false, false, false, false, false, false, false, false, false, false, false, false, false, false] _ _
  refine wpAnyH_take (i := 4) (v := ?_) rfl (by kernel_rfl) (by kernel_rfl) (by kernel_rfl) (fun _ _ _ h => h) (Or.inl ⟨by rfl, ?hy⟩) hS ?_
  case hy => intro w' hSw; go_simp; try with_reducible rfl
  simp only [List.getElem_toArray, List.getElem_cons_succ, List.getElem_cons_zero, Act.put, List.setIfInBounds_toArray, List.set_cons_zero, List.set_cons_succ]
  change wpAnyH _ _ _ _ _ 20 #[true, true, true, true, true, false, false, false, false, false, false, false, false, false, false, false, false, false, false, false, false, false, false, false, false] _ _
  refine wpAnyH_take (i := 5) (v := ?_) rfl (by kernel_rfl) (by kernel_rfl) (by kernel_rfl) (fun _ _ _ h => h) (Or.inl ⟨by rfl, ?hy⟩) hS ?_
  case hy => intro w' hSw; go_simp; try with_reducible rfl
  simp only [List.getElem_toArray, List.getElem_cons_succ, List.getElem_cons_zero, Act.put, List.setIfInBounds_toArray, List.set_cons_zero, List.set_cons_succ]
  change wpAnyH _ _ _ _ _ 19 #[true, true, true, true, true, true, false, false, false, false, false, false, false, false, false, false, false, false, false, false, false, false, false, false, false] _ _
  refine wpAnyH_take (i := 6) (v := ?_) rfl (by kernel_rfl) (by kernel_rfl) (by kernel_rfl) (fun _ _ _ h => h) (Or.inl ⟨by rfl, ?hy⟩) hS ?_
  case hy => intro w' hSw; go_simp; try with_reducible rfl
  simp only [List.getElem_toArray, List.getElem_cons_succ, List.getElem_cons_zero, Act.put, List.setIfInBounds_toArray, List.set_cons_zero, List.set_cons_succ]
  change wpAnyH _ _ _ _ _ 18 #[true, true, true, true, true, true, true, false, false, false, false, false, false, false, false, false, false, false, false, false, false, false, false, false, false] _ _
  refine wpAnyH_take (i := 7) (v := ?_) rfl (by kernel_rfl) (by kernel_rfl) (by kernel_rfl) (fun _ _ _ h => h) (Or.inl ⟨by rfl, ?hy⟩) hS ?_
  case hy => intro w' hSw; go_simp; try with_reducible rfl
  simp only [List.getElem_toArray, List.getElem_cons_succ, List.getElem_cons_zero, Act.put, List.setIfInBounds_toArray, List.set_cons_zero, List.set_cons_succ]
  change wpAnyH _ _ _ _ _ 17 #[true, true, true, true, true, true, true, true, false, false, false, false, false, false, false, false, false, false, false, false, false, false, false, false, false] _ _
  refine wpAnyH_take (i := 8) rfl (by kernel_rfl) (by kernel_rfl) (by kernel_rfl) (fun _ _ _ h => h) (Or.inl ⟨by rfl, fun w' hSw => run_conv_op HXN2.out (HX2C3.out.up hSw (Nat.le_refl _)) _ (.tmp 45) _ rfl rfl⟩) hS ?_
  simp only [List.getElem_toArray, List.getElem_cons_succ, List.getElem_cons_zero, Act.put, List.setIfInBounds_toArray, List.set_cons_zero, List.set_cons_succ]
  change wpAnyH _ _ _ _ _ 16 #[true, true, true, true, true, true, true, true, true, false, false, false, false, false, false, false, false, false, false, false, false, false, false, false, false] _ _
  refine wpAnyH_take (i := 9) (v := ?_) rfl (by kernel_rfl) (by kernel_rfl) (by kernel_rfl) (fun _ _ _ h => h) (Or.inl ⟨by rfl, ?hy⟩) hS ?_
  case hy => intro w' hSw; go_simp; try with_reducible rfl
  simp only [List.getElem_toArray, List.getElem_cons_succ, List.getElem_cons_zero, Act.put, List.setIfInBounds_toArray, List.set_cons_zero, List.set_cons_succ]
  change wpAnyH _ _ _ _ _ 15 #[true, true, true, true, true, true, true, true, true, true, false, false, false, false, false, false, false, false, false, false, false, false, false, false, false] _ _
  refine wpAnyH_take (i := 10) rfl (by kernel_rfl) (by kernel_rfl) (by kernel_rfl) (fun _ _ _ h => h) (Or.inl ⟨by rfl, fun w' hSw => run_conv_op HXN3.out (HX3.out.up hSw (Nat.le_refl _)) _ (.tmp 47) _ rfl rfl⟩) hS ?_
  simp only [List.getElem_toArray, List.getElem_cons_succ, List.getElem_cons_zero, Act.put, List.setIfInBounds_toArray, List.set_cons_zero, List.set_cons_succ]
  change wpAnyH _ _ _ _ _ 14 #[true, true, true, true, true, true, true, true, true, true, true, false, false, false, false, false, false, false, false, false, false, false, false, false, false] _ _
  refine wpAnyH_take (i := 11) rfl (by kernel_rfl) (by kernel_rfl) (by kernel_rfl) (fun _ _ _ h => h) (Or.inl ⟨by rfl, fun w' hSw => (run_eqs X Y HXL2.out HXL3.out _ (.tmp 46) (.tmp 48) _ _ rfl rfl rfl w').trans (by rw [HDD.out])⟩) hS ?_
  simp only [List.getElem_toArray, List.getElem_cons_succ, List.getElem_cons_zero, Act.put, List.setIfInBounds_toArray, List.set_cons_zero, List.set_cons_succ]
  change wpAnyH _ _ _ _ _ 13 #[true, true, true, true, true, true, true, true, true, true, true, true, false, false, false, false, false, false, false, false, false, false, false, false, false] _ _
  refine wpAnyH_take (i := 12) (v := ?_) rfl (by kernel_rfl) (by kernel_rfl) (by kernel_rfl) (fun _ _ _ h => h) (Or.inl ⟨by rfl, ?hy⟩) hS ?_
  case hy => intro w' hSw; go_simp; try with_reducible rfl
  simp only [List.getElem_toArray, List.getElem_cons_succ, List.getElem_cons_zero, Act.put, List.setIfInBounds_toArray, List.set_cons_zero, List.set_cons_succ]
  change wpAnyH _ _ _ _ _ 12 #[true, true, true, true, true, true, true, true, true, true, true, true, true, false, false, false, false, false, false, false, false, false, false, false, false] _ _
  refine wpAnyH_take (i := 15) (v := ?_) rfl (by kernel_rfl) (by kernel_rfl) (by kernel_rfl) (fun _ _ _ h => h) (Or.inl ⟨by rfl, ?hy⟩) hS ?_
  case hy => intro w' hSw; go_simp; try with_reducible rfl
  simp only [List.getElem_toArray, List.getElem_cons_succ, List.getElem_cons_zero, Act.put, List.setIfInBounds_toArray, List.set_cons_zero, List.set_cons_succ]
  change wpAnyH _ _ _ _ _ 11 #[true, true, true, true, true, true, true, true, true, true, true, true, true, false, false, true, false, false, false, false, false, false, false, false, false] _ _
  refine wpAnyH_ready (rs := [13]) (by kernel_rfl) (by simp) ?_
  refine AllReadyH.cons rfl (fun K hK => ?_) AllReadyH.nil
  rw [if_pos (by rfl)]
  go_simp
  refine (HF3.out WD (HB3.out.trans (hS.mono HB3.out.size))).mono ?_
  rintro r w5 ⟨q5, c5, rfl, hB5, hb5⟩
  refine hK.out _ _ (hS.trans (hb5.mono hS.size)) (fun hS5 => ?_)
  clear hK K
  simp only [List.getElem_toArray, List.getElem_cons_succ, List.getElem_cons_zero, Act.put, List.setIfInBounds_toArray, List.set_cons_zero, List.set_cons_succ]
  change wpAnyH _ _ _ _ _ 10 #[true, true, true, true, true, true, true, true, true, true, true, true, true, true, false, true, false, false, false, false, false, false, false, false, false] _ _
  refine wpAnyH_more (S' := fun w' => Below w5.heap.size w5 w') (fun w' h => hS5.trans (h.mono hS5.size)) _ _ _ _ ?_
  have hH5 : Below w5.heap.size w5 w5 := Below.refl _ _
  refine wpAnyH_take (i := 14) rfl (by kernel_rfl) (by kernel_rfl) (by kernel_rfl) (fun _ _ _ h => h) (Or.inl ⟨by rfl, fun w' hSw => run_conv_op HP3.out.1 (hB5.up hSw (Nat.le_refl _)) _ (.tmp 51) _ rfl rfl⟩) hH5 ?_
  simp only [List.getElem_toArray, List.getElem_cons_succ, List.getElem_cons_zero, Act.put, List.setIfInBounds_toArray, List.set_cons_zero, List.set_cons_succ]
  change wpAnyH _ _ _ _ _ 9 #[true, true, true, true, true, true, true, true, true, true, true, true, true, true, true, true, false, false, false, false, false, false, false, false, false] _ _
  have HB5 : Hid (Below w.heap.size w w5) := HB3.out.trans (hS5.mono HB3.out.size)
  refine wpAnyH_ready (rs := [16]) (by kernel_rfl) (by simp) ?_
  refine AllReadyH.cons rfl (fun K hK => ?_) AllReadyH.nil
  rw [if_pos (by rfl)]
  go_simp
  refine (HF4.out w5 HB5.out).mono ?_
  rintro r w6 ⟨q6, c6, rfl, hB6, hb6⟩
  refine hK.out _ _ (hH5.trans (hb6.mono hH5.size)) (fun hS6 => ?_)
  clear hK K
  simp only [List.getElem_toArray, List.getElem_cons_succ, List.getElem_cons_zero, Act.put, List.setIfInBounds_toArray, List.set_cons_zero, List.set_cons_succ]
  change wpAnyH _ _ _ _ _ 8 #[true, true, true, true, true, true, true, true, true, true, true, true, true, true, true, true, true, false, false, false, false, false, false, false, false] _ _
  refine wpAnyH_ready (rs := [17]) (by kernel_rfl) (by simp) ?_
  refine AllReadyH.cons rfl (fun K hK => ?_) AllReadyH.nil
  rw [if_pos (by rfl)]
  refine wp_conv (.tmp 54) HP4.out.1 hB6 rfl rfl ?_
  refine hK.out _ _ (hS6) (fun hS7 => ?_)
  clear hK K
  simp only [List.getElem_toArray, List.getElem_cons_succ, List.getElem_cons_zero, Act.put, List.setIfInBounds_toArray, List.set_cons_zero, List.set_cons_succ]
  change wpAnyH _ _ _ _ _ 7 #[true, true, true, true, true, true, true, true, true, true, true, true, true, true, true, true, true, true, false, false, false, false, false, false, false] _ _
  refine wpAnyH_take (i := 18) rfl (by kernel_rfl) (by kernel_rfl) (by kernel_rfl) (fun _ _ _ h => h) (Or.inl ⟨by rfl, fun w' hSw => run_eqs p3 p4 HP3.out.2 HP4.out.2 _ (.tmp 52) (.tmp 55) _ _ rfl rfl rfl w'⟩) hS7 ?_
  simp only [List.getElem_toArray, List.getElem_cons_succ, List.getElem_cons_zero, Act.put, List.setIfInBounds_toArray, List.set_cons_zero, List.set_cons_succ]
  change wpAnyH _ _ _ _ _ 6 #[true, true, true, true, true, true, true, true, true, true, true, true, true, true, true, true, true, true, true, false, false, false, false, false, false] _ _
  refine wpAnyH_take (i := 19) (v := ?_) rfl (by kernel_rfl) (by kernel_rfl) (by kernel_rfl) (fun _ _ _ h => h) (Or.inl ⟨by rfl, ?hy⟩) hS7 ?_
  case hy => intro w' hSw; go_simp; try with_reducible rfl
  simp only [List.getElem_toArray, List.getElem_cons_succ, List.getElem_cons_zero, Act.put, List.setIfInBounds_toArray, List.set_cons_zero, List.set_cons_succ]
  change wpAnyH _ _ _ _ _ 5 #[true, true, true, true, true, true, true, true, true, true, true, true, true, true, true, true, true, true, true, true, false, false, false, false, false] _ _
  refine wpAnyH_take (i := 20) (v := ?_) rfl (by kernel_rfl) (by kernel_rfl) (by kernel_rfl) (fun _ _ _ h => h) (Or.inl ⟨by rfl, ?hy⟩) hS7 ?_
  case hy => intro w' hSw; go_simp; try with_reducible rfl
  simp only [List.getElem_toArray, List.getElem_cons_succ, List.getElem_cons_zero, Act.put, List.setIfInBounds_toArray, List.set_cons_zero, List.set_cons_succ]
  change wpAnyH _ _ _ _ _ 4 #[true, true, true, true, true, true, true, true, true, true, true, true, true, true, true, true, true, true, true, true, true, false, false, false, false] _ _
  refine wpAnyH_take (i := 21) (v := ?_) rfl (by kernel_rfl) (by kernel_rfl) (by kernel_rfl) (fun _ _ _ h => h) (Or.inl ⟨by rfl, ?hy⟩) hS7 ?_
  case hy => intro w' hSw; go_simp; try with_reducible rfl
  simp only [List.getElem_toArray, List.getElem_cons_succ, List.getElem_cons_zero, Act.put, List.setIfInBounds_toArray, List.set_cons_zero, List.set_cons_succ]
  change wpAnyH _ _ _ _ _ 3 #[true, true, true, true, true, true, true, true, true, true, true, true, true, true, true, true, true, true, true, true, true, true, false, false, false] _ _
  refine wpAnyH_ready (rs := [22]) (by kernel_rfl) (by simp) ?_
  refine AllReadyH.cons rfl (fun K hK => ?_) AllReadyH.nil
  rw [if_pos (by rfl)]
  go_simp
  refine (awake10_c w6).mono ?_
  rintro r w7 ⟨rfl, hb7⟩
  refine hK.out _ _ (hS7.trans (hb7.mono hS7.size)) (fun hS8 => ?_)
  clear hK K
  simp only [List.getElem_toArray, List.getElem_cons_succ, List.getElem_cons_zero, Act.put, List.setIfInBounds_toArray, List.set_cons_zero, List.set_cons_succ]
  change wpAnyH _ _ _ _ _ 2 #[true, true, true, true, true, true, true, true, true, true, true, true, true, true, true, true, true, true, true, true, true, true, true, false, false] _ _
  refine wpAnyH_take (i := 23) (v := ?_) rfl (by kernel_rfl) (by kernel_rfl) (by kernel_rfl) (fun _ _ _ h => h) (Or.inl ⟨by rfl, ?hy⟩) hS8 ?_
  case hy => intro w' hSw; go_simp; try with_reducible rfl
  simp only [List.getElem_toArray, List.getElem_cons_succ, List.getElem_cons_zero, Act.put, List.setIfInBounds_toArray, List.set_cons_zero, List.set_cons_succ]
  change wpAnyH _ _ _ _ _ 1 #[true, true, true, true, true, true, true, true, true, true, true, true, true, true, true, true, true, true, true, true, true, true, true, true, false] _ _
  refine wpAnyH_take (i := 24) (v := ?_) rfl (by kernel_rfl) (by kernel_rfl) (by kernel_rfl) (fun _ _ _ h => h) (Or.inl ⟨by rfl, ?hy⟩) hS8 ?_
  case hy => intro w' hSw; go_simp; try with_reducible rfl
  simp only [List.getElem_toArray, List.getElem_cons_succ, List.getElem_cons_zero, Act.put, List.setIfInBounds_toArray, List.set_cons_zero, List.set_cons_succ]
  change wpAnyH _ _ _ _ _ 0 #[true, true, true, true, true, true, true, true, true, true, true, true, true, true, true, true, true, true, true, true, true, true, true, true, true] _ _
  refine wpAnyH_done (by kernel_rfl) ?_ _
  go_wp2_with fail
  go_ret
  exact ⟨by simp, HB5.out.trans (hS8.mono HB5.out.size)⟩
end Go.Proofs.Ytnmjkdmhfogeiaa
