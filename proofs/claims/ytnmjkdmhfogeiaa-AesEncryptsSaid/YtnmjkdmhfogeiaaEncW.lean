/- The walk of the law AesEncrypts. Printed by gen_encw.py. -/
import Derived.Test.YtnmjkdmhfogeiaaRKey
import Derived.Test.YtnmjkdmhfogeiaaAesZ
import Derived.Test.YtnmjkdmhfogeiaaCtrC
set_option linter.unusedVariables false
set_option linter.unusedSimpArgs false
namespace Go.Proofs.Ytnmjkdmhfogeiaa
open Go Go.RowKit GfM
set_option maxRecDepth 100000 in
set_option maxHeartbeats 4000000 in
theorem walkAesEncrypts (a : List Nat) (ha : a.length = 16) (hab : ∀ x ∈ a, x < 256) (b : List Nat) (hb : b.length = 16) (hbb : ∀ x ∈ b, x < 256) (long : Bool)
    (p : List Nat) (hp : p.length = 16) (hpb : ∀ x ∈ p, x < 256) (w : World) :
    Calls Try.prog 12 #[.agg (bA a), .agg (bA b), .bool long, .agg (bA p)] w fun e w' => e = .returned (.bool true) ∧ Below w.heap.size w w' := by
  obtain ⟨h0, h1, h2, hbl⟩ := alloc3 w (.cells (bA a) 44) (.cells (bA b) 44) (.cells (bA p) 44)
  have HA := Lib.hid (And.intro ha hab)
  have HB := Lib.hid (And.intro hb hbb)
  have HP := Lib.hid (And.intro hp hpb)
  have H0 := Lib.hid h0
  have H1 := Lib.hid h1
  have H2 := Lib.hid h2
  have HBL := Lib.hid hbl
  clear ha hab hb hbb hp hpb h0 h1 h2 hbl
  go_enter Try.func12, Try.ntmps12
  generalize hW0 : World.alloc _ _ = W0 at H0 H1 H2 HBL
  go_wp2_with (first
    | (refine wpList_load_row rfl 44 (.tmp 4) rfl w.heap.size rfl _ _ _ _ H0.out Try.underlying44 rfl (by rw [zero16', bA_size, HA.out.1]) ?_)
    | (refine wpList_load_row rfl 44 (.tmp 5) rfl (w.heap.size + 1) rfl _ _ _ _ H1.out Try.underlying44 rfl (by rw [zero16', bA_size, HB.out.1]) ?_)
    | fail)
  refine (key05_c a b HA.out.1 HB.out.1 long W0).mono ?_
  rintro e w1 ⟨gk, capk, rfl, hcap, hgk, hgk2, hkk, hb1⟩
  obtain ⟨key, hkey⟩ : ∃ key, key = keyOf a b long := ⟨_, rfl⟩
  have hkl : key.length = 16 ∨ key.length = 32 := by rw [hkey]; exact keyOf_len HA.out.1 HB.out.1 long
  have hkb : ∀ x ∈ key, x < 256 := by rw [hkey]; exact keyOf_lt HA.out.2 HB.out.2 long
  rw [← hkey] at hcap hkk ⊢
  have HKL := Lib.hid hkl
  have HKB := Lib.hid hkb
  have HCAP := Lib.hid hcap
  have HKK := Lib.hid hkk
  have HGK := Lib.hid hgk2
  have HB1 : Hid (Below w.heap.size w w1) := HBL.out.trans (hb1.mono HBL.out.size)
  have HP1 : Hid (w1.heap[w.heap.size + 1 + 1]? = some (.cells (bA p) 44 (0, 0))) := (hb1.block _ (lt_of_block H2.out)).trans H2.out
  obtain ⟨kl, hkl2⟩ : ∃ kl, kl = key.length := ⟨_, rfl⟩
  have HKLE := Lib.hid hkl2
  rw [← hkl2]
  clear hkey hkl hkb hcap hkk hgk hgk2 hb1 hkl2
  go_wp2_with fail
  refine (newbox_c w1).mono ?_
  rintro e w2 ⟨rfl, hbx, hlt2, hb2⟩
  have HBX := Lib.hid hbx
  have HB2 : Hid (Below w1.heap.size w1 w2) := hb2
  have HKC2 : Hid (∀ j, j < key.length → w2.cell? ⟨gk, 0 + j, none⟩ = some (.int .u8 ((key.getD j 0 : Nat) : Int))) := fun j hj => by rw [Nat.zero_add]; exact (hb2.cell (p := ⟨gk, j, none⟩) HGK.out).trans (HKK.out j hj)
  clear hbx hb2 hlt2
  go_wp2_with fail
  rw [HKLE.out]
  refine (new_c w1.heap.size gk 0 capk key HKL.out HKB.out HCAP.out w2 HBX.out (Nat.lt_of_lt_of_le HGK.out HB2.out.size) HKC2.out).mono ?_
  rintro e w3 ⟨c, g, n, cp, rfl, hC, hcc, hgg, hb3⟩
  have HC := Lib.hid hC
  have HB3 : Hid (Below w1.heap.size w1 w3) := HB2.out.trans (hb3.mono HB2.out.size)
  clear hC hcc hgg hb3
  go_wp2
  have HBP := Lib.hid (by_of HP.out.1 HP.out.2)
  have HKC3 : Hid (∀ w', Below w3.heap.size w3 w' → ∀ j, j < key.length → w'.cell? ⟨gk, j, none⟩ = some (.int .u8 ((key.getD j 0 : Nat) : Int))) := fun w' h j hj => ((HB3.out.trans (h.mono HB3.out.size)).cell (p := ⟨gk, j, none⟩) HGK.out).trans (HKK.out j hj)
  have HPW : Hid (∀ w', Below w3.heap.size w3 w' → w'.heap[w.heap.size + 1 + 1]? = some (.cells (bA p) 44 (0, 0))) := fun w' h => ((HB3.out.trans (h.mono HB3.out.size)).block _ (lt_of_block HP1.out)).trans HP1.out
  have HFIN : Hid (Below w.heap.size w w3) := HB1.out.trans (HB3.out.mono HB1.out.size)
  refine wp_region_held_drew (S := fun w' => Below w3.heap.size w3 w') (by kernel_rfl) (Below.refl _ _).drew ?_
  intro hS
  generalize w3.drew = WD at hS ⊢
  change wpAnyH _ _ _ _ _ 16 #[false, false, false, false, false, false, false, false, false, false, false, false, false, false, false, false] _ _
  refine wpAnyH_take (i := 0) (v := ?_) rfl (by kernel_rfl) (by kernel_rfl) (by kernel_rfl) (fun _ _ _ h => h) (Or.inl ⟨by rfl, ?hy⟩) hS ?_
  case hy => intro w' hSw; go_simp; try with_reducible rfl
  simp only [List.getElem_toArray, List.getElem_cons_succ, List.getElem_cons_zero, Act.put, List.setIfInBounds_toArray, List.set_cons_zero, List.set_cons_succ]
  change wpAnyH _ _ _ _ _ 15 #[true, false, false, false, false, false, false, false, false, false, false, false, false, false, false, false] _ _
  refine wpAnyH_take (i := 1) (v := ?_) rfl (by kernel_rfl) (by kernel_rfl) (by kernel_rfl) (fun _ _ _ h => h) (Or.inl ⟨by rfl, ?hy⟩) hS ?_
  case hy => intro w' hSw; go_simp; try with_reducible rfl
  simp only [List.getElem_toArray, List.getElem_cons_succ, List.getElem_cons_zero, Act.put, List.setIfInBounds_toArray, List.set_cons_zero, List.set_cons_succ]
  change wpAnyH _ _ _ _ _ 14 #[true, true, false, false, false, false, false, false, false, false, false, false, false, false, false, false] _ _
  refine wpAnyH_take (i := 2) (v := ?_) rfl (by kernel_rfl) (by kernel_rfl) (by kernel_rfl) (fun _ _ _ h => h) (Or.inl ⟨by rfl, ?hy⟩) hS ?_
  case hy => intro w' hSw; go_simp; try with_reducible rfl
  simp only [List.getElem_toArray, List.getElem_cons_succ, List.getElem_cons_zero, Act.put, List.setIfInBounds_toArray, List.set_cons_zero, List.set_cons_succ]
  change wpAnyH _ _ _ _ _ 13 #[true, true, true, false, false, false, false, false, false, false, false, false, false, false, false, false] _ _
  refine wpAnyH_take (i := 3) (v := ?_) rfl (by kernel_rfl) (by kernel_rfl) (by kernel_rfl) (fun _ _ _ h => h) (Or.inl ⟨by rfl, ?hy⟩) hS ?_
  case hy => intro w' hSw; go_simp; try with_reducible rfl
  simp only [List.getElem_toArray, List.getElem_cons_succ, List.getElem_cons_zero, Act.put, List.setIfInBounds_toArray, List.set_cons_zero, List.set_cons_succ]
  change wpAnyH _ _ _ _ _ 12 #[true, true, true, true, false, false, false, false, false, false, false, false, false, false, false, false] _ _
  refine wpAnyH_take (i := 4) rfl (by kernel_rfl) (by kernel_rfl) (by kernel_rfl) (fun _ _ _ h => h) (yieldsIf_load_mid (by rfl) _ _ rfl (w.heap.size + 1 + 1) 0 rfl (bA p).toList _ (fun w' h => range_bA p (HPW.out w' h)) Try.underlying44 rfl (by rw [zero16']; simp [bA_size, HP.out.1])) hS ?_
  simp only [List.getElem_toArray, List.getElem_cons_succ, List.getElem_cons_zero, Act.put, List.setIfInBounds_toArray, List.set_cons_zero, List.set_cons_succ]
  change wpAnyH _ _ _ _ _ 11 #[true, true, true, true, true, false, false, false, false, false, false, false, false, false, false, false] _ _
  refine wpAnyH_take (i := 6) (v := ?_) rfl (by kernel_rfl) (by kernel_rfl) (by kernel_rfl) (fun _ _ _ h => h) (Or.inl ⟨by rfl, ?hy⟩) hS ?_
  case hy => intro w' hSw; go_simp; try with_reducible rfl
  simp only [List.getElem_toArray, List.getElem_cons_succ, List.getElem_cons_zero, Act.put, List.setIfInBounds_toArray, List.set_cons_zero, List.set_cons_succ]
  change wpAnyH _ _ _ _ _ 10 #[true, true, true, true, true, false, true, false, false, false, false, false, false, false, false, false] _ _
  refine wpAnyH_take (i := 8) rfl (by kernel_rfl) (by kernel_rfl) (by kernel_rfl) (fun _ _ _ h => h) (yieldsIf_load_mid (by rfl) _ _ rfl (w.heap.size + 1 + 1) 0 rfl (bA p).toList _ (fun w' h => range_bA p (HPW.out w' h)) Try.underlying44 rfl (by rw [zero16']; simp [bA_size, HP.out.1])) hS ?_
  simp only [List.getElem_toArray, List.getElem_cons_succ, List.getElem_cons_zero, Act.put, List.setIfInBounds_toArray, List.set_cons_zero, List.set_cons_succ]
  change wpAnyH _ _ _ _ _ 9 #[true, true, true, true, true, false, true, false, true, false, false, false, false, false, false, false] _ _
  refine wpAnyH_ready (rs := [5]) (by kernel_rfl) (by simp) ?_
  refine AllReadyH.cons rfl (fun K hK => ?_) AllReadyH.nil
  rw [if_pos (by rfl)]
  go_simp
  refine (enc_c HKL.out HBP.out WD (HC.out.up hS (Nat.le_refl _))).mono ?_
  rintro e w4 ⟨rfl, hb4⟩
  refine hK.out _ _ (hS.trans (hb4.mono hS.size)) (fun hS4 => ?_)
  clear hK K
  simp only [List.getElem_toArray, List.getElem_cons_succ, List.getElem_cons_zero, Act.put, List.setIfInBounds_toArray, List.set_cons_zero, List.set_cons_succ]
  change wpAnyH _ _ _ _ _ 8 #[true, true, true, true, true, true, true, false, true, false, false, false, false, false, false, false] _ _
  refine wpAnyH_ready (rs := [7]) (by kernel_rfl) (by simp) ?_
  refine AllReadyH.cons rfl (fun K hK => ?_) AllReadyH.nil
  rw [if_pos (by rfl)]
  go_simp
  try rw [HKLE.out]
  refine (rnew_key key HKL.out HKB.out gk capk HCAP.out w4 (Nat.lt_of_lt_of_le HGK.out (HB3.out.trans (hS4.mono HB3.out.size)).size) (HKC3.out w4 hS4)).mono ?_
  rintro e w5 ⟨c5, g5, cp5, rfl, hC5, hb5⟩
  refine hK.out _ _ (hS4.trans (hb5.mono hS4.size)) (fun hS5 => ?_)
  clear hK K
  simp only [List.getElem_toArray, List.getElem_cons_succ, List.getElem_cons_zero, Act.put, List.setIfInBounds_toArray, List.set_cons_zero, List.set_cons_succ]
  change wpAnyH _ _ _ _ _ 7 #[true, true, true, true, true, true, true, true, true, false, false, false, false, false, false, false] _ _
  refine wpAnyH_ready (rs := [9]) (by kernel_rfl) (by simp) ?_
  refine AllReadyH.cons rfl (fun K hK => ?_) AllReadyH.nil
  rw [if_pos (by rfl)]
  go_simp
  refine (renc_key HKL.out HBP.out w5 hC5).mono ?_
  rintro e w6 ⟨rfl, hb6⟩
  refine hK.out _ _ (hS5.trans (hb6.mono hS5.size)) (fun hS6 => ?_)
  clear hK K
  simp only [List.getElem_toArray, List.getElem_cons_succ, List.getElem_cons_zero, Act.put, List.setIfInBounds_toArray, List.set_cons_zero, List.set_cons_succ]
  change wpAnyH _ _ _ _ _ 6 #[true, true, true, true, true, true, true, true, true, true, false, false, false, false, false, false] _ _
  refine wpAnyH_take (i := 10) rfl (by kernel_rfl) (by kernel_rfl) (by kernel_rfl) (fun _ _ _ h => h) (Or.inl ⟨by rfl, fun w' hSw => run_eqa (encK key p) (encK_len' key p) _ (.tmp 27) (.tmp 31) _ _ rfl rfl rfl w'⟩) hS6 ?_
  simp only [List.getElem_toArray, List.getElem_cons_succ, List.getElem_cons_zero, Act.put, List.setIfInBounds_toArray, List.set_cons_zero, List.set_cons_succ]
  change wpAnyH _ _ _ _ _ 5 #[true, true, true, true, true, true, true, true, true, true, true, false, false, false, false, false] _ _
  refine wpAnyH_take (i := 11) (v := ?_) rfl (by kernel_rfl) (by kernel_rfl) (by kernel_rfl) (fun _ _ _ h => h) (Or.inl ⟨by rfl, ?hy⟩) hS6 ?_
  case hy => intro w' hSw; go_simp; try with_reducible rfl
  simp only [List.getElem_toArray, List.getElem_cons_succ, List.getElem_cons_zero, Act.put, List.setIfInBounds_toArray, List.set_cons_zero, List.set_cons_succ]
  change wpAnyH _ _ _ _ _ 4 #[true, true, true, true, true, true, true, true, true, true, true, true, false, false, false, false] _ _
  refine wpAnyH_take (i := 12) (v := ?_) rfl (by kernel_rfl) (by kernel_rfl) (by kernel_rfl) (fun _ _ _ h => h) (Or.inl ⟨by rfl, ?hy⟩) hS6 ?_
  case hy => intro w' hSw; go_simp; try with_reducible rfl
  simp only [List.getElem_toArray, List.getElem_cons_succ, List.getElem_cons_zero, Act.put, List.setIfInBounds_toArray, List.set_cons_zero, List.set_cons_succ]
  change wpAnyH _ _ _ _ _ 3 #[true, true, true, true, true, true, true, true, true, true, true, true, true, false, false, false] _ _
  refine wpAnyH_ready (rs := [13]) (by kernel_rfl) (by simp) ?_
  refine AllReadyH.cons rfl (fun K hK => ?_) AllReadyH.nil
  rw [if_pos (by rfl)]
  go_simp
  refine (awake05_c w6).mono ?_
  rintro e w7 ⟨rfl, hb7⟩
  refine hK.out _ _ (hS6.trans (hb7.mono hS6.size)) (fun hS7 => ?_)
  clear hK K
  simp only [List.getElem_toArray, List.getElem_cons_succ, List.getElem_cons_zero, Act.put, List.setIfInBounds_toArray, List.set_cons_zero, List.set_cons_succ]
  change wpAnyH _ _ _ _ _ 2 #[true, true, true, true, true, true, true, true, true, true, true, true, true, true, false, false] _ _
  refine wpAnyH_take (i := 14) (v := ?_) rfl (by kernel_rfl) (by kernel_rfl) (by kernel_rfl) (fun _ _ _ h => h) (Or.inl ⟨by rfl, ?hy⟩) hS7 ?_
  case hy => intro w' hSw; go_simp; try with_reducible rfl
  simp only [List.getElem_toArray, List.getElem_cons_succ, List.getElem_cons_zero, Act.put, List.setIfInBounds_toArray, List.set_cons_zero, List.set_cons_succ]
  change wpAnyH _ _ _ _ _ 1 #[true, true, true, true, true, true, true, true, true, true, true, true, true, true, true, false] _ _
  refine wpAnyH_take (i := 15) (v := ?_) rfl (by kernel_rfl) (by kernel_rfl) (by kernel_rfl) (fun _ _ _ h => h) (Or.inl ⟨by rfl, ?hy⟩) hS7 ?_
  case hy => intro w' hSw; go_simp; try with_reducible rfl
  simp only [List.getElem_toArray, List.getElem_cons_succ, List.getElem_cons_zero, Act.put, List.setIfInBounds_toArray, List.set_cons_zero, List.set_cons_succ]
  change wpAnyH _ _ _ _ _ 0 #[true, true, true, true, true, true, true, true, true, true, true, true, true, true, true, true] _ _
  refine wpAnyH_done (by kernel_rfl) ?_ _
  go_wp2_with fail
  go_ret
  exact ⟨rfl, HFIN.out.trans (hS7.mono HFIN.out.size)⟩
end Go.Proofs.Ytnmjkdmhfogeiaa
