/- The walk of the law PackWrites. Printed by gen_pw.py. -/
import Derived.Test.YthpglpnonecnfaaPkSame
import Derived.Test.YthpglpnonecnfaaPkRt
import Derived.Test.YthpglpnonecnfaaRPkC
import Derived.Test.YthpglpnonecnfaaPkPl
import Derived.Test.YthpglpnonecnfaaPkBit
set_option linter.unusedVariables false
set_option linter.unusedSimpArgs false
namespace Go.Proofs.Ythpglpnonecnfaa
open Go Go.RowKit Sha
theorem run_neb (b : Bool) (E : Operand → Value) (x y : Operand) (t : TypeId) (o : Oper) (ho : o.op = .binOp .neq 4 x y t) (hx : E x = .bool b) (hy : E y = .bool b) (w : World) :
    (execOp E o).run Try.prog w = .ok (.value (.bool false)) w := by
  unfold execOp
  simp only [ho, hx, hy]
  cases b <;> go_simp
theorem range_row {w : World} {g : Nat} {A : Array Value} {t : TypeId} (h : w.heap[g]? = some (.cells A t (0, 0))) : w.rangeAt g 0 A.toList := by
  intro j u hu
  rw [cells_at h (0 + j), Nat.zero_add, ← hu, Array.getElem?_toList]
set_option maxRecDepth 100000 in
set_option maxHeartbeats 8000000 in
theorem walkPackWrites (W : World) (a : Option Addr) (n cap : Nat) (L : List (List Nat)) (R : List Int) (hl : L.length = n) (hr : R.length = 16) (hw : ∀ r ∈ R, (Lit.int .i64 r).wf = true) (hrows : RowsAt W a L) :
    Calls Try.prog 5 #[.agg (packA (.slice a n cap) R)] W fun e W' => e = .returned (.bool true) ∧ Below W.heap.size W W' := by
  have HB0 : Hid ((W.alloc (.cells (packA (.slice a n cap) R) 25)).heap[W.heap.size]? = some (.cells (packA (.slice a n cap) R) 25 (0, 0))) := heap_new' _ _
  have HE0 : Hid (Below W.heap.size W (W.alloc (.cells (packA (.slice a n cap) R) 25))) := (Below.refl _ _).alloc (Nat.le_refl _) _
  have HPS : Hid (∀ (a : Option Addr) (n c : Nat), (packA (.slice a n c) R).size = 17) := fun a n c => by rw [pack_size, hr]
  have HR := Lib.hid hrows
  have HL := Lib.hid hl
  have H16 := Lib.hid hr
  clear hrows hl hw hr
  go_enter Try.func5, Try.ntmps5
  go_wp2_with (first
    | (refine wpList_load_row rfl 25 (.tmp 1) rfl W.heap.size rfl _ _ _ _ HB0.out Try.underlying25 rfl (by rw [pack25, HPS.out]) ?_)
    | fail)
  generalize W.alloc (.cells (packA (.slice a n cap) R) 25) = w0 at *
  have HLT0 := Lib.hid (lt_of_block HB0.out)
  refine (cut2_c W a n cap L R HL.out H16.out w0 HE0.out HR.out).mono ?_
  rintro e w1 ⟨⟨a1, c1, xs1, rfl, hown1, hrv1⟩, hb1⟩
  have HB1 := Lib.hid ((hb1.block _ (lt_of_block HB0.out)).trans HB0.out)
  have HE1 : Hid (Below W.heap.size W w1) := HE0.out.trans (hb1.mono HE0.out.size)
  have HR1 : Hid (∀ w', (∀ g, g ≠ W.heap.size → w'.heap[g]? = w1.heap[g]?) → Below W.heap.size W w' → RowsAt w' a1 (cutL L)) := fun w' he hb => (rowsAt_of (own_keep hown1.out (fun g h => he g (by have := (hown1.out.lt g h).1; have := HLT0.out; omega))) (hrv1.out.up hb (Nat.le_refl _))).2
  have HCL : Hid ((cutL L).length ≤ 12 ∧ ∀ l ∈ cutL L, l.length ≤ 900) := by
    unfold cutL
    refine ⟨by simp; omega, fun l hl => ?_⟩
    rw [List.mem_map] at hl
    obtain ⟨m, _, rfl⟩ := hl
    simp; omega
  obtain ⟨n1, hn1⟩ : ∃ n1, n1 = (cutL L).length := ⟨_, rfl⟩
  rw [← hn1]
  have HN1 := Lib.hid hn1
  obtain ⟨CL, hCL⟩ : ∃ CL, CL = cutL L := ⟨_, rfl⟩
  rw [← hCL] at HR1 HCL HN1
  clear hown1 hrv1 hb1 hn1 hCL HR HL HE0 HB0
  go_wp2_with (first
    | (refine wpList_store_row rfl 25 (.tmp 1) (.tmp 8) rfl W.heap.size (packA (.slice a1 n1 c1) R) rfl rfl 25 _ HB1.out (by rw [pack25, HPS.out]) (by rw [HPS.out, HPS.out]) (packA_one _ _ _ _) ?_; generalize hW2 : World.setRow _ _ _ = w2; have HB2 : Hid (w2.heap[W.heap.size]? = some (.cells (packA (.slice a1 n1 c1) R) 25 (0, 0))) := (by rw [← hW2]; exact setRow_heap _ _ _ _ _ _ HB1.out); have HE2 : Hid (Below W.heap.size W w2) := (by rw [← hW2]; exact below_setRow HE1.out (Nat.le_refl _) _); have HR2 : Hid (RowsAt w2 a1 CL) := HR1.out w2 (fun g hg => by rw [← hW2]; exact setRow_other _ _ _ _ hg) HE2.out; clear hW2)
    | (refine wpList_load_row rfl 25 (.tmp 1) rfl W.heap.size rfl _ _ _ _ HB2.out Try.underlying25 rfl (by rw [pack25, HPS.out]) ?_)
    | fail)
  have HOC : Hid (∀ w', Below w2.heap.size w2 w' → Calls Try.prog 16 #[.agg (packA (.slice a1 n1 c1) R)] w' fun e w'' => (∃ a' c', e = .returned (.agg (packA (.slice a' n1 c') R)) ∧ RowsAt w'' a' CL) ∧ Below w'.heap.size w' w'') := fun w' hb => ours_c a1 n1 c1 CL R HN1.out.symm (by have := HCL.out.1; have := HN1.out; omega) (fun l h => by have := HCL.out.2 l h; omega) H16.out w' (HR2.out.up hb (Nat.le_refl _))
  have HPW : Hid (∀ w', Below w2.heap.size w2 w' → w'.heap[W.heap.size]? = some (.cells (packA (.slice a1 n1 c1) R) 25 (0, 0))) := fun w' h => (h.block _ (lt_of_block HB2.out)).trans HB2.out
  have HRW : Hid (∀ w', Below w2.heap.size w2 w' → RowsAt w' a1 CL) := fun w' h => HR2.out.up h (Nat.le_refl _)
  have HN12 : Hid (n1 ≤ 12) := by have := HCL.out.1; have := HN1.out; show _ ≤ _; omega
  have HRL := Lib.hid (rowsAt_lt HR2.out)
  clear HR1 HB1 HE1 HR2 HB2
  refine (HOC.out w2 (Below.refl _ _)).mono ?_
  rintro e w3 ⟨⟨a3, c3, rfl, hrows3⟩, hb3⟩
  have HR3 := Lib.hid hrows3
  have HE3 : Hid (Below w2.heap.size w2 w3) := hb3
  clear hrows3 hb3
  have HBL : Hid (mayP CL R = true → (packBody CL R).length ≤ 20000) := fun _ => by
    have h1 := rowsB_le CL 900 HCL.out.2
    have h2 := nums_len R
    have h3 : (packBody CL R).length = 6 + (numsB R).length + (rowsB CL).length := by unfold packBody headB; simp [lowB_len]; omega
    have h4 := HCL.out.1
    have h5 := H16.out
    have h6 : CL.length * 902 ≤ 12 * 902 := Nat.mul_le_mul_right _ h4
    omega
  go_wp2_with fail
  refine (pbytes_c a3 n1 c3 CL R HN1.out.symm (by have := HN12.out; omega) H16.out (fun h => by have := HBL.out h; omega) w3 HR3.out).mono ?_
  rintro e w4 ⟨⟨v4, rfl, hnil4, hown4⟩, hb4⟩
  have HE4 : Hid (Below w2.heap.size w2 w4) := HE3.out.trans (hb4.mono HE3.out.size)
  have HV4 : Hid (mayP CL R = false → _) := hnil4
  have HOW4 : Hid (mayP CL R = true → _) := hown4
  clear hb4 HR3 hnil4 hown4
  have HPW4 : Hid (∀ w', Below w4.heap.size w4 w' → w'.heap[W.heap.size]? = some (.cells (packA (.slice a1 n1 c1) R) 25 (0, 0))) := fun w' h => HPW.out w' (HE4.out.trans (h.mono HE4.out.size))
  have HUP4 : Hid (∀ w', Below w4.heap.size w4 w' → Below w2.heap.size w2 w') := fun w' h => HE4.out.trans (h.mono HE4.out.size)
  have HMAY : Hid (∀ (a' : Option Addr) (c' : Nat) (w' : World), RowsAt w' a' CL → Calls Try.prog 17 #[.agg (packA (.slice a' n1 c') R)] w' fun e w'' => e = .returned (.bool (mayP CL R)) ∧ Below w'.heap.size w' w'') := fun a' c' w' h => may_c a' n1 c' CL R HN1.out.symm (by have := HN12.out; omega) H16.out w' h
  have HRMAY : Hid (∀ (w' : World), Below w2.heap.size w2 w' → Calls Try.prog 7 #[.agg (packA (.slice a1 n1 c1) R)] w' fun e w'' => e = .returned (.bool (mayP CL R)) ∧ Below w'.heap.size w' w'') := fun w' h => rmay_c a1 n1 c1 CL R HN1.out.symm (by have := HN12.out; omega) H16.out w' (HRW.out w' h)
  obtain ⟨mp, hmp⟩ : ∃ mp, mp = mayP CL R := ⟨_, rfl⟩
  rw [← hmp] at HBL HV4 HOW4 HMAY HRMAY ⊢
  have HMP := Lib.hid hmp
  clear hmp
  go_wp2_with fail
  go_cut [20] from 14 to 19 (fun s20 wx => s20 = .bool false ∧ Below w4.heap.size w4 wx)
  case first =>
    refine wp_region_held_drew (S := fun w' => Below w4.heap.size w4 w') (by kernel_rfl) (Below.refl _ _).drew ?_
    intro hS
    generalize w4.drew = WD at hS ⊢
    change wpAnyH _ _ _ _ _ 6 #[false, false, false, false, false, false] _ _
    refine wpAnyH_take (i := 0) rfl (by kernel_rfl) (by kernel_rfl) (by kernel_rfl) (fun _ _ _ h => h) (yieldsIf_load_mid (by rfl) _ _ rfl W.heap.size 0 rfl (packA (.slice a1 n1 c1) R).toList _ (fun w' h => range_row (HPW4.out w' h)) Try.underlying25 rfl (by rw [pack25, Array.length_toList, HPS.out])) hS ?_
    simp only [List.getElem_toArray, List.getElem_cons_succ, List.getElem_cons_zero, Act.put, List.setIfInBounds_toArray, List.set_cons_zero, List.set_cons_succ]
    change wpAnyH _ _ _ _ _ 5 #[true, false, false, false, false, false] _ _
    refine wpAnyH_take (i := 3) rfl (by kernel_rfl) (by kernel_rfl) (by kernel_rfl) (fun _ _ _ h => h) (yieldsIf_load_mid (by rfl) _ _ rfl W.heap.size 0 rfl (packA (.slice a1 n1 c1) R).toList _ (fun w' h => range_row (HPW4.out w' h)) Try.underlying25 rfl (by rw [pack25, Array.length_toList, HPS.out])) hS ?_
    simp only [List.getElem_toArray, List.getElem_cons_succ, List.getElem_cons_zero, Act.put, List.setIfInBounds_toArray, List.set_cons_zero, List.set_cons_succ]
    change wpAnyH _ _ _ _ _ 4 #[true, false, false, true, false, false] _ _
    refine wpAnyH_ready (rs := [1]) (by kernel_rfl) (by simp) ?_
    refine AllReadyH.cons rfl (fun K hK => ?_) AllReadyH.nil
    rw [if_pos (by rfl)]
    go_simp
    refine (HOC.out WD (HUP4.out _ hS)).mono ?_
    rintro e wa ⟨⟨a7, c7, rfl, hr7⟩, hb7⟩
    refine hK.out _ _ (hS.trans (hb7.mono hS.size)) (fun hSa => ?_)
    clear hK K
    simp only [List.getElem_toArray, List.getElem_cons_succ, List.getElem_cons_zero, Act.put, List.setIfInBounds_toArray, List.set_cons_zero, List.set_cons_succ]
    change wpAnyH _ _ _ _ _ 3 #[true, true, false, true, false, false] _ _
    refine wpAnyH_ready (rs := [2]) (by kernel_rfl) (by simp) ?_
    refine AllReadyH.cons rfl (fun K hK => ?_) AllReadyH.nil
    rw [if_pos (by rfl)]
    go_simp
    refine (HMAY.out a7 c7 wa hr7).mono ?_
    rintro e wb ⟨rfl, hb8⟩
    refine hK.out _ _ (hSa.trans (hb8.mono hSa.size)) (fun hSb => ?_)
    clear hK K
    simp only [List.getElem_toArray, List.getElem_cons_succ, List.getElem_cons_zero, Act.put, List.setIfInBounds_toArray, List.set_cons_zero, List.set_cons_succ]
    change wpAnyH _ _ _ _ _ 2 #[true, true, true, true, false, false] _ _
    refine wpAnyH_ready (rs := [4]) (by kernel_rfl) (by simp) ?_
    refine AllReadyH.cons rfl (fun K hK => ?_) AllReadyH.nil
    rw [if_pos (by rfl)]
    go_simp
    refine (HRMAY.out wb (HUP4.out _ hSb)).mono ?_
    rintro e wc ⟨rfl, hb9⟩
    refine hK.out _ _ (hSb.trans (hb9.mono hSb.size)) (fun hSc => ?_)
    clear hK K
    simp only [List.getElem_toArray, List.getElem_cons_succ, List.getElem_cons_zero, Act.put, List.setIfInBounds_toArray, List.set_cons_zero, List.set_cons_succ]
    change wpAnyH _ _ _ _ _ 1 #[true, true, true, true, true, false] _ _
    refine wpAnyH_take (i := 5) rfl (by kernel_rfl) (by kernel_rfl) (by kernel_rfl) (fun _ _ _ h => h) (Or.inl ⟨by rfl, fun w' hSw => run_neb mp _ (.tmp 17) (.tmp 19) _ _ rfl rfl rfl w'⟩) hSc ?_
    simp only [List.getElem_toArray, List.getElem_cons_succ, List.getElem_cons_zero, Act.put, List.setIfInBounds_toArray, List.set_cons_zero, List.set_cons_succ]
    change wpAnyH _ _ _ _ _ 0 #[true, true, true, true, true, true] _ _
    refine wpAnyH_done (by kernel_rfl) ?_ _
    go_wp2_with fail
    go_meet
    exact ⟨rfl, hSc⟩
  case rest =>
    obtain ⟨rfl, hbc⟩ := hcut
    have HEC : Hid (Below W.heap.size W wc) := HE2.out.trans ((HUP4.out _ hbc).mono HE2.out.size)
    have HUC := Lib.hid (HUP4.out _ hbc)
    have HPWC := Lib.hid (HPW.out _ HUC.out)
    have HBC := Lib.hid hbc
    clear hbc
    go_wp2_with (first
      | (refine wpList_load_row rfl 25 (.tmp 1) rfl W.heap.size rfl _ _ _ _ HPWC.out Try.underlying25 rfl (by rw [pack25, HPS.out]) ?_)
      | fail)
    refine (HRMAY.out wc HUC.out).mono ?_
    rintro e w5 ⟨rfl, hb5⟩
    have HE5 : Hid (Below W.heap.size W w5) := HEC.out.trans (hb5.mono HEC.out.size)
    have HU5 : Hid (Below w2.heap.size w2 w5) := HUC.out.trans (hb5.mono HUC.out.size)
    have HB5 : Hid (Below w4.heap.size w4 w5) := HBC.out.trans (hb5.mono HBC.out.size)
    clear hb5
    cases mp with
    | false =>
      have hv4 := HV4.out rfl
      rw [show errB false = 1 from rfl]
      subst hv4
      go_wp2_with fail
      refine (awake36_c _).mono ?_
      rintro e w6 ⟨rfl, hb6⟩
      go_wp2
      go_ret
      exact ⟨rfl, HE5.out.trans (hb6.mono HE5.out.size)⟩
    | true =>
      rw [show errB true = 0 from rfl]
      have hown := HOW4.out rfl
      have HBL2 := Lib.hid (HBL.out rfl)
      obtain ⟨B, hB⟩ : ∃ B, B = packBytes CL R := ⟨_, rfl⟩
      rw [← hB] at hown
      have HBD := Lib.hid hB
      have HBB : Hid (∀ x ∈ B, x < 256) := by rw [hB]; exact packBytes_lt HRL.out
      have HPN : Hid (parseN B = some (CL, R)) := by rw [hB]; exact parse_back CL R H16.out HMP.out.symm
      have HNB : Hid (B.length ≤ 20100) := by
        have e : B.length = (packBody CL R).length + 32 := by rw [hB]; unfold packBytes; rw [List.length_append, sum_len]
        have := HBL2.out
        show _ ≤ _
        omega
      have HRB : Hid (∀ (w' : World), Below w2.heap.size w2 w' → Calls Try.prog 18 #[.agg (packA (.slice a1 n1 c1) R)] w' fun e w'' => ∃ v, e = .returned v ∧ w''.ownsRow w'.heap.size 5 1 v B.length (bA B).toList ∧ Below w'.heap.size w' w'') := fun w' h => by
        rw [hB]
        exact rpbytes_c a1 n1 c1 CL R HN1.out.symm (by have := HN12.out; omega) H16.out (fun r hr => by have := (may_parts HMP.out.symm).2.2 r hr; have := HN12.out; have := HN1.out; omega) (by have := HBL2.out; omega) w' (HRW.out w' h)
      obtain ⟨N, hN⟩ : ∃ N, N = B.length := ⟨_, rfl⟩
      rw [← hN] at hown HRB
      have HNL : Hid (B.length = N) := hN.symm
      have HOWN := Lib.hid hown
      obtain ⟨a4, c4, hv4, hb4, hl4, hc4, hcm4, hnl4, _⟩ := own_bytes HBB.out hown
      subst hv4
      have HB4 := Lib.hid hb4
      have HS5 : Hid (SlAt w5 (.slice a4 N c4) B) := ⟨a4, c4, by rw [HNL.out], HB4.out.up HB5.out (Nat.le_refl _), hnl4, by rw [HNL.out]; exact hc4, hcm4⟩
      clear hB hown hb4 hl4 hc4 hcm4 hnl4 hN
      go_wp2_with fail
      refine (parse_c _ B (by have := HNB.out; omega) w5 HS5.out).mono ?_
      rintro e w7 ⟨hpr, hb7⟩
      unfold ParseRes at hpr
      rw [HPN.out] at hpr
      obtain ⟨a9, c9, rfl, hr9⟩ := hpr
      have HR9 := Lib.hid hr9
      rw [← HN1.out]
      have HE7 : Hid (Below W.heap.size W w7) := HE5.out.trans (hb7.mono HE5.out.size)
      have HU7 : Hid (Below w2.heap.size w2 w7) := HU5.out.trans (hb7.mono HU5.out.size)
      have HB7 : Hid (Below w4.heap.size w4 w7) := HB5.out.trans (hb7.mono HB5.out.size)
      clear hr9 hb7
      have HZ8 : Hid ((w7.alloc (.cells #[.slice none 0 0, .int .i64 0, .int .i64 0, .int .i64 0, .int .i64 0, .int .i64 0, .int .i64 0, .int .i64 0, .int .i64 0, .int .i64 0, .int .i64 0, .int .i64 0, .int .i64 0, .int .i64 0, .int .i64 0, .int .i64 0, .int .i64 0] 33)).heap[w7.heap.size]? = some (.cells #[.slice none 0 0, .int .i64 0, .int .i64 0, .int .i64 0, .int .i64 0, .int .i64 0, .int .i64 0, .int .i64 0, .int .i64 0, .int .i64 0, .int .i64 0, .int .i64 0, .int .i64 0, .int .i64 0, .int .i64 0, .int .i64 0, .int .i64 0] 33 (0, 0))) := heap_new' _ _
      go_wp2_with (first
        | (refine wpList_store_row rfl 33 (.tmp 5) (.tmp 37) rfl w7.heap.size (packA (.slice a9 n1 c9) R) rfl rfl 33 _ HZ8.out (by rw [pack33, HPS.out]) (by rw [HPS.out]; rfl) (packA_one _ _ _ _) ?_; generalize hW9 : World.setRow _ _ _ = w9; have HE9 : Hid (Below w7.heap.size w7 w9) := (by rw [← hW9]; exact below_setRow ((Below.refl _ _).alloc (Nat.le_refl _) _) (Nat.le_refl _) _); have HX9 : Hid (w9.heap[w7.heap.size]? = some (.cells (packA (.slice a9 n1 c9) R) 33 (0, 0))) := (by rw [← hW9]; exact setRow_heap _ _ _ _ _ _ HZ8.out); clear hW9)
        | fail)
      have HU9 : Hid (∀ w', Below w9.heap.size w9 w' → Below w2.heap.size w2 w') := fun w' h => HU7.out.trans ((HE9.out.trans (h.mono HE9.out.size)).mono HU7.out.size)
      have HPW9 : Hid (∀ w', Below w9.heap.size w9 w' → w'.heap[W.heap.size]? = some (.cells (packA (.slice a1 n1 c1) R) 25 (0, 0))) := fun w' h => HPW.out w' (HU9.out w' h)
      have HX : Hid (∀ w', Below w9.heap.size w9 w' → w'.heap[w7.heap.size]? = some (.cells (packA (.slice a9 n1 c9) R) 33 (0, 0))) := fun w' h => (h.block _ (lt_of_block HX9.out)).trans HX9.out
      have HR9W : Hid (∀ w', Below w9.heap.size w9 w' → RowsAt w' a9 CL) := fun w' h => HR9.out.up (HE9.out.trans (h.mono HE9.out.size)) (Nat.le_refl _)
      have HBW : Hid (∀ w', Below w9.heap.size w9 w' → BytesAt w' a4 c4 B) := fun w' h => HB4.out.up (HB7.out.trans ((HE9.out.trans (h.mono HE9.out.size)).mono HB7.out.size)) (Nat.le_refl _)
      have HFIN : Hid (∀ w', Below w9.heap.size w9 w' → Below W.heap.size W w') := fun w' h => HE7.out.trans ((HE9.out.trans (h.mono HE9.out.size)).mono HE7.out.size)
      refine wp_region_held_drew (S := fun w' => Below w9.heap.size w9 w') (by kernel_rfl) (Below.refl _ _).drew ?_
      intro hS
      generalize w9.drew = WD at hS ⊢
      change wpAnyH _ _ _ _ _ 30 #[false, false, false, false, false, false, false, false, false, false, false, false, false, false, false, false, false, false, false, false, false, false, false, false, false, false, false, false, false, false] _ _
      refine wpAnyH_take (i := 0) (v := ?_) rfl (by kernel_rfl) (by kernel_rfl) (by kernel_rfl) (fun _ _ _ h => h) (Or.inl ⟨by rfl, ?hy⟩) hS ?_
      case hy => intro w' hSw; go_simp; try with_reducible rfl
      simp only [List.getElem_toArray, List.getElem_cons_succ, List.getElem_cons_zero, Act.put, List.setIfInBounds_toArray, List.set_cons_zero, List.set_cons_succ]
      change wpAnyH _ _ _ _ _ 29 #[true, false, false, false, false, false, false, false, false, false, false, false, false, false, false, false, false, false, false, false, false, false, false, false, false, false, false, false, false, false] _ _
      refine wpAnyH_take (i := 1) (v := ?_) rfl (by kernel_rfl) (by kernel_rfl) (by kernel_rfl) (fun _ _ _ h => h) (Or.inl ⟨by rfl, ?hy⟩) hS ?_
      case hy => intro w' hSw; go_simp; try with_reducible rfl
      simp only [List.getElem_toArray, List.getElem_cons_succ, List.getElem_cons_zero, Act.put, List.setIfInBounds_toArray, List.set_cons_zero, List.set_cons_succ]
      change wpAnyH _ _ _ _ _ 28 #[true, true, false, false, false, false, false, false, false, false, false, false, false, false, false, false, false, false, false, false, false, false, false, false, false, false, false, false, false, false] _ _
      refine wpAnyH_take (i := 2) (v := ?_) rfl (by kernel_rfl) (by kernel_rfl) (by kernel_rfl) (fun _ _ _ h => h) (Or.inl ⟨by rfl, ?hy⟩) hS ?_
      case hy => intro w' hSw; go_simp; try with_reducible rfl
      simp only [List.getElem_toArray, List.getElem_cons_succ, List.getElem_cons_zero, Act.put, List.setIfInBounds_toArray, List.set_cons_zero, List.set_cons_succ]
      change wpAnyH _ _ _ _ _ 27 #[true, true, true, false, false, false, false, false, false, false, false, false, false, false, false, false, false, false, false, false, false, false, false, false, false, false, false, false, false, false] _ _
      refine wpAnyH_take (i := 3) (v := ?_) rfl (by kernel_rfl) (by kernel_rfl) (by kernel_rfl) (fun _ _ _ h => h) (Or.inl ⟨by rfl, ?hy⟩) hS ?_
      case hy => intro w' hSw; go_simp; try with_reducible rfl
      simp only [List.getElem_toArray, List.getElem_cons_succ, List.getElem_cons_zero, Act.put, List.setIfInBounds_toArray, List.set_cons_zero, List.set_cons_succ]
      change wpAnyH _ _ _ _ _ 26 #[true, true, true, true, false, false, false, false, false, false, false, false, false, false, false, false, false, false, false, false, false, false, false, false, false, false, false, false, false, false] _ _
      refine wpAnyH_take (i := 4) rfl (by kernel_rfl) (by kernel_rfl) (by kernel_rfl) (fun _ _ _ h => h) (Or.inl ⟨by rfl, fun w' hSw => run_conv_op HNL.out (HBW.out w' hSw) _ (.tmp 42) _ rfl rfl⟩) hS ?_
      simp only [List.getElem_toArray, List.getElem_cons_succ, List.getElem_cons_zero, Act.put, List.setIfInBounds_toArray, List.set_cons_zero, List.set_cons_succ]
      change wpAnyH _ _ _ _ _ 25 #[true, true, true, true, true, false, false, false, false, false, false, false, false, false, false, false, false, false, false, false, false, false, false, false, false, false, false, false, false, false] _ _
      refine wpAnyH_take (i := 5) rfl (by kernel_rfl) (by kernel_rfl) (by kernel_rfl) (fun _ _ _ h => h) (yieldsIf_load_mid (by rfl) _ _ rfl W.heap.size 0 rfl (packA (.slice a1 n1 c1) R).toList _ (fun w' h => range_row (HPW9.out w' h)) Try.underlying25 rfl (by rw [pack25, Array.length_toList, HPS.out])) hS ?_
      simp only [List.getElem_toArray, List.getElem_cons_succ, List.getElem_cons_zero, Act.put, List.setIfInBounds_toArray, List.set_cons_zero, List.set_cons_succ]
      change wpAnyH _ _ _ _ _ 24 #[true, true, true, true, true, true, false, false, false, false, false, false, false, false, false, false, false, false, false, false, false, false, false, false, false, false, false, false, false, false] _ _
      refine wpAnyH_ready (rs := [6]) (by kernel_rfl) (by simp) ?_
      refine AllReadyH.cons rfl (fun K hK => ?_) AllReadyH.nil
      rw [if_pos (by rfl)]
      go_simp
      refine (HRB.out WD (HU9.out _ hS)).mono ?_
      rintro e wa ⟨v10, rfl, hown10, hb10⟩
      refine hK.out _ _ (hS.trans (hb10.mono hS.size)) (fun hSa => ?_)
      clear hK K
      simp only [List.getElem_toArray, List.getElem_cons_succ, List.getElem_cons_zero, Act.put, List.setIfInBounds_toArray, List.set_cons_zero, List.set_cons_succ]
      change wpAnyH _ _ _ _ _ 23 #[true, true, true, true, true, true, true, false, false, false, false, false, false, false, false, false, false, false, false, false, false, false, false, false, false, false, false, false, false, false] _ _
      obtain ⟨a10, c10, hv10, hbb10, -⟩ := own_bytes HBB.out hown10
      subst hv10
      have HBB10 := Lib.hid hbb10
      clear hown10 hbb10 hb10
      refine wpAnyH_ready (rs := [7]) (by kernel_rfl) (by simp) ?_
      refine AllReadyH.cons rfl (fun K hK => ?_) AllReadyH.nil
      rw [if_pos (by rfl)]
      refine wp_conv (.tmp 45) HNL.out HBB10.out rfl rfl ?_
      refine hK.out _ wa (hSa) (fun hSb => ?_)
      clear hK K
      simp only [List.getElem_toArray, List.getElem_cons_succ, List.getElem_cons_zero, Act.put, List.setIfInBounds_toArray, List.set_cons_zero, List.set_cons_succ]
      change wpAnyH _ _ _ _ _ 22 #[true, true, true, true, true, true, true, true, false, false, false, false, false, false, false, false, false, false, false, false, false, false, false, false, false, false, false, false, false, false] _ _
      refine wpAnyH_take (i := 8) rfl (by kernel_rfl) (by kernel_rfl) (by kernel_rfl) (fun _ _ _ h => h) (Or.inl ⟨by rfl, fun w' hSw => run_eqs1 B HBB.out _ (.tmp 43) (.tmp 46) _ _ rfl rfl rfl w'⟩) hSb ?_
      simp only [List.getElem_toArray, List.getElem_cons_succ, List.getElem_cons_zero, Act.put, List.setIfInBounds_toArray, List.set_cons_zero, List.set_cons_succ]
      change wpAnyH _ _ _ _ _ 21 #[true, true, true, true, true, true, true, true, true, false, false, false, false, false, false, false, false, false, false, false, false, false, false, false, false, false, false, false, false, false] _ _
      refine wpAnyH_take (i := 9) (v := ?_) rfl (by kernel_rfl) (by kernel_rfl) (by kernel_rfl) (fun _ _ _ h => h) (Or.inl ⟨by rfl, ?hy⟩) hSb ?_
      case hy => intro w' hSw; go_simp; try with_reducible rfl
      simp only [List.getElem_toArray, List.getElem_cons_succ, List.getElem_cons_zero, Act.put, List.setIfInBounds_toArray, List.set_cons_zero, List.set_cons_succ]
      change wpAnyH _ _ _ _ _ 20 #[true, true, true, true, true, true, true, true, true, true, false, false, false, false, false, false, false, false, false, false, false, false, false, false, false, false, false, false, false, false] _ _
      refine wpAnyH_take (i := 10) (v := ?_) rfl (by kernel_rfl) (by kernel_rfl) (by kernel_rfl) (fun _ _ _ h => h) (Or.inl ⟨by rfl, ?hy⟩) hSb ?_
      case hy => intro w' hSw; go_simp; try with_reducible rfl
      simp only [List.getElem_toArray, List.getElem_cons_succ, List.getElem_cons_zero, Act.put, List.setIfInBounds_toArray, List.set_cons_zero, List.set_cons_succ]
      change wpAnyH _ _ _ _ _ 19 #[true, true, true, true, true, true, true, true, true, true, true, false, false, false, false, false, false, false, false, false, false, false, false, false, false, false, false, false, false, false] _ _
      refine wpAnyH_take (i := 11) (v := ?_) rfl (by kernel_rfl) (by kernel_rfl) (by kernel_rfl) (fun _ _ _ h => h) (Or.inl ⟨by rfl, ?hy⟩) hSb ?_
      case hy => intro w' hSw; go_simp; try with_reducible rfl
      simp only [List.getElem_toArray, List.getElem_cons_succ, List.getElem_cons_zero, Act.put, List.setIfInBounds_toArray, List.set_cons_zero, List.set_cons_succ]
      change wpAnyH _ _ _ _ _ 18 #[true, true, true, true, true, true, true, true, true, true, true, true, false, false, false, false, false, false, false, false, false, false, false, false, false, false, false, false, false, false] _ _
      refine wpAnyH_take (i := 12) (v := ?_) rfl (by kernel_rfl) (by kernel_rfl) (by kernel_rfl) (fun _ _ _ h => h) (Or.inl ⟨by rfl, ?hy⟩) hSb ?_
      case hy => intro w' hSw; go_simp; try with_reducible rfl
      simp only [List.getElem_toArray, List.getElem_cons_succ, List.getElem_cons_zero, Act.put, List.setIfInBounds_toArray, List.set_cons_zero, List.set_cons_succ]
      change wpAnyH _ _ _ _ _ 17 #[true, true, true, true, true, true, true, true, true, true, true, true, true, false, false, false, false, false, false, false, false, false, false, false, false, false, false, false, false, false] _ _
      refine wpAnyH_take (i := 13) (v := ?_) rfl (by kernel_rfl) (by kernel_rfl) (by kernel_rfl) (fun _ _ _ h => h) (Or.inl ⟨by rfl, ?hy⟩) hSb ?_
      case hy => intro w' hSw; go_simp; try with_reducible rfl
      simp only [List.getElem_toArray, List.getElem_cons_succ, List.getElem_cons_zero, Act.put, List.setIfInBounds_toArray, List.set_cons_zero, List.set_cons_succ]
      change wpAnyH _ _ _ _ _ 16 #[true, true, true, true, true, true, true, true, true, true, true, true, true, true, false, false, false, false, false, false, false, false, false, false, false, false, false, false, false, false] _ _
      refine wpAnyH_take (i := 14) (v := ?_) rfl (by kernel_rfl) (by kernel_rfl) (by kernel_rfl) (fun _ _ _ h => h) (Or.inl ⟨by rfl, ?hy⟩) hSb ?_
      case hy => intro w' hSw; go_simp; try with_reducible rfl
      simp only [List.getElem_toArray, List.getElem_cons_succ, List.getElem_cons_zero, Act.put, List.setIfInBounds_toArray, List.set_cons_zero, List.set_cons_succ]
      change wpAnyH _ _ _ _ _ 15 #[true, true, true, true, true, true, true, true, true, true, true, true, true, true, true, false, false, false, false, false, false, false, false, false, false, false, false, false, false, false] _ _
      refine wpAnyH_take (i := 15) rfl (by kernel_rfl) (by kernel_rfl) (by kernel_rfl) (fun _ _ _ h => h) (yieldsIf_load_mid (by rfl) _ _ rfl w7.heap.size 0 rfl (packA (.slice a9 n1 c9) R).toList _ (fun w' h => range_row (HX.out w' h)) Try.underlying33 rfl (by rw [pack33, Array.length_toList, HPS.out])) hSb ?_
      simp only [List.getElem_toArray, List.getElem_cons_succ, List.getElem_cons_zero, Act.put, List.setIfInBounds_toArray, List.set_cons_zero, List.set_cons_succ]
      change wpAnyH _ _ _ _ _ 14 #[true, true, true, true, true, true, true, true, true, true, true, true, true, true, true, true, false, false, false, false, false, false, false, false, false, false, false, false, false, false] _ _
      refine wpAnyH_take (i := 17) rfl (by kernel_rfl) (by kernel_rfl) (by kernel_rfl) (fun _ _ _ h => h) (yieldsIf_load_mid (by rfl) _ _ rfl W.heap.size 0 rfl (packA (.slice a1 n1 c1) R).toList _ (fun w' h => range_row (HPW9.out w' h)) Try.underlying25 rfl (by rw [pack25, Array.length_toList, HPS.out])) hSb ?_
      simp only [List.getElem_toArray, List.getElem_cons_succ, List.getElem_cons_zero, Act.put, List.setIfInBounds_toArray, List.set_cons_zero, List.set_cons_succ]
      change wpAnyH _ _ _ _ _ 13 #[true, true, true, true, true, true, true, true, true, true, true, true, true, true, true, true, false, true, false, false, false, false, false, false, false, false, false, false, false, false] _ _
      refine wpAnyH_ready (rs := [16]) (by kernel_rfl) (by simp) ?_
      refine AllReadyH.cons rfl (fun K hK => ?_) AllReadyH.nil
      rw [if_pos (by rfl)]
      go_simp
      refine (plain_c a9 n1 c9 R H16.out wa).mono ?_
      rintro e wb ⟨rfl, hb11⟩
      refine hK.out _ _ (hSb.trans (hb11.mono hSb.size)) (fun hSc => ?_)
      clear hK K
      simp only [List.getElem_toArray, List.getElem_cons_succ, List.getElem_cons_zero, Act.put, List.setIfInBounds_toArray, List.set_cons_zero, List.set_cons_succ]
      change wpAnyH _ _ _ _ _ 12 #[true, true, true, true, true, true, true, true, true, true, true, true, true, true, true, true, true, true, false, false, false, false, false, false, false, false, false, false, false, false] _ _
      refine wpAnyH_ready (rs := [18]) (by kernel_rfl) (by simp) ?_
      refine AllReadyH.cons rfl (fun K hK => ?_) AllReadyH.nil
      rw [if_pos (by rfl)]
      go_simp
      refine (rsame_c a9 a1 n1 c9 c1 CL R HN1.out.symm (by have := HN12.out; omega) H16.out wb (HR9W.out _ hSc) (HRW.out _ (HU9.out _ hSc))).mono ?_
      rintro e wd ⟨rfl, hb12⟩
      refine hK.out _ _ (hSc.trans (hb12.mono hSc.size)) (fun hSd => ?_)
      clear hK K
      simp only [List.getElem_toArray, List.getElem_cons_succ, List.getElem_cons_zero, Act.put, List.setIfInBounds_toArray, List.set_cons_zero, List.set_cons_succ]
      change wpAnyH _ _ _ _ _ 11 #[true, true, true, true, true, true, true, true, true, true, true, true, true, true, true, true, true, true, true, false, false, false, false, false, false, false, false, false, false, false] _ _
      refine wpAnyH_take (i := 19) (v := ?_) rfl (by kernel_rfl) (by kernel_rfl) (by kernel_rfl) (fun _ _ _ h => h) (Or.inl ⟨by rfl, ?hy⟩) hSd ?_
      case hy => intro w' hSw; go_simp; try with_reducible rfl
      simp only [List.getElem_toArray, List.getElem_cons_succ, List.getElem_cons_zero, Act.put, List.setIfInBounds_toArray, List.set_cons_zero, List.set_cons_succ]
      change wpAnyH _ _ _ _ _ 10 #[true, true, true, true, true, true, true, true, true, true, true, true, true, true, true, true, true, true, true, true, false, false, false, false, false, false, false, false, false, false] _ _
      refine wpAnyH_take (i := 20) (v := ?_) rfl (by kernel_rfl) (by kernel_rfl) (by kernel_rfl) (fun _ _ _ h => h) (Or.inl ⟨by rfl, ?hy⟩) hSd ?_
      case hy => intro w' hSw; go_simp; try with_reducible rfl
      simp only [List.getElem_toArray, List.getElem_cons_succ, List.getElem_cons_zero, Act.put, List.setIfInBounds_toArray, List.set_cons_zero, List.set_cons_succ]
      change wpAnyH _ _ _ _ _ 9 #[true, true, true, true, true, true, true, true, true, true, true, true, true, true, true, true, true, true, true, true, true, false, false, false, false, false, false, false, false, false] _ _
      refine wpAnyH_take (i := 21) rfl (by kernel_rfl) (by kernel_rfl) (by kernel_rfl) (fun _ _ _ h => h) (yieldsIf_load_mid (by rfl) _ _ rfl w7.heap.size 0 rfl (packA (.slice a9 n1 c9) R).toList _ (fun w' h => range_row (HX.out w' h)) Try.underlying33 rfl (by rw [pack33, Array.length_toList, HPS.out])) hSd ?_
      simp only [List.getElem_toArray, List.getElem_cons_succ, List.getElem_cons_zero, Act.put, List.setIfInBounds_toArray, List.set_cons_zero, List.set_cons_succ]
      change wpAnyH _ _ _ _ _ 8 #[true, true, true, true, true, true, true, true, true, true, true, true, true, true, true, true, true, true, true, true, true, true, false, false, false, false, false, false, false, false] _ _
      refine wpAnyH_take (i := 22) rfl (by kernel_rfl) (by kernel_rfl) (by kernel_rfl) (fun _ _ _ h => h) (yieldsIf_load_mid (by rfl) _ _ rfl W.heap.size 0 rfl (packA (.slice a1 n1 c1) R).toList _ (fun w' h => range_row (HPW9.out w' h)) Try.underlying25 rfl (by rw [pack25, Array.length_toList, HPS.out])) hSd ?_
      simp only [List.getElem_toArray, List.getElem_cons_succ, List.getElem_cons_zero, Act.put, List.setIfInBounds_toArray, List.set_cons_zero, List.set_cons_succ]
      change wpAnyH _ _ _ _ _ 7 #[true, true, true, true, true, true, true, true, true, true, true, true, true, true, true, true, true, true, true, true, true, true, true, false, false, false, false, false, false, false] _ _
      refine wpAnyH_ready (rs := [23]) (by kernel_rfl) (by simp) ?_
      refine AllReadyH.cons rfl (fun K hK => ?_) AllReadyH.nil
      rw [if_pos (by rfl)]
      go_simp
      refine (HOC.out wd (HU9.out _ hSd)).mono ?_
      rintro e we ⟨⟨a13, c13, rfl, hr13⟩, hb13⟩
      refine hK.out _ _ (hSd.trans (hb13.mono hSd.size)) (fun hSe => ?_)
      clear hK K
      simp only [List.getElem_toArray, List.getElem_cons_succ, List.getElem_cons_zero, Act.put, List.setIfInBounds_toArray, List.set_cons_zero, List.set_cons_succ]
      change wpAnyH _ _ _ _ _ 6 #[true, true, true, true, true, true, true, true, true, true, true, true, true, true, true, true, true, true, true, true, true, true, true, true, false, false, false, false, false, false] _ _
      refine wpAnyH_ready (rs := [24]) (by kernel_rfl) (by simp) ?_
      refine AllReadyH.cons rfl (fun K hK => ?_) AllReadyH.nil
      rw [if_pos (by rfl)]
      go_simp
      refine (psame_c a9 a13 n1 c9 c13 CL R HN1.out.symm (by have := HN12.out; omega) H16.out we (HR9W.out _ hSe) hr13).mono ?_
      rintro e wf ⟨rfl, hb14⟩
      refine hK.out _ _ (hSe.trans (hb14.mono hSe.size)) (fun hSf => ?_)
      clear hK K
      simp only [List.getElem_toArray, List.getElem_cons_succ, List.getElem_cons_zero, Act.put, List.setIfInBounds_toArray, List.set_cons_zero, List.set_cons_succ]
      change wpAnyH _ _ _ _ _ 5 #[true, true, true, true, true, true, true, true, true, true, true, true, true, true, true, true, true, true, true, true, true, true, true, true, true, false, false, false, false, false] _ _
      refine wpAnyH_take (i := 25) (v := ?_) rfl (by kernel_rfl) (by kernel_rfl) (by kernel_rfl) (fun _ _ _ h => h) (Or.inl ⟨by rfl, ?hy⟩) hSf ?_
      case hy => intro w' hSw; go_simp; try with_reducible rfl
      simp only [List.getElem_toArray, List.getElem_cons_succ, List.getElem_cons_zero, Act.put, List.setIfInBounds_toArray, List.set_cons_zero, List.set_cons_succ]
      change wpAnyH _ _ _ _ _ 4 #[true, true, true, true, true, true, true, true, true, true, true, true, true, true, true, true, true, true, true, true, true, true, true, true, true, true, false, false, false, false] _ _
      refine wpAnyH_take (i := 26) (v := ?_) rfl (by kernel_rfl) (by kernel_rfl) (by kernel_rfl) (fun _ _ _ h => h) (Or.inl ⟨by rfl, ?hy⟩) hSf ?_
      case hy => intro w' hSw; go_simp; try with_reducible rfl
      simp only [List.getElem_toArray, List.getElem_cons_succ, List.getElem_cons_zero, Act.put, List.setIfInBounds_toArray, List.set_cons_zero, List.set_cons_succ]
      change wpAnyH _ _ _ _ _ 3 #[true, true, true, true, true, true, true, true, true, true, true, true, true, true, true, true, true, true, true, true, true, true, true, true, true, true, true, false, false, false] _ _
      refine wpAnyH_ready (rs := [27]) (by kernel_rfl) (by simp) ?_
      refine AllReadyH.cons rfl (fun K hK => ?_) AllReadyH.nil
      rw [if_pos (by rfl)]
      go_simp
      refine (awake36_c wf).mono ?_
      rintro e wg ⟨rfl, hb15⟩
      refine hK.out _ _ (hSf.trans (hb15.mono hSf.size)) (fun hSg => ?_)
      clear hK K
      simp only [List.getElem_toArray, List.getElem_cons_succ, List.getElem_cons_zero, Act.put, List.setIfInBounds_toArray, List.set_cons_zero, List.set_cons_succ]
      change wpAnyH _ _ _ _ _ 2 #[true, true, true, true, true, true, true, true, true, true, true, true, true, true, true, true, true, true, true, true, true, true, true, true, true, true, true, true, false, false] _ _
      refine wpAnyH_take (i := 28) (v := ?_) rfl (by kernel_rfl) (by kernel_rfl) (by kernel_rfl) (fun _ _ _ h => h) (Or.inl ⟨by rfl, ?hy⟩) hSg ?_
      case hy => intro w' hSw; go_simp; try with_reducible rfl
      simp only [List.getElem_toArray, List.getElem_cons_succ, List.getElem_cons_zero, Act.put, List.setIfInBounds_toArray, List.set_cons_zero, List.set_cons_succ]
      change wpAnyH _ _ _ _ _ 1 #[true, true, true, true, true, true, true, true, true, true, true, true, true, true, true, true, true, true, true, true, true, true, true, true, true, true, true, true, true, false] _ _
      refine wpAnyH_take (i := 29) (v := ?_) rfl (by kernel_rfl) (by kernel_rfl) (by kernel_rfl) (fun _ _ _ h => h) (Or.inl ⟨by rfl, ?hy⟩) hSg ?_
      case hy => intro w' hSw; go_simp; try with_reducible rfl
      simp only [List.getElem_toArray, List.getElem_cons_succ, List.getElem_cons_zero, Act.put, List.setIfInBounds_toArray, List.set_cons_zero, List.set_cons_succ]
      change wpAnyH _ _ _ _ _ 0 #[true, true, true, true, true, true, true, true, true, true, true, true, true, true, true, true, true, true, true, true, true, true, true, true, true, true, true, true, true, true] _ _
      refine wpAnyH_done (by kernel_rfl) ?_ _
      go_wp2_with fail
      go_ret
      exact ⟨rfl, HFIN.out _ hSg⟩
end Go.Proofs.Ythpglpnonecnfaa
