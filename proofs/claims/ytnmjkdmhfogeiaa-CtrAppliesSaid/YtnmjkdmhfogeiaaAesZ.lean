/- The walk of the law AesBack. Printed by gen_back.py. -/
import Derived.Test.YtnmjkdmhfogeiaaAesY
import Derived.Test.YtnmjkdmhfogeiaaAesQ
set_option linter.unusedVariables false
set_option linter.unusedSimpArgs false
namespace Go.Proofs.Ytnmjkdmhfogeiaa
open Go Go.RowKit GfM
theorem alloc3 (w : World) (o0 o1 o2 : Obj) : (((w.alloc o0).alloc o1).alloc o2).heap[w.heap.size]? = some o0 ∧ (((w.alloc o0).alloc o1).alloc o2).heap[w.heap.size + 1]? = some o1 ∧
    (((w.alloc o0).alloc o1).alloc o2).heap[w.heap.size + 1 + 1]? = some o2 ∧ Below w.heap.size w (((w.alloc o0).alloc o1).alloc o2) := by
  refine ⟨?_, ?_, ?_, ?_⟩
  · rw [heap_old' _ _ _ (by simp <;> omega), heap_old' _ _ _ (by simp), heap_new']
  · rw [heap_old' _ _ _ (by simp), show w.heap.size + 1 = (w.alloc o0).heap.size by simp, heap_new']
  · rw [show w.heap.size + 1 + 1 = ((w.alloc o0).alloc o1).heap.size by simp, heap_new']
  · exact (((Below.refl _ _).alloc (Nat.le_refl _) _).alloc (by simp) _).alloc (by simp <;> omega) _
set_option maxRecDepth 100000 in
set_option maxHeartbeats 4000000 in
theorem walkAesBack (a : List Nat) (ha : a.length = 16) (hab : ∀ x ∈ a, x < 256) (b : List Nat) (hb : b.length = 16) (hbb : ∀ x ∈ b, x < 256) (long : Bool)
    (p : List Nat) (hp : p.length = 16) (hpb : ∀ x ∈ p, x < 256) (w : World) :
    Calls Try.prog 15 #[.agg (bA a), .agg (bA b), .bool long, .agg (bA p)] w fun e w' => e = .returned (.bool true) ∧ Below w.heap.size w w' := by
  obtain ⟨h0, h1, h2, hbl⟩ := alloc3 w (.cells (bA a) 44) (.cells (bA b) 44) (.cells (bA p) 44)
  have HA := Lib.hid (And.intro ha hab)
  have HB := Lib.hid (And.intro hb hbb)
  have HP := Lib.hid (And.intro hp hpb)
  have H0 := Lib.hid h0
  have H1 := Lib.hid h1
  have H2 := Lib.hid h2
  have HBL := Lib.hid hbl
  clear ha hab hb hbb hp hpb h0 h1 h2 hbl
  go_enter Try.func15, Try.ntmps15
  go_wp2
  generalize (World.alloc _ _) = W0 at *
  go_cut [9, 10] from 11 to 19 (fun s11 s12 wx => ∃ c b' g n cp, s11 = .pointer (some ⟨c, 0, none⟩) ∧ s12 = .int .i64 0 ∧ Cip wx c b' g n cp (roundsK (keyOf a b long)) (wordsK (keyOf a b long)) ∧ Below W0.heap.size W0 wx)
  case first =>
    refine wp_region_held_drew (S := fun w' => Below W0.heap.size W0 w') (by kernel_rfl) (Below.refl _ _).drew ?_
    intro hS
    generalize W0.drew = WD at hS ⊢
    change wpAnyH _ _ _ _ _ 11 #[false, false, false, false, false, false, false, false, false, false, false] _ _
    refine wpAnyH_take (i := 1) rfl (by kernel_rfl) (by kernel_rfl) (by kernel_rfl) (fun _ _ _ h => h) (yieldsIf_load_mid (by rfl) _ _ rfl (w.heap.size) 0 rfl (bA a).toList _ (fun _ h => range_bA a ((h.block _ (lt_of_block H0.out)).trans H0.out)) Try.underlying44 rfl (by rw [zero16']; simp [bA_size, HA.out.1])) hS ?_
    simp only [List.getElem_toArray, List.getElem_cons_succ, List.getElem_cons_zero, Act.put, List.setIfInBounds_toArray, List.set_cons_zero, List.set_cons_succ]
    change wpAnyH _ _ _ _ _ 10 #[false, true, false, false, false, false, false, false, false, false, false] _ _
    refine wpAnyH_take (i := 2) rfl (by kernel_rfl) (by kernel_rfl) (by kernel_rfl) (fun _ _ _ h => h) (yieldsIf_load_mid (by rfl) _ _ rfl (w.heap.size + 1) 0 rfl (bA b).toList _ (fun _ h => range_bA b ((h.block _ (lt_of_block H1.out)).trans H1.out)) Try.underlying44 rfl (by rw [zero16']; simp [bA_size, HB.out.1])) hS ?_
    simp only [List.getElem_toArray, List.getElem_cons_succ, List.getElem_cons_zero, Act.put, List.setIfInBounds_toArray, List.set_cons_zero, List.set_cons_succ]
    change wpAnyH _ _ _ _ _ 9 #[false, true, true, false, false, false, false, false, false, false, false] _ _
    refine wpAnyH_take (i := 3) (v := ?_) rfl (by kernel_rfl) (by kernel_rfl) (by kernel_rfl) (fun _ _ _ h => h) (Or.inl ⟨by rfl, ?hy⟩) hS ?_
    case hy => intro w' hSw; go_simp; try with_reducible rfl
    simp only [List.getElem_toArray, List.getElem_cons_succ, List.getElem_cons_zero, Act.put, List.setIfInBounds_toArray, List.set_cons_zero, List.set_cons_succ]
    change wpAnyH _ _ _ _ _ 8 #[false, true, true, true, false, false, false, false, false, false, false] _ _
    refine wpAnyH_ready (rs := [0]) (by kernel_rfl) (by simp) ?_
    refine AllReadyH.cons rfl (fun K hK => ?_) AllReadyH.nil
    rw [if_pos (by rfl)]
    go_simp
    refine (newbox_c WD).mono ?_
    rintro e w1 ⟨rfl, hbx, hlt1, hb1⟩
    refine hK.out _ _ (hS.trans (hb1.mono hS.size)) (fun hS1 => ?_)
    clear hK K
    simp only [List.getElem_toArray, List.getElem_cons_succ, List.getElem_cons_zero, Act.put, List.setIfInBounds_toArray, List.set_cons_zero, List.set_cons_succ]
    change wpAnyH _ _ _ _ _ 7 #[true, true, true, true, false, false, false, false, false, false, false] _ _
    refine wpAnyH_ready (rs := [4]) (by kernel_rfl) (by simp) ?_
    refine AllReadyH.cons rfl (fun K hK => ?_) AllReadyH.nil
    rw [if_pos (by rfl)]
    go_simp
    refine (key05_c a b HA.out.1 HB.out.1 long w1).mono ?_
    rintro e w2 ⟨gk, capk, rfl, hcap, hgk, hgk2, hkk, hb2⟩
    refine hK.out _ _ (hS1.trans (hb2.mono hS1.size)) (fun hS2 => ?_)
    clear hK K
    simp only [List.getElem_toArray, List.getElem_cons_succ, List.getElem_cons_zero, Act.put, List.setIfInBounds_toArray, List.set_cons_zero, List.set_cons_succ]
    change wpAnyH _ _ _ _ _ 6 #[true, true, true, true, true, false, false, false, false, false, false] _ _
    refine wpAnyH_ready (rs := [5]) (by kernel_rfl) (by simp) ?_
    refine AllReadyH.cons rfl (fun K hK => ?_) AllReadyH.nil
    rw [if_pos (by rfl)]
    go_simp
    refine (new_c WD.heap.size gk 0 capk (keyOf a b long) (keyOf_len HA.out.1 HB.out.1 long) (keyOf_lt HA.out.2 HB.out.2 long) hcap w2 (hbx.later hb2 hlt1) hgk2 (fun j hj => by rw [Nat.zero_add]; exact hkk j hj)).mono ?_
    rintro e w3 ⟨c, g, n, cp, rfl, hC, hcc, hgg, hb3⟩
    refine hK.out _ _ (hS2.trans (hb3.mono hS2.size)) (fun hS3 => ?_)
    clear hK K
    simp only [List.getElem_toArray, List.getElem_cons_succ, List.getElem_cons_zero, Act.put, List.setIfInBounds_toArray, List.set_cons_zero, List.set_cons_succ]
    change wpAnyH _ _ _ _ _ 5 #[true, true, true, true, true, true, false, false, false, false, false] _ _
    refine wpAnyH_take (i := 6) (v := ?_) rfl (by kernel_rfl) (by kernel_rfl) (by kernel_rfl) (fun _ _ _ h => h) (Or.inl ⟨by rfl, ?hy⟩) hS3 ?_
    case hy => intro w' hSw; go_simp; try with_reducible rfl
    simp only [List.getElem_toArray, List.getElem_cons_succ, List.getElem_cons_zero, Act.put, List.setIfInBounds_toArray, List.set_cons_zero, List.set_cons_succ]
    change wpAnyH _ _ _ _ _ 4 #[true, true, true, true, true, true, true, false, false, false, false] _ _
    refine wpAnyH_take (i := 7) (v := ?_) rfl (by kernel_rfl) (by kernel_rfl) (by kernel_rfl) (fun _ _ _ h => h) (Or.inl ⟨by rfl, ?hy⟩) hS3 ?_
    case hy => intro w' hSw; go_simp; try with_reducible rfl
    simp only [List.getElem_toArray, List.getElem_cons_succ, List.getElem_cons_zero, Act.put, List.setIfInBounds_toArray, List.set_cons_zero, List.set_cons_succ]
    change wpAnyH _ _ _ _ _ 3 #[true, true, true, true, true, true, true, true, false, false, false] _ _
    refine wpAnyH_take (i := 8) (v := ?_) rfl (by kernel_rfl) (by kernel_rfl) (by kernel_rfl) (fun _ _ _ h => h) (Or.inl ⟨by rfl, ?hy⟩) hS3 ?_
    case hy => intro w' hSw; go_simp; try with_reducible rfl
    simp only [List.getElem_toArray, List.getElem_cons_succ, List.getElem_cons_zero, Act.put, List.setIfInBounds_toArray, List.set_cons_zero, List.set_cons_succ]
    change wpAnyH _ _ _ _ _ 2 #[true, true, true, true, true, true, true, true, true, false, false] _ _
    refine wpAnyH_take (i := 9) (v := ?_) rfl (by kernel_rfl) (by kernel_rfl) (by kernel_rfl) (fun _ _ _ h => h) (Or.inl ⟨by rfl, ?hy⟩) hS3 ?_
    case hy => intro w' hSw; go_simp; try with_reducible rfl
    simp only [List.getElem_toArray, List.getElem_cons_succ, List.getElem_cons_zero, Act.put, List.setIfInBounds_toArray, List.set_cons_zero, List.set_cons_succ]
    change wpAnyH _ _ _ _ _ 1 #[true, true, true, true, true, true, true, true, true, true, false] _ _
    refine wpAnyH_take (i := 10) (v := ?_) rfl (by kernel_rfl) (by kernel_rfl) (by kernel_rfl) (fun _ _ _ h => h) (Or.inl ⟨by rfl, ?hy⟩) hS3 ?_
    case hy => intro w' hSw; go_simp; try with_reducible rfl
    simp only [List.getElem_toArray, List.getElem_cons_succ, List.getElem_cons_zero, Act.put, List.setIfInBounds_toArray, List.set_cons_zero, List.set_cons_succ]
    change wpAnyH _ _ _ _ _ 0 #[true, true, true, true, true, true, true, true, true, true, true] _ _
    refine wpAnyH_done (by kernel_rfl) ?_ _
    go_wp2_with fail
    go_meet
    exact ⟨c, _, g, n, cp, rfl, rfl, hC, hS3⟩
  case rest =>
    obtain ⟨c, b', g, n, cp, rfl, rfl, hC, hb0⟩ := hcut
    have hkl := keyOf_len HA.out.1 HB.out.1 long
    obtain ⟨S, f, hne, h1, h2⟩ := bclass wc
    have HK : Hid (∀ s', Cip (f s') c b' g n cp (roundsK (keyOf a b long)) (wordsK (keyOf a b long))) := fun s' => hC.up (h1 s') (Nat.le_refl _)
    have HKP : Hid (∀ s', (f s').heap[w.heap.size + 1 + 1]? = some (.cells (bA p) 44 (0, 0))) := fun s' => ((hb0.trans ((h1 s').mono hb0.size)).block _ (lt_of_block H2.out)).trans H2.out
    have hBP : By p := ⟨HP.out.1, fun j hj => by rw [List.getD_eq_getElem?_getD, List.getElem?_eq_getElem (by rw [HP.out.1]; exact hj)]; exact HP.out.2 _ (List.getElem_mem _)⟩
    have HBE := encK_by hkl hBP hC.fbyte
    have HBD := decK_by hkl hBP hC.fbyte
    have M1 : Hid (∀ x : S, Calls Try.prog 46 #[.pointer (some ⟨c, 0, none⟩), .agg (bA p)] (f x) fun e w' => e = .returned (.agg (bA (encK (keyOf a b long) p))) ∧ ∃ s', w' = f s') := fun x => bcall h1 h2 (enc_c hkl hBP _ (HK.out x))
    have M2 : Hid (∀ x : S, Calls Try.prog 52 #[.pointer (some ⟨c, 0, none⟩), .agg (bA (encK (keyOf a b long) p))] (f x) fun e w' => e = .returned (.agg (bA p)) ∧ ∃ s', w' = f s') := fun x => bcall h1 h2 (by have := dec_c hkl HBE _ (HK.out x); rw [decK_encK hkl hBP hC.fbyte] at this; exact this)
    have M3 : Hid (∀ x : S, Calls Try.prog 49 #[] (f x) fun e w' => e = .returned (.bool true) ∧ ∃ s', w' = f s') := fun x => bcall h1 h2 (awake05_c _)
    have M4 : Hid (∀ x : S, Calls Try.prog 52 #[.pointer (some ⟨c, 0, none⟩), .agg (bA p)] (f x) fun e w' => e = .returned (.agg (bA (decK (keyOf a b long) p))) ∧ ∃ s', w' = f s') := fun x => bcall h1 h2 (dec_c hkl hBP _ (HK.out x))
    have M5 : Hid (∀ x : S, Calls Try.prog 46 #[.pointer (some ⟨c, 0, none⟩), .agg (bA (decK (keyOf a b long) p))] (f x) fun e w' => e = .returned (.agg (bA p)) ∧ ∃ s', w' = f s') := fun x => bcall h1 h2 (by have := enc_c hkl HBD _ (HK.out x); rw [encK_decK hkl hBP hC.fbyte] at this; exact this)
    obtain ⟨i8, hi8⟩ := u8some
    have e2 : ∀ w, (binOp .eql 44 (.agg (bA p)) (.agg (bA p))).run Try.prog w = .ok (.bool true) w := fun w => by
      have := eql_bytes Try.prog 16 44 5 i8 Try.underlying44 Try.underlying5 u8plain hi8 u8cells _ _ HP.out.1 HP.out.1 w
      rw [this]; simp
    have HF1 := Lib.hid h1
    have HF2 := Lib.hid h2
    have HBW : Hid (Below w.heap.size w wc) := HBL.out.trans (hb0.mono HBL.out.size)
    have HP1 := Lib.hid HP.out.1
    clear hC hkl hb0 hBP HBE HBD h1 h2 hi8 HA HB HP H0 H1 H2 HBL
    go_wp2
    refine wp_region_quiet (C := fun w' => ∃ s, w' = f s) (by kernel_rfl) (by kernel_rfl) (HF2.out _ (Below.refl _ _).drew) ?_
    simp only
    repeat first
      | (refine quiet_row rfl 44 (.tmp 7) rfl (w.heap.size + 1 + 1) rfl 44 (bA p) (0, 0) _ (by rintro _ ⟨x, rfl⟩; exact HKP.out x) Try.underlying44 rfl (by rw [zero16', bA_size, HP1.out]) ?_; simp only [Act.put, List.setIfInBounds_toArray, List.set_cons_succ, List.set_cons_zero])
      | go_big_quiet_step ((with_reducible first | exact M1.out _ | exact M2.out _ | exact M3.out _ | exact M4.out _ | exact M5.out _))
    refine wpQuiet_nil ?_
    rintro _ ⟨s0, rfl⟩
    go_wp2
    go_ret
    exact ⟨rfl, HBW.out.trans ((HF1.out s0).mono HBW.out.size)⟩
end Go.Proofs.Ytnmjkdmhfogeiaa
