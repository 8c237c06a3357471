/- The walk of the law AesApart. -/
import Derived.Test.YtnmjkdmhfogeiaaAesX
import Derived.Test.YtnmjkdmhfogeiaaHeldT
import Derived.Deep.CutRange
import Derived.Deep.MidRow
import Derived.Test.YtnmjkdmhfogeiaaMixW
set_option linter.unusedVariables false
set_option linter.unusedSimpArgs false
namespace Go.Proofs.Ytnmjkdmhfogeiaa
open Go Go.RowKit GfM
theorem quiet_row {P : Program} {ops : Array Oper} {C : World → Prop} {Q : Act → Prop} {rest : List Oper} {o : Oper} {a : Act} (hgd : Region.wanted o (yielded ops a.tmps) = true) (ty : TypeId) (x : Operand) (ho : o.op = .load ty x)
    (g : Nat) (hx : a.eval x = .pointer (some ⟨g, 0, none⟩)) (t : TypeId) (cs : Array Value) (fr : Nat × Nat) (d : TypeDesc) (hg : ∀ w, C w → w.heap[g]? = some (.cells cs t fr))
    (hu : P.underlying ty = some d) (hd : (match d with | .struct _ | .array _ _ => true | _ => false) = true) (hi : (P.info? ty).map (·.size) = some cs.size)
    (h : wpQuiet P ops C Q rest (a.put o.dst (.agg cs))) : wpQuiet P ops C Q (o :: rest) a :=
  wpQuiet_step fun K hK => by
    rw [if_pos hgd]
    refine ⟨.agg cs, fun w hw => ?_, hK _ h⟩
    unfold Oper.quietAt execOp
    simp only [ho, hx, Instr.loadAt, Instr.sureAddr, Sem.run_bind, Sem.run_pure, Result.andThen_ok, run_loadVar_row w g t ty cs fr d (hg w hw) hu hd hi]
    exact ⟨rfl, rfl⟩
theorem keyOf_len {a b : List Nat} (ha : a.length = 16) (hb : b.length = 16) (long : Bool) : (keyOf a b long).length = 16 ∨ (keyOf a b long).length = 32 := by
  cases long <;> simp [keyOf, ha, hb]
theorem keyOf_lt {a b : List Nat} (ha : ∀ x ∈ a, x < 256) (hb : ∀ x ∈ b, x < 256) (long : Bool) : ∀ x ∈ keyOf a b long, x < 256 := by
  cases long
  · exact ha
  · intro x hx
    simp only [keyOf, if_true, List.mem_append] at hx
    rcases hx with h | h
    · exact ha x h
    · exact hb x h
theorem alloc4 (w : World) (o0 o1 o2 o3 : Obj) : ((((w.alloc o0).alloc o1).alloc o2).alloc o3).heap[w.heap.size]? = some o0 ∧ ((((w.alloc o0).alloc o1).alloc o2).alloc o3).heap[w.heap.size + 1]? = some o1 ∧
    ((((w.alloc o0).alloc o1).alloc o2).alloc o3).heap[w.heap.size + 1 + 1]? = some o2 ∧ ((((w.alloc o0).alloc o1).alloc o2).alloc o3).heap[w.heap.size + 1 + 1 + 1]? = some o3 ∧ Below w.heap.size w ((((w.alloc o0).alloc o1).alloc o2).alloc o3) := by
  refine ⟨?_, ?_, ?_, ?_, ?_⟩
  · rw [heap_old' _ _ _ (by simp <;> omega), heap_old' _ _ _ (by simp <;> omega), heap_old' _ _ _ (by simp), heap_new']
  · rw [heap_old' _ _ _ (by simp <;> omega), heap_old' _ _ _ (by simp), show w.heap.size + 1 = (w.alloc o0).heap.size by simp, heap_new']
  · rw [heap_old' _ _ _ (by simp), show w.heap.size + 1 + 1 = ((w.alloc o0).alloc o1).heap.size by simp, heap_new']
  · rw [show w.heap.size + 1 + 1 + 1 = (((w.alloc o0).alloc o1).alloc o2).heap.size by simp, heap_new']
  · exact ((((Below.refl _ _).alloc (Nat.le_refl _) _).alloc (by simp) _).alloc (by simp <;> omega) _).alloc (by simp <;> omega) _
set_option maxRecDepth 100000 in
set_option maxHeartbeats 4000000 in
theorem walkAesApart (a : List Nat) (ha : a.length = 16) (hab : ∀ x ∈ a, x < 256) (b : List Nat) (hb : b.length = 16) (hbb : ∀ x ∈ b, x < 256) (long : Bool)
    (p : List Nat) (hp : p.length = 16) (hpb : ∀ x ∈ p, x < 256) (q : List Nat) (hq : q.length = 16) (hqb : ∀ x ∈ q, x < 256) (w : World) :
    Calls Try.prog 13 #[.agg (bA a), .agg (bA b), .bool long, .agg (bA p), .agg (bA q)] w fun e w' => e = .returned (.bool true) ∧ Below w.heap.size w w' := by
  obtain ⟨h0, h1, h2, h3, hbl⟩ := alloc4 w (.cells (bA a) 44) (.cells (bA b) 44) (.cells (bA p) 44) (.cells (bA q) 44)
  have HA := Lib.hid (And.intro ha hab)
  have HB := Lib.hid (And.intro hb hbb)
  have HP := Lib.hid (And.intro hp hpb)
  have HQ := Lib.hid (And.intro hq hqb)
  have H0 := Lib.hid h0
  have H1 := Lib.hid h1
  have H2 := Lib.hid h2
  have H3 := Lib.hid h3
  have HBL := Lib.hid hbl
  clear ha hab hb hbb hp hpb hq hqb h0 h1 h2 h3 hbl
  go_enter Try.func13, Try.ntmps13
  go_wp2
  generalize (World.alloc _ _) = W0 at *
  go_cut [11, 12] from 13 to 21 (fun s11 s12 wx => ∃ c b' g n cp, s11 = .pointer (some ⟨c, 0, none⟩) ∧ s12 = .int .i64 0 ∧ Cip wx c b' g n cp (roundsK (keyOf a b long)) (wordsK (keyOf a b long)) ∧ Below W0.heap.size W0 wx)
  case first =>
    refine wp_region_held_drew (S := fun w' => Below W0.heap.size W0 w') (by kernel_rfl) (Below.refl _ _).drew ?_
    intro hS
    generalize W0.drew = WD at hS ⊢
    change wpAnyH _ _ _ _ _ 11 #[false, false, false, false, false, false, false, false, false, false, false] _ _
    refine wpAnyH_take (i := 1) rfl (by kernel_rfl) (by kernel_rfl) (by kernel_rfl) (fun _ _ _ h => h) (yieldsIf_load_mid (by rfl) _ _ rfl (w.heap.size) 0 rfl (bA a).toList _ (fun _ h => range_bA a ((h.block _ (lt_of_block H0.out)).trans H0.out)) Try.underlying44 rfl (by rw [zero16']; simp [bA_size, HA.out.1])) hS ?_
    simp only [List.getElem_toArray, List.getElem_cons_succ, List.getElem_cons_zero, Act.put, List.setIfInBounds_toArray, List.set_cons_zero, List.set_cons_succ]
    change wpAnyH _ _ _ _ _ 10 #[false, true, false, false, false, false, false, false, false, false, false] _ _
    refine wpAnyH_take (i := 2) rfl (by kernel_rfl) (by kernel_rfl) (by kernel_rfl) (fun _ _ _ h => h) (yieldsIf_load_mid (by rfl) _ _ rfl (w.heap.size + 1) 0 rfl (bA b).toList _ (fun _ h => range_bA b ((h.block _ (lt_of_block H1.out)).trans H1.out)) Try.underlying44 rfl (by rw [zero16']; simp [bA_size, HB.out.1])) hS ?_
    simp only [List.getElem_toArray, List.getElem_cons_succ, List.getElem_cons_zero, Act.put, List.setIfInBounds_toArray, List.set_cons_zero, List.set_cons_succ]
    change wpAnyH _ _ _ _ _ 9 #[false, true, true, false, false, false, false, false, false, false, false] _ _
    refine wpAnyH_take (i := 3) (v := ?_) rfl (by kernel_rfl) (by kernel_rfl) (by kernel_rfl) (fun _ _ _ h => h) (Or.inl ⟨by rfl, ?hy⟩) hS ?_
    case hy => intro w' hSw; go_simp; try with_reducible rfl
    simp only [List.getElem_toArray, List.getElem_cons_succ, List.getElem_cons_zero, Act.put, List.setIfInBounds_toArray, List.set_cons_zero, List.set_cons_succ]
    change wpAnyH _ _ _ _ _ 8 #[false, true, true, true, false, false, false, false, false, false, false] _ _
    refine wpAnyH_ready (rs := [0]) (by kernel_rfl) (by simp) ?_
    refine AllReadyH.cons rfl (fun K hK => ?_) AllReadyH.nil
    rw [if_pos (by rfl)]
    go_simp
    refine (newbox_c WD).mono ?_
    rintro e w1 ⟨rfl, hbx, hlt1, hb1⟩
    refine hK.out _ _ (hS.trans (hb1.mono hS.size)) (fun hS1 => ?_)
    clear hK K
    simp only [List.getElem_toArray, List.getElem_cons_succ, List.getElem_cons_zero, Act.put, List.setIfInBounds_toArray, List.set_cons_zero, List.set_cons_succ]
    change wpAnyH _ _ _ _ _ 7 #[true, true, true, true, false, false, false, false, false, false, false] _ _
    refine wpAnyH_ready (rs := [4]) (by kernel_rfl) (by simp) ?_
    refine AllReadyH.cons rfl (fun K hK => ?_) AllReadyH.nil
    rw [if_pos (by rfl)]
    go_simp
    refine (key05_c a b HA.out.1 HB.out.1 long w1).mono ?_
    rintro e w2 ⟨gk, capk, rfl, hcap, hgk, hgk2, hkk, hb2⟩
    refine hK.out _ _ (hS1.trans (hb2.mono hS1.size)) (fun hS2 => ?_)
    clear hK K
    simp only [List.getElem_toArray, List.getElem_cons_succ, List.getElem_cons_zero, Act.put, List.setIfInBounds_toArray, List.set_cons_zero, List.set_cons_succ]
    change wpAnyH _ _ _ _ _ 6 #[true, true, true, true, true, false, false, false, false, false, false] _ _
    refine wpAnyH_ready (rs := [5]) (by kernel_rfl) (by simp) ?_
    refine AllReadyH.cons rfl (fun K hK => ?_) AllReadyH.nil
    rw [if_pos (by rfl)]
    go_simp
    refine (new_c WD.heap.size gk 0 capk (keyOf a b long) (keyOf_len HA.out.1 HB.out.1 long) (keyOf_lt HA.out.2 HB.out.2 long) hcap w2 (hbx.later hb2 hlt1) hgk2 (fun j hj => by rw [Nat.zero_add]; exact hkk j hj)).mono ?_
    rintro e w3 ⟨c, g, n, cp, rfl, hC, hcc, hgg, hb3⟩
    refine hK.out _ _ (hS2.trans (hb3.mono hS2.size)) (fun hS3 => ?_)
    clear hK K
    simp only [List.getElem_toArray, List.getElem_cons_succ, List.getElem_cons_zero, Act.put, List.setIfInBounds_toArray, List.set_cons_zero, List.set_cons_succ]
    change wpAnyH _ _ _ _ _ 5 #[true, true, true, true, true, true, false, false, false, false, false] _ _
    refine wpAnyH_take (i := 6) (v := ?_) rfl (by kernel_rfl) (by kernel_rfl) (by kernel_rfl) (fun _ _ _ h => h) (Or.inl ⟨by rfl, ?hy⟩) hS3 ?_
    case hy => intro w' hSw; go_simp; try with_reducible rfl
    simp only [List.getElem_toArray, List.getElem_cons_succ, List.getElem_cons_zero, Act.put, List.setIfInBounds_toArray, List.set_cons_zero, List.set_cons_succ]
    change wpAnyH _ _ _ _ _ 4 #[true, true, true, true, true, true, true, false, false, false, false] _ _
    refine wpAnyH_take (i := 7) (v := ?_) rfl (by kernel_rfl) (by kernel_rfl) (by kernel_rfl) (fun _ _ _ h => h) (Or.inl ⟨by rfl, ?hy⟩) hS3 ?_
    case hy => intro w' hSw; go_simp; try with_reducible rfl
    simp only [List.getElem_toArray, List.getElem_cons_succ, List.getElem_cons_zero, Act.put, List.setIfInBounds_toArray, List.set_cons_zero, List.set_cons_succ]
    change wpAnyH _ _ _ _ _ 3 #[true, true, true, true, true, true, true, true, false, false, false] _ _
    refine wpAnyH_take (i := 8) (v := ?_) rfl (by kernel_rfl) (by kernel_rfl) (by kernel_rfl) (fun _ _ _ h => h) (Or.inl ⟨by rfl, ?hy⟩) hS3 ?_
    case hy => intro w' hSw; go_simp; try with_reducible rfl
    simp only [List.getElem_toArray, List.getElem_cons_succ, List.getElem_cons_zero, Act.put, List.setIfInBounds_toArray, List.set_cons_zero, List.set_cons_succ]
    change wpAnyH _ _ _ _ _ 2 #[true, true, true, true, true, true, true, true, true, false, false] _ _
    refine wpAnyH_take (i := 9) (v := ?_) rfl (by kernel_rfl) (by kernel_rfl) (by kernel_rfl) (fun _ _ _ h => h) (Or.inl ⟨by rfl, ?hy⟩) hS3 ?_
    case hy => intro w' hSw; go_simp; try with_reducible rfl
    simp only [List.getElem_toArray, List.getElem_cons_succ, List.getElem_cons_zero, Act.put, List.setIfInBounds_toArray, List.set_cons_zero, List.set_cons_succ]
    change wpAnyH _ _ _ _ _ 1 #[true, true, true, true, true, true, true, true, true, true, false] _ _
    refine wpAnyH_take (i := 10) (v := ?_) rfl (by kernel_rfl) (by kernel_rfl) (by kernel_rfl) (fun _ _ _ h => h) (Or.inl ⟨by rfl, ?hy⟩) hS3 ?_
    case hy => intro w' hSw; go_simp; try with_reducible rfl
    simp only [List.getElem_toArray, List.getElem_cons_succ, List.getElem_cons_zero, Act.put, List.setIfInBounds_toArray, List.set_cons_zero, List.set_cons_succ]
    change wpAnyH _ _ _ _ _ 0 #[true, true, true, true, true, true, true, true, true, true, true] _ _
    refine wpAnyH_done (by kernel_rfl) ?_ _
    go_wp2_with fail
    go_meet
    exact ⟨c, _, g, n, cp, rfl, rfl, hC, hS3⟩
  case rest =>
    obtain ⟨c, b', g, n, cp, rfl, rfl, hC, hb0⟩ := hcut
    have hkl := keyOf_len HA.out.1 HB.out.1 long
    obtain ⟨S, f, hne, h1, h2⟩ := bclass wc
    have HK : Hid (∀ s', Cip (f s') c b' g n cp (roundsK (keyOf a b long)) (wordsK (keyOf a b long))) := fun s' => hC.up (h1 s') (Nat.le_refl _)
    have HKP : Hid (∀ s', (f s').heap[w.heap.size + 1 + 1]? = some (.cells (bA p) 44 (0, 0))) := fun s' => ((hb0.trans ((h1 s').mono hb0.size)).block _ (lt_of_block H2.out)).trans H2.out
    have HKQ : Hid (∀ s', (f s').heap[w.heap.size + 1 + 1 + 1]? = some (.cells (bA q) 44 (0, 0))) := fun s' => ((hb0.trans ((h1 s').mono hb0.size)).block _ (lt_of_block H3.out)).trans H3.out
    have hBP : By p := ⟨HP.out.1, fun j hj => by rw [List.getD_eq_getElem?_getD, List.getElem?_eq_getElem (by rw [HP.out.1]; exact hj)]; exact HP.out.2 _ (List.getElem_mem _)⟩
    have hBQ : By q := ⟨HQ.out.1, fun j hj => by rw [List.getD_eq_getElem?_getD, List.getElem?_eq_getElem (by rw [HQ.out.1]; exact hj)]; exact HQ.out.2 _ (List.getElem_mem _)⟩
    have M1 : Hid (∀ x : S, Calls Try.prog 46 #[.pointer (some ⟨c, 0, none⟩), .agg (bA p)] (f x) fun e w' => e = .returned (.agg (bA (encK (keyOf a b long) p))) ∧ ∃ s', w' = f s') := fun x => bcall h1 h2 (enc_c hkl hBP _ (HK.out x))
    have M2 : Hid (∀ x : S, Calls Try.prog 46 #[.pointer (some ⟨c, 0, none⟩), .agg (bA q)] (f x) fun e w' => e = .returned (.agg (bA (encK (keyOf a b long) q))) ∧ ∃ s', w' = f s') := fun x => bcall h1 h2 (enc_c hkl hBQ _ (HK.out x))
    have M3 : Hid (∀ x : S, Calls Try.prog 49 #[] (f x) fun e w' => e = .returned (.bool true) ∧ ∃ s', w' = f s') := fun x => bcall h1 h2 (awake05_c _)
    have HEP : (encK (keyOf a b long) p).length = 16 := by simp [encK, encL, keyL]
    have HEQ : (encK (keyOf a b long) q).length = 16 := by simp [encK, encL, keyL]
    have hinj : decide (encK (keyOf a b long) p = encK (keyOf a b long) q) = decide (p = q) := by
      have hiff : encK (keyOf a b long) p = encK (keyOf a b long) q ↔ p = q := ⟨fun h => enc_inj _ p q _ hBP hBQ hC.fbyte (by unfold roundsK; omega) (by rw [wordsK_len _ hkl]; exact Nat.le_refl _) h, fun h => by rw [h]⟩
      exact decide_eq_decide.2 hiff
    obtain ⟨i8, hi8⟩ := u8some
    have e1 : ∀ w, (binOp .eql 44 (.agg (bA (encK (keyOf a b long) p))) (.agg (bA (encK (keyOf a b long) q)))).run Try.prog w = .ok (.bool (decide (p = q))) w := fun w => by
      rw [← hinj]; exact eql_bytes Try.prog 16 44 5 i8 Try.underlying44 Try.underlying5 u8plain hi8 u8cells _ _ HEP HEQ w
    have e2 : ∀ w, (binOp .eql 44 (.agg (bA p)) (.agg (bA q))).run Try.prog w = .ok (.bool (decide (p = q))) w := fun w =>
      eql_bytes Try.prog 16 44 5 i8 Try.underlying44 Try.underlying5 u8plain hi8 u8cells _ _ HP.out.1 HQ.out.1 w
    generalize hD : decide (p = q) = D at e1 e2 hinj
    have HF1 := Lib.hid h1
    have HF2 := Lib.hid h2
    have HBW : Hid (Below w.heap.size w wc) := HBL.out.trans (hb0.mono HBL.out.size)
    have HP1 := Lib.hid HP.out.1
    have HQ1 := Lib.hid HQ.out.1
    clear hC hkl hb0 hBP hBQ HEP HEQ hinj hD h1 h2 hi8 HA HB HP HQ H0 H1 H2 H3 HBL
    go_wp2
    refine wp_region_quiet (C := fun w' => ∃ s, w' = f s) (by kernel_rfl) (by kernel_rfl) (HF2.out _ (Below.refl _ _).drew) ?_
    simp only
    repeat first
      | (refine quiet_row rfl 44 (.tmp 8) rfl (w.heap.size + 1 + 1) rfl 44 (bA p) (0, 0) _ (by rintro _ ⟨x, rfl⟩; exact HKP.out x) Try.underlying44 rfl (by rw [zero16', bA_size, HP1.out]) ?_; simp only [Act.put, List.setIfInBounds_toArray, List.set_cons_succ, List.set_cons_zero])
      | (refine quiet_row rfl 44 (.tmp 9) rfl (w.heap.size + 1 + 1 + 1) rfl 44 (bA q) (0, 0) _ (by rintro _ ⟨x, rfl⟩; exact HKQ.out x) Try.underlying44 rfl (by rw [zero16', bA_size, HQ1.out]) ?_; simp only [Act.put, List.setIfInBounds_toArray, List.set_cons_succ, List.set_cons_zero])
      | go_big_quiet_step ((with_reducible first | exact M1.out _ | exact M2.out _ | exact M3.out _))
    refine wpQuiet_nil ?_
    rintro _ ⟨s0, rfl⟩
    go_wp2
    go_ret
    exact ⟨rfl, HBW.out.trans ((HF1.out s0).mono HBW.out.size)⟩
end Go.Proofs.Ytnmjkdmhfogeiaa
