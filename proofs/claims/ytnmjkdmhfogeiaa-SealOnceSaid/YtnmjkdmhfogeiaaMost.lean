/- The walk of the law CtrMost. Printed by gen_most.py. -/
import Derived.Test.YtnmjkdmhfogeiaaStr
import Derived.Test.YtnmjkdmhfogeiaaAesY
set_option linter.unusedVariables false
set_option linter.unusedSimpArgs false
namespace Go.Proofs.Ytnmjkdmhfogeiaa
open Go Go.RowKit GfM
theorem stream_bad (v : Value) (e b : Int) (n : Int) (h : n < 1 ∨ n > 65536) (w : World) : Calls Try.prog 53 #[v, .int .u64 e, .int .u32 b, .int .i64 n] w fun r w' => r = .returned (.slice none 0 0) ∧ w = w' := by
  by_cases h1 : n < 1
  · have d1 : decide (n < 1) = true := by simp; omega
    go_enter Try.func53, Try.ntmps53
    go_wp2
    go_ret
    exact ⟨rfl, rfl⟩
  · have d1 : decide (n < 1) = false := by simp; omega
    have d2 : decide (n > 65536) = true := by simp; omega
    go_enter Try.func53, Try.ntmps53
    go_wp2
    go_ret
    exact ⟨rfl, rfl⟩
/-- how long the stream is -/
def wantN (n : Int) : Nat := if n < 1 ∨ n > 65536 then 0 else n.toNat
theorem stream_len {c bx g n0 cp : Nat} {key : List Nat} (hkl : key.length = 16 ∨ key.length = 32) (n : Int) (w : World) (hC : Cip w c bx g n0 cp (roundsK key) (wordsK key)) :
    Calls Try.prog 53 #[.pointer (some ⟨c, 0, none⟩), .int .u64 1, .int .u32 2, .int .i64 n] w fun r w' => ∃ a cap, r = .returned (.slice a (wantN n) cap) ∧ Below w.heap.size w w' := by
  by_cases h : n < 1 ∨ n > 65536
  · have hw : wantN n = 0 := by unfold wantN; rw [if_pos h]
    rw [hw]
    refine (stream_bad _ 1 2 n h w).mono ?_
    rintro r w' ⟨rfl, rfl⟩
    exact ⟨none, 0, rfl, Below.refl _ _⟩
  · obtain ⟨k, rfl⟩ : ∃ k : Nat, n = k := ⟨n.toNat, by omega⟩
    have hw : wantN (k : Int) = k := by unfold wantN; rw [if_neg h]; omega
    rw [hw]
    refine (stream_c hkl 1 2 k (by omega) (by omega) (by omega) (by omega) w hC).mono ?_
    rintro r w' ⟨q, rfl, _, _, _, hb⟩
    exact ⟨_, _, rfl, hb⟩
theorem and511 (c : Int) : ∃ m : Nat, m < 512 ∧ bits BinOp.and IntKind.i64 c 511 = (m : Int) := by
  have h : (BitVec.ofInt 64 c &&& BitVec.ofInt 64 511).toNat ≤ 511 := by
    rw [BitVec.toNat_and]
    exact Nat.and_le_right
  refine ⟨(BitVec.ofInt 64 c &&& BitVec.ofInt 64 511).toNat, by omega, ?_⟩
  show IntKind.i64.wrap (((BitVec.ofInt 64 c &&& BitVec.ofInt 64 511).toNat : Nat) : Int) = _
  rw [IntKind.wrap_i64]; omega
theorem mk_key (n : Nat) (hn : n ≤ 140737488355328) (w : World) :
    (Instr.makeSlice 71 (.int .i64 (n : Int)) (.int .i64 (n : Int))).run Try.prog w = .ok (.slice (some ⟨w.heap.size, 0, none⟩) n n) (w.alloc (.cells (bA (List.replicate n 0)) 5)) := by
  have h := run_make_row' (P := Try.prog) 71 5 (.int .u8 0) 1 Try.underlying71 u8info rfl .i64 .i64 n (by omega) (by omega) w
  rw [h]
  have e : madeCells #[Value.int .u8 0] n = bA (List.replicate n 0) := by
    apply Array.toList_inj.1
    rw [toList_madeCells_one]; simp [bA]
  rw [e]
theorem wp_mk {o : Oper} {a : Act} {w : World} {K : Act → World → Prop} {Q : Exit → Act → World → Prop} (x y : Operand) (n : Nat) (hn : n ≤ 140737488355328) (ho : o.op = .makeSlice 71 x y)
    (hx : a.eval x = .int .i64 (n : Int)) (hy : a.eval y = .int .i64 (n : Int)) (h : K (a.put o.dst (.slice (some ⟨w.heap.size, 0, none⟩) n n)) (w.alloc (.cells (bA (List.replicate n 0)) 5))) : o.wp Try.prog a w K Q := by
  unfold Oper.wp execOp
  simp only [ho, hx, hy]
  have := mk_key n hn w
  simp only [Sem.run_bind, this, Result.andThen_ok]
  exact h
def zk16 : List Nat := List.replicate 16 0
set_option maxRecDepth 100000 in
set_option maxHeartbeats 4000000 in
theorem walkCtrMost (n : Int) (wn : (Lit.int .i64 n).wf = true) (w : World) :
    Calls Try.prog 17 #[.int .i64 n] w fun e w' => e = .returned (.bool true) ∧ Below w.heap.size w w' := by
  obtain ⟨m, hm, hand⟩ := and511 n
  go_enter Try.func17, Try.ntmps17
  go_wp2
  go_cut [3, 4] from 6 to 11 (fun s3 s4 wx => ∃ c b' g n cp, s3 = .pointer (some ⟨c, 0, none⟩) ∧ s4 = .int .i64 0 ∧ Cip wx c b' g n cp (roundsK zk16) (wordsK zk16) ∧ Below w.heap.size w wx)
  case first =>
    refine wp_region_held_drew (S := fun w' => Below w.heap.size w w') (by kernel_rfl) (Below.refl _ _).drew ?_
    intro hS
    generalize w.drew = WD at hS ⊢
    change wpAnyH _ _ _ _ _ 8 #[false, false, false, false, false, false, false, false] _ _
    refine wpAnyH_ready (rs := [0, 1]) (by kernel_rfl) (by simp) ?_
    refine AllReadyH.cons rfl (fun K hK => ?_) ?_
    · skip
      rw [if_pos (by rfl)]
      go_simp
      refine (newbox_c WD).mono ?_
      rintro e w1 ⟨rfl, hbx, hlt1, hb1⟩
      refine hK.out _ _ (hS.trans (hb1.mono hS.size)) (fun hS1 => ?_)
      clear hK K
      simp only [List.getElem_toArray, List.getElem_cons_succ, List.getElem_cons_zero, Act.put, List.setIfInBounds_toArray, List.set_cons_zero, List.set_cons_succ]
      change wpAnyH _ _ _ _ _ 7 #[true, false, false, false, false, false, false, false] _ _
      refine wpAnyH_ready (rs := [1]) (by kernel_rfl) (by simp) ?_
      refine AllReadyH.cons rfl (fun K hK => ?_) AllReadyH.nil
      rw [if_pos (by rfl)]
      refine wp_mk _ _ 16 (by omega) rfl rfl rfl ?_
      refine hK.out _ _ (hS1.alloc hS1.size _) (fun hS2 => ?_)
      clear hK K
      simp only [List.getElem_toArray, List.getElem_cons_succ, List.getElem_cons_zero, Act.put, List.setIfInBounds_toArray, List.set_cons_zero, List.set_cons_succ]
      change wpAnyH _ _ _ _ _ 6 #[true, true, false, false, false, false, false, false] _ _
      have hz := at_new (And.intro hS2 trivial)
      refine wpAnyH_ready (rs := [2]) (by kernel_rfl) (by simp) ?_
      refine AllReadyH.cons rfl (fun K hK => ?_) AllReadyH.nil
      rw [if_pos (by rfl)]
      go_simp
      refine (new_c _ w1.heap.size 0 16 zk16 (Or.inl rfl) (by decide) (Nat.le_refl _) _ (hbx.later ((Below.refl w1.heap.size w1).alloc (Nat.le_refl _) _) hlt1) (lt_of_block hz) (fun j hj => by rw [Nat.zero_add, cells_at hz j]; exact bA_get zk16 j hj)).mono ?_
      rintro e w3 ⟨c, g, n, cp, rfl, hC, hcc, hgg, hb3⟩
      refine hK.out _ _ (hS2.trans (hb3.mono hS2.size)) (fun hS3 => ?_)
      clear hK K
      simp only [List.getElem_toArray, List.getElem_cons_succ, List.getElem_cons_zero, Act.put, List.setIfInBounds_toArray, List.set_cons_zero, List.set_cons_succ]
      change wpAnyH _ _ _ _ _ 5 #[true, true, true, false, false, false, false, false] _ _
      refine wpAnyH_take (i := 3) (v := ?_) rfl (by kernel_rfl) (by kernel_rfl) (by kernel_rfl) (fun _ _ _ h => h) (Or.inl ⟨by rfl, ?hy⟩) hS3 ?_
      case hy => intro w' hSw; go_simp; try with_reducible rfl
      simp only [List.getElem_toArray, List.getElem_cons_succ, List.getElem_cons_zero, Act.put, List.setIfInBounds_toArray, List.set_cons_zero, List.set_cons_succ]
      change wpAnyH _ _ _ _ _ 4 #[true, true, true, true, false, false, false, false] _ _
      refine wpAnyH_take (i := 4) (v := ?_) rfl (by kernel_rfl) (by kernel_rfl) (by kernel_rfl) (fun _ _ _ h => h) (Or.inl ⟨by rfl, ?hy⟩) hS3 ?_
      case hy => intro w' hSw; go_simp; try with_reducible rfl
      simp only [List.getElem_toArray, List.getElem_cons_succ, List.getElem_cons_zero, Act.put, List.setIfInBounds_toArray, List.set_cons_zero, List.set_cons_succ]
      change wpAnyH _ _ _ _ _ 3 #[true, true, true, true, true, false, false, false] _ _
      refine wpAnyH_take (i := 5) (v := ?_) rfl (by kernel_rfl) (by kernel_rfl) (by kernel_rfl) (fun _ _ _ h => h) (Or.inl ⟨by rfl, ?hy⟩) hS3 ?_
      case hy => intro w' hSw; go_simp; try with_reducible rfl
      simp only [List.getElem_toArray, List.getElem_cons_succ, List.getElem_cons_zero, Act.put, List.setIfInBounds_toArray, List.set_cons_zero, List.set_cons_succ]
      change wpAnyH _ _ _ _ _ 2 #[true, true, true, true, true, true, false, false] _ _
      refine wpAnyH_take (i := 6) (v := ?_) rfl (by kernel_rfl) (by kernel_rfl) (by kernel_rfl) (fun _ _ _ h => h) (Or.inl ⟨by rfl, ?hy⟩) hS3 ?_
      case hy => intro w' hSw; go_simp; try with_reducible rfl
      simp only [List.getElem_toArray, List.getElem_cons_succ, List.getElem_cons_zero, Act.put, List.setIfInBounds_toArray, List.set_cons_zero, List.set_cons_succ]
      change wpAnyH _ _ _ _ _ 1 #[true, true, true, true, true, true, true, false] _ _
      refine wpAnyH_take (i := 7) (v := ?_) rfl (by kernel_rfl) (by kernel_rfl) (by kernel_rfl) (fun _ _ _ h => h) (Or.inl ⟨by rfl, ?hy⟩) hS3 ?_
      case hy => intro w' hSw; go_simp; try with_reducible rfl
      simp only [List.getElem_toArray, List.getElem_cons_succ, List.getElem_cons_zero, Act.put, List.setIfInBounds_toArray, List.set_cons_zero, List.set_cons_succ]
      change wpAnyH _ _ _ _ _ 0 #[true, true, true, true, true, true, true, true] _ _
      refine wpAnyH_done (by kernel_rfl) ?_ _
      go_wp2_with fail
      go_meet
      exact ⟨c, _, g, n, cp, rfl, rfl, hC, hS3⟩
    · skip
      refine AllReadyH.cons rfl (fun K hK => ?_) AllReadyH.nil
      rw [if_pos (by rfl)]
      refine wp_mk _ _ 16 (by omega) rfl rfl rfl ?_
      refine hK.out _ _ (hS.alloc hS.size _) (fun hS1 => ?_)
      clear hK K
      simp only [List.getElem_toArray, List.getElem_cons_succ, List.getElem_cons_zero, Act.put, List.setIfInBounds_toArray, List.set_cons_zero, List.set_cons_succ]
      change wpAnyH _ _ _ _ _ 7 #[false, true, false, false, false, false, false, false] _ _
      have hz := at_new (And.intro hS1 trivial)
      refine wpAnyH_ready (rs := [0]) (by kernel_rfl) (by simp) ?_
      refine AllReadyH.cons rfl (fun K hK => ?_) AllReadyH.nil
      rw [if_pos (by rfl)]
      go_simp
      refine (newbox_c _).mono ?_
      rintro e w1 ⟨rfl, hbx, hlt1, hb1⟩
      rw [World.size_alloc] at hbx
      refine hK.out _ _ (hS1.trans (hb1.mono hS1.size)) (fun hS2 => ?_)
      clear hK K
      simp only [List.getElem_toArray, List.getElem_cons_succ, List.getElem_cons_zero, Act.put, List.setIfInBounds_toArray, List.set_cons_zero, List.set_cons_succ]
      change wpAnyH _ _ _ _ _ 6 #[true, true, false, false, false, false, false, false] _ _
      replace hz := (hb1.block _ (lt_of_block hz)).trans hz
      refine wpAnyH_ready (rs := [2]) (by kernel_rfl) (by simp) ?_
      refine AllReadyH.cons rfl (fun K hK => ?_) AllReadyH.nil
      rw [if_pos (by rfl)]
      go_simp
      refine (new_c _ WD.heap.size 0 16 zk16 (Or.inl rfl) (by decide) (Nat.le_refl _) _ hbx (lt_of_block hz) (fun j hj => by rw [Nat.zero_add, cells_at hz j]; exact bA_get zk16 j hj)).mono ?_
      rintro e w3 ⟨c, g, n, cp, rfl, hC, hcc, hgg, hb3⟩
      refine hK.out _ _ (hS2.trans (hb3.mono hS2.size)) (fun hS3 => ?_)
      clear hK K
      simp only [List.getElem_toArray, List.getElem_cons_succ, List.getElem_cons_zero, Act.put, List.setIfInBounds_toArray, List.set_cons_zero, List.set_cons_succ]
      change wpAnyH _ _ _ _ _ 5 #[true, true, true, false, false, false, false, false] _ _
      refine wpAnyH_take (i := 3) (v := ?_) rfl (by kernel_rfl) (by kernel_rfl) (by kernel_rfl) (fun _ _ _ h => h) (Or.inl ⟨by rfl, ?hy⟩) hS3 ?_
      case hy => intro w' hSw; go_simp; try with_reducible rfl
      simp only [List.getElem_toArray, List.getElem_cons_succ, List.getElem_cons_zero, Act.put, List.setIfInBounds_toArray, List.set_cons_zero, List.set_cons_succ]
      change wpAnyH _ _ _ _ _ 4 #[true, true, true, true, false, false, false, false] _ _
      refine wpAnyH_take (i := 4) (v := ?_) rfl (by kernel_rfl) (by kernel_rfl) (by kernel_rfl) (fun _ _ _ h => h) (Or.inl ⟨by rfl, ?hy⟩) hS3 ?_
      case hy => intro w' hSw; go_simp; try with_reducible rfl
      simp only [List.getElem_toArray, List.getElem_cons_succ, List.getElem_cons_zero, Act.put, List.setIfInBounds_toArray, List.set_cons_zero, List.set_cons_succ]
      change wpAnyH _ _ _ _ _ 3 #[true, true, true, true, true, false, false, false] _ _
      refine wpAnyH_take (i := 5) (v := ?_) rfl (by kernel_rfl) (by kernel_rfl) (by kernel_rfl) (fun _ _ _ h => h) (Or.inl ⟨by rfl, ?hy⟩) hS3 ?_
      case hy => intro w' hSw; go_simp; try with_reducible rfl
      simp only [List.getElem_toArray, List.getElem_cons_succ, List.getElem_cons_zero, Act.put, List.setIfInBounds_toArray, List.set_cons_zero, List.set_cons_succ]
      change wpAnyH _ _ _ _ _ 2 #[true, true, true, true, true, true, false, false] _ _
      refine wpAnyH_take (i := 6) (v := ?_) rfl (by kernel_rfl) (by kernel_rfl) (by kernel_rfl) (fun _ _ _ h => h) (Or.inl ⟨by rfl, ?hy⟩) hS3 ?_
      case hy => intro w' hSw; go_simp; try with_reducible rfl
      simp only [List.getElem_toArray, List.getElem_cons_succ, List.getElem_cons_zero, Act.put, List.setIfInBounds_toArray, List.set_cons_zero, List.set_cons_succ]
      change wpAnyH _ _ _ _ _ 1 #[true, true, true, true, true, true, true, false] _ _
      refine wpAnyH_take (i := 7) (v := ?_) rfl (by kernel_rfl) (by kernel_rfl) (by kernel_rfl) (fun _ _ _ h => h) (Or.inl ⟨by rfl, ?hy⟩) hS3 ?_
      case hy => intro w' hSw; go_simp; try with_reducible rfl
      simp only [List.getElem_toArray, List.getElem_cons_succ, List.getElem_cons_zero, Act.put, List.setIfInBounds_toArray, List.set_cons_zero, List.set_cons_succ]
      change wpAnyH _ _ _ _ _ 0 #[true, true, true, true, true, true, true, true] _ _
      refine wpAnyH_done (by kernel_rfl) ?_ _
      go_wp2_with fail
      go_meet
      exact ⟨c, _, g, n, cp, rfl, rfl, hC, hS3⟩
  case rest =>
    obtain ⟨c, b', g, n0, cp, rfl, rfl, hC, hb0⟩ := hcut
    have HST : Hid (∀ n : Int, ∀ w', Below wc.heap.size wc w' → Calls Try.prog 53 #[.pointer (some ⟨c, 0, none⟩), .int .u64 1, .int .u32 2, .int .i64 n] w' fun r w'' => ∃ a cap, r = .returned (.slice a (wantN n) cap) ∧ Below w'.heap.size w' w'') := fun n w' h => stream_len (Or.inl rfl) n w' (hC.up h (Nat.le_refl _))
    have HB0 := Lib.hid hb0
    clear hC hb0
    by_cases ha : n > 600 ∧ n ≤ 65536
    · have d1 : decide (n > 600) = true := by simp; omega
      have d2 : decide (n ≤ 65536) = true := by simp; omega
      have hwm : wantN (m : Int) = m := by unfold wantN; split <;> omega
      have HWM := Lib.hid hwm
      have d4 : decide ((m : Int) > 65536) = false := by simp; omega
      clear hwm
      by_cases hm0 : m = 0
      · subst hm0
        have d3 : decide (((0 : Nat) : Int) < 1) = true := by simp
        go_wp2_with fail
        refine (HST.out ((0 : Nat) : Int) _ (Below.refl _ _)).mono ?_
        rintro r w1 ⟨qa, qc, rfl, hb1⟩
        rw [HWM.out]
        have HB1 : Hid (Below w.heap.size w w1) := HB0.out.trans (hb1.mono HB0.out.size)
        clear hb1
        go_wp2_with fail
        refine (awake06_c w1).mono ?_
        rintro r w2 ⟨rfl, hb2⟩
        go_wp2
        go_ret
        exact ⟨rfl, HB1.out.trans (hb2.mono HB1.out.size)⟩
      · have d5 : decide ((m : Int) < 1) = false := by simp; omega
        go_wp2_with fail
        refine (HST.out (m : Int) _ (Below.refl _ _)).mono ?_
        rintro r w1 ⟨qa, qc, rfl, hb1⟩
        rw [HWM.out]
        have HB1 : Hid (Below w.heap.size w w1) := HB0.out.trans (hb1.mono HB0.out.size)
        clear hb1
        go_wp2_with fail
        refine (awake06_c w1).mono ?_
        rintro r w2 ⟨rfl, hb2⟩
        go_wp2
        go_ret
        exact ⟨rfl, HB1.out.trans (hb2.mono HB1.out.size)⟩
    · have ha1 : n > 600 → decide (n ≤ 65536) = false := fun h => by simp; omega
      by_cases h1 : n < 1
      · have d1 : decide (n > 600) = false := by simp; omega
        have d5 : decide (n < 1) = true := by simp; omega
        have HW1 : Hid (wantN n = 0) := by show _ = _; unfold wantN; rw [if_pos (.inl h1)]
        go_wp2_with fail
        refine (HST.out n _ (Below.refl _ _)).mono ?_
        rintro r w1 ⟨qa, qc, rfl, hb1⟩
        rw [HW1.out]
        have HB1 : Hid (Below w.heap.size w w1) := HB0.out.trans (hb1.mono HB0.out.size)
        clear hb1
        go_wp2_with fail
        refine (awake06_c w1).mono ?_
        rintro r w2 ⟨rfl, hb2⟩
        go_wp2
        go_ret
        exact ⟨rfl, HB1.out.trans (hb2.mono HB1.out.size)⟩
      · have d5 : decide (n < 1) = false := by simp; omega
        by_cases h2 : n > 65536
        · have d1 : decide (n > 600) = true := by simp; omega
          have d2 : decide (n ≤ 65536) = false := by simp; omega
          have d6 : decide (n > 65536) = true := by simp; omega
          have HW1 : Hid (wantN n = 0) := by show _ = _; unfold wantN; rw [if_pos (.inr h2)]
          clear ha1
          go_wp2_with fail
          refine (HST.out n _ (Below.refl _ _)).mono ?_
          rintro r w1 ⟨qa, qc, rfl, hb1⟩
          rw [HW1.out]
          have HB1 : Hid (Below w.heap.size w w1) := HB0.out.trans (hb1.mono HB0.out.size)
          clear hb1
          go_wp2_with fail
          refine (awake06_c w1).mono ?_
          rintro r w2 ⟨rfl, hb2⟩
          go_wp2
          go_ret
          exact ⟨rfl, HB1.out.trans (hb2.mono HB1.out.size)⟩
        · have d1 : decide (n > 600) = false := by simp; omega
          have d6 : decide (n > 65536) = false := by simp; omega
          have HW1 : Hid (((wantN n : Nat) : Int) = n) := by show _ = _; unfold wantN; rw [if_neg (by omega)]; omega
          have heq : ((n : Int) == n) = true := by simp
          clear ha1
          go_wp2_with fail
          refine (HST.out n _ (Below.refl _ _)).mono ?_
          rintro r w1 ⟨qa, qc, rfl, hb1⟩
          have HWN := HW1.out
          have HB1 : Hid (Below w.heap.size w w1) := HB0.out.trans (hb1.mono HB0.out.size)
          clear hb1
          go_wp2_with fail
          refine (awake06_c w1).mono ?_
          rintro r w2 ⟨rfl, hb2⟩
          go_wp2
          go_ret
          exact ⟨rfl, HB1.out.trans (hb2.mono HB1.out.size)⟩
end Go.Proofs.Ytnmjkdmhfogeiaa
