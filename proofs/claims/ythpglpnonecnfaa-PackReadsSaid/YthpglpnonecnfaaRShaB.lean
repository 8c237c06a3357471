/- The reference's Block. -/
import Derived.Test.YthpglpnonecnfaaRShaA
set_option linter.unusedVariables false
set_option linter.unusedSimpArgs false
namespace Go.Proofs.Ythpglpnonecnfaa
open Go Go.RowKit Sha
theorem w70 : (Try.prog.info? 70).map (·.size) = some 64 := by kernel_rfl
set_option maxRecDepth 100000 in
set_option maxHeartbeats 8000000 in
theorem rblock_c (S0 : St) (hs : St.ok S0) (g o cap : Nat) (hcap : 64 ≤ cap) (b : List Nat) (hl : b.length = 64) (hb : ∀ x ∈ b, x < 256) (w : World) (hg : g < w.heap.size) (hc : ∀ j, j < 64 → w.cell? ⟨g, o + j, none⟩ = some (.int .u8 ((b.getD j 0 : Nat) : Int))) :
    Calls Try.prog 23 #[.agg (wA S0.list), .slice (some ⟨g, o, none⟩) 64 cap] w fun e w' => e = .returned (.agg (wA (blockN S0 b).list)) ∧ Below w.heap.size w w' := by
  obtain ⟨xa, xb, xc, xd, xe, xf, xg, xh⟩ := S0
  have HOK := Lib.hid hs
  have HC := Lib.hid hc
  have HB := Lib.hid hb
  have HG := Lib.hid hg
  have HBL := Lib.hid hl
  clear hs hc hb hg hl hcap
  show Calls Try.prog 23 #[.agg #[.int .u32 (xa : Int), .int .u32 (xb : Int), .int .u32 (xc : Int), .int .u32 (xd : Int), .int .u32 (xe : Int), .int .u32 (xf : Int), .int .u32 (xg : Int), .int .u32 (xh : Int)], .slice (some ⟨g, o, none⟩) 64 cap] w _
  go_enter Try.func23, Try.ntmps23
  go_wp2_with fail
  refine (words_c _).mono ?_
  rintro e w1 ⟨rfl, hw1, hb1⟩
  obtain ⟨W0, hW0⟩ : ∃ W0, W0 = (w.alloc (.cells #[.int .u32 (xa : Int), .int .u32 (xb : Int), .int .u32 (xc : Int), .int .u32 (xd : Int), .int .u32 (xe : Int), .int .u32 (xf : Int), .int .u32 (xg : Int), .int .u32 (xh : Int)] 53)).alloc (.cells #[.int .u32 0, .int .u32 0, .int .u32 0, .int .u32 0, .int .u32 0, .int .u32 0, .int .u32 0, .int .u32 0] 53) := ⟨_, rfl⟩
  rw [← hW0] at hw1 hb1 ⊢
  have HA0 : Hid (W0.heap[w.heap.size]? = some (.cells (wA [xa, xb, xc, xd, xe, xf, xg, xh]) 53 (0, 0))) := by
    show _ = _; rw [hW0, heap_old' _ _ _ (by simp), heap_new']; rfl
  have HR0 : Hid (W0.heap[w.heap.size + 1]? = some (.cells (wA [0, 0, 0, 0, 0, 0, 0, 0]) 53 (0, 0))) := by
    show _ = _; rw [hW0]; exact (by simp : w.heap.size + 1 = (w.alloc _).heap.size) ▸ heap_new' _ _
  have HBW0 : Hid (Below w.heap.size w W0) := by show Below _ _ _; rw [hW0]; exact ((Below.refl _ _).alloc (Nat.le_refl _) _).alloc (by simp) _
  clear hW0
  have HLT0 : Hid (w.heap.size + 1 < W0.heap.size) := lt_of_block HR0.out
  have HA1 := Lib.hid ((hb1.block _ (lt_of_block HA0.out)).trans HA0.out)
  have HR1 := Lib.hid ((hb1.block _ (lt_of_block HR0.out)).trans HR0.out)
  have HK1 := Lib.hid hw1
  have HBW1 : Hid (Below w.heap.size w w1) := HBW0.out.trans (hb1.mono HBW0.out.size)
  have HLT1 : Hid (W0.heap.size < w1.heap.size) := lt_of_block hw1
  clear hw1 hb1 HA0 HR0 HBW0
  generalize W0.heap.size = kb at *
  have HW2 : Hid ((w1.alloc (.cells #[.int .u32 0, .int .u32 0, .int .u32 0, .int .u32 0, .int .u32 0, .int .u32 0, .int .u32 0, .int .u32 0, .int .u32 0, .int .u32 0, .int .u32 0, .int .u32 0, .int .u32 0, .int .u32 0, .int .u32 0, .int .u32 0, .int .u32 0, .int .u32 0, .int .u32 0, .int .u32 0, .int .u32 0, .int .u32 0, .int .u32 0, .int .u32 0, .int .u32 0, .int .u32 0, .int .u32 0, .int .u32 0, .int .u32 0, .int .u32 0, .int .u32 0, .int .u32 0, .int .u32 0, .int .u32 0, .int .u32 0, .int .u32 0, .int .u32 0, .int .u32 0, .int .u32 0, .int .u32 0, .int .u32 0, .int .u32 0, .int .u32 0, .int .u32 0, .int .u32 0, .int .u32 0, .int .u32 0, .int .u32 0, .int .u32 0, .int .u32 0, .int .u32 0, .int .u32 0, .int .u32 0, .int .u32 0, .int .u32 0, .int .u32 0, .int .u32 0, .int .u32 0, .int .u32 0, .int .u32 0, .int .u32 0, .int .u32 0, .int .u32 0, .int .u32 0] 70)).heap[w1.heap.size]? = some (.cells (wA (schedP b 0)) 70 (0, 0))) := heap_new' _ _
  have HB2 : Hid (Below w1.heap.size w1 (w1.alloc (.cells #[.int .u32 0, .int .u32 0, .int .u32 0, .int .u32 0, .int .u32 0, .int .u32 0, .int .u32 0, .int .u32 0, .int .u32 0, .int .u32 0, .int .u32 0, .int .u32 0, .int .u32 0, .int .u32 0, .int .u32 0, .int .u32 0, .int .u32 0, .int .u32 0, .int .u32 0, .int .u32 0, .int .u32 0, .int .u32 0, .int .u32 0, .int .u32 0, .int .u32 0, .int .u32 0, .int .u32 0, .int .u32 0, .int .u32 0, .int .u32 0, .int .u32 0, .int .u32 0, .int .u32 0, .int .u32 0, .int .u32 0, .int .u32 0, .int .u32 0, .int .u32 0, .int .u32 0, .int .u32 0, .int .u32 0, .int .u32 0, .int .u32 0, .int .u32 0, .int .u32 0, .int .u32 0, .int .u32 0, .int .u32 0, .int .u32 0, .int .u32 0, .int .u32 0, .int .u32 0, .int .u32 0, .int .u32 0, .int .u32 0, .int .u32 0, .int .u32 0, .int .u32 0, .int .u32 0, .int .u32 0, .int .u32 0, .int .u32 0, .int .u32 0, .int .u32 0] 70))) := (Below.refl _ _).alloc (Nat.le_refl _) _
  go_wp2_with fail
  generalize w1.alloc (.cells #[.int .u32 0, .int .u32 0, .int .u32 0, .int .u32 0, .int .u32 0, .int .u32 0, .int .u32 0, .int .u32 0, .int .u32 0, .int .u32 0, .int .u32 0, .int .u32 0, .int .u32 0, .int .u32 0, .int .u32 0, .int .u32 0, .int .u32 0, .int .u32 0, .int .u32 0, .int .u32 0, .int .u32 0, .int .u32 0, .int .u32 0, .int .u32 0, .int .u32 0, .int .u32 0, .int .u32 0, .int .u32 0, .int .u32 0, .int .u32 0, .int .u32 0, .int .u32 0, .int .u32 0, .int .u32 0, .int .u32 0, .int .u32 0, .int .u32 0, .int .u32 0, .int .u32 0, .int .u32 0, .int .u32 0, .int .u32 0, .int .u32 0, .int .u32 0, .int .u32 0, .int .u32 0, .int .u32 0, .int .u32 0, .int .u32 0, .int .u32 0, .int .u32 0, .int .u32 0, .int .u32 0, .int .u32 0, .int .u32 0, .int .u32 0, .int .u32 0, .int .u32 0, .int .u32 0, .int .u32 0, .int .u32 0, .int .u32 0, .int .u32 0, .int .u32 0] 70) = w2 at *
  go_loopw [7] (fun vi wr => ∃ t : Nat, t ≤ 64 ∧ vi = .int .i64 (t : Int) ∧ Hid (wr.heap[w1.heap.size]? = some (.cells (wA (schedP b t)) 70 (0, 0))) ∧ Hid (Below w1.heap.size w1 wr)) (fun vi _ => 64 - (intOf vi).toNat)
  case atStart => exact ⟨0, by omega, rfl, HW2.out, HB2.out⟩
  case round =>
    clear HW2 HB2
    obtain ⟨t, ht, rfl, hsc, hbel⟩ := hrel
    by_cases hlt : t < 64
    · have hd : decide ((t : Int) < 64) = true := by simp; omega
      have dl : (t : Int) < 64 := by omega
      have d0 : ¬ (t : Int) < 0 := by omega
      have HT := Lib.hid hlt
      have f0 := free_at hsc.out t
      have c0 := (cells_at hsc.out t).trans (wA_get _ t (by rw [schedP_len _ _ ht]; exact hlt))
      have HGW : Hid (g < w1.heap.size) := Nat.lt_of_lt_of_le HG.out HBW1.out.size
      by_cases h16 : t < 16
      · have d16 : decide ((t : Int) < 16) = true := by simp; omega
        have H16 := Lib.hid h16
        obtain ⟨m0, hm0⟩ : ∃ m, m = 4 * t := ⟨_, rfl⟩
        obtain ⟨m1, hm1⟩ : ∃ m, m = 4 * t + 1 := ⟨_, rfl⟩
        obtain ⟨m2, hm2⟩ : ∃ m, m = 4 * t + 2 := ⟨_, rfl⟩
        obtain ⟨m3, hm3⟩ : ∃ m, m = 4 * t + 3 := ⟨_, rfl⟩
        have em0 : IntKind.i64.wrap (4 * (t : Int)) = (m0 : Int) := by rw [IntWalk.i64_in _ (by omega)]; omega
        have em1 : IntKind.i64.wrap ((m0 : Int) + 1) = (m1 : Int) := by rw [IntWalk.i64_in _ (by omega)]; omega
        have em2 : IntKind.i64.wrap ((m0 : Int) + 2) = (m2 : Int) := by rw [IntWalk.i64_in _ (by omega)]; omega
        have em3 : IntKind.i64.wrap ((m0 : Int) + 3) = (m3 : Int) := by rw [IntWalk.i64_in _ (by omega)]; omega
        obtain ⟨b0, hb0⟩ : ∃ c, c = b.getD m0 0 := ⟨_, rfl⟩
        have cb0 : wr.cell? ⟨g, o + m0, none⟩ = some (.int .u8 (b0 : Int)) := by
          rw [hb0]; exact (hbel.out.cell (p := ⟨g, o + m0, none⟩) HGW.out).trans ((HBW1.out.cell (p := ⟨g, o + m0, none⟩) HG.out).trans (HC.out m0 (by omega)))
        have lb0 : b0 < 256 := by rw [hb0]; exact getD_b HB.out _
        have eb0 : IntKind.u32.wrap (b0 : Int) = (b0 : Int) := by rw [IntKind.wrap_u32]; omega
        have dm0 : (m0 : Int) < 64 := by omega
        have dn0 : ¬ (m0 : Int) < 0 := by omega
        obtain ⟨b1, hb1⟩ : ∃ c, c = b.getD m1 0 := ⟨_, rfl⟩
        have cb1 : wr.cell? ⟨g, o + m1, none⟩ = some (.int .u8 (b1 : Int)) := by
          rw [hb1]; exact (hbel.out.cell (p := ⟨g, o + m1, none⟩) HGW.out).trans ((HBW1.out.cell (p := ⟨g, o + m1, none⟩) HG.out).trans (HC.out m1 (by omega)))
        have lb1 : b1 < 256 := by rw [hb1]; exact getD_b HB.out _
        have eb1 : IntKind.u32.wrap (b1 : Int) = (b1 : Int) := by rw [IntKind.wrap_u32]; omega
        have dm1 : (m1 : Int) < 64 := by omega
        have dn1 : ¬ (m1 : Int) < 0 := by omega
        obtain ⟨b2, hb2⟩ : ∃ c, c = b.getD m2 0 := ⟨_, rfl⟩
        have cb2 : wr.cell? ⟨g, o + m2, none⟩ = some (.int .u8 (b2 : Int)) := by
          rw [hb2]; exact (hbel.out.cell (p := ⟨g, o + m2, none⟩) HGW.out).trans ((HBW1.out.cell (p := ⟨g, o + m2, none⟩) HG.out).trans (HC.out m2 (by omega)))
        have lb2 : b2 < 256 := by rw [hb2]; exact getD_b HB.out _
        have eb2 : IntKind.u32.wrap (b2 : Int) = (b2 : Int) := by rw [IntKind.wrap_u32]; omega
        have dm2 : (m2 : Int) < 64 := by omega
        have dn2 : ¬ (m2 : Int) < 0 := by omega
        obtain ⟨b3, hb3⟩ : ∃ c, c = b.getD m3 0 := ⟨_, rfl⟩
        have cb3 : wr.cell? ⟨g, o + m3, none⟩ = some (.int .u8 (b3 : Int)) := by
          rw [hb3]; exact (hbel.out.cell (p := ⟨g, o + m3, none⟩) HGW.out).trans ((HBW1.out.cell (p := ⟨g, o + m3, none⟩) HG.out).trans (HC.out m3 (by omega)))
        have lb3 : b3 < 256 := by rw [hb3]; exact getD_b HB.out _
        have eb3 : IntKind.u32.wrap (b3 : Int) = (b3 : Int) := by rw [IntKind.wrap_u32]; omega
        have dm3 : (m3 : Int) < 64 := by omega
        have dn3 : ¬ (m3 : Int) < 0 := by omega
        obtain ⟨p0, hp0⟩ : ∃ p, p = b0 * 16777216 := ⟨_, rfl⟩
        have ep0 : IntKind.u32.wrap ((b0 : Int) * 16777216) = (p0 : Int) := by rw [IntKind.wrap_u32]; omega
        obtain ⟨p1, hp1⟩ : ∃ p, p = b1 * 65536 := ⟨_, rfl⟩
        have ep1 : IntKind.u32.wrap ((b1 : Int) * 65536) = (p1 : Int) := by rw [IntKind.wrap_u32]; omega
        obtain ⟨p2, hp2⟩ : ∃ p, p = b2 * 256 := ⟨_, rfl⟩
        have ep2 : IntKind.u32.wrap ((b2 : Int) * 256) = (p2 : Int) := by rw [IntKind.wrap_u32]; omega
        obtain ⟨s1, hs1⟩ : ∃ p, p = p0 + p1 := ⟨_, rfl⟩
        have es1 : IntKind.u32.wrap ((p0 : Int) + (p1 : Int)) = (s1 : Int) := by rw [IntKind.wrap_u32]; omega
        obtain ⟨s2, hs2⟩ : ∃ p, p = s1 + p2 := ⟨_, rfl⟩
        have es2 : IntKind.u32.wrap ((s1 : Int) + (p2 : Int)) = (s2 : Int) := by rw [IntKind.wrap_u32]; omega
        obtain ⟨s3, hs3⟩ : ∃ p, p = s2 + b3 := ⟨_, rfl⟩
        have es3 : IntKind.u32.wrap ((s2 : Int) + (b3 : Int)) = (s3 : Int) := by rw [IntKind.wrap_u32]; omega
        have hxw : s3 = wdAt b t := by
          show s3 = be4 _ _ _ _
          rw [← hm1, ← hm2, ← hm3, ← hm0, ← hb0, ← hb1, ← hb2, ← hb3]
          unfold be4; omega
        have nb := block_at hsc.out t (.int .u32 (s3 : Int))
        rw [wA_set, schedP_set b t s3 HT.out (by rw [schedW_next, if_pos H16.out, hxw])] at nb
        have NB := Lib.hid nb
        clear nb hxw hs1 hs2 hs3 hp0 hp1 hp2 hb0 hb1 hb2 hb3 hm0 hm1 hm2 hm3 h16 ht lb0 lb1 lb2 lb3
        go_wp2
        refine wp_region_still_tail 35 (by kernel_rfl) (by kernel_rfl) ?_
        simp only [List.take_succ_cons, List.take_zero, List.drop_succ_cons, List.drop_zero]
        change wpStill _ _ wr.drew _ _ _
        repeat still_step
        refine wpStill_nil ?_
        change wpList _ _ _ _ _ wr.drew
        go_wp2
        go_roundw
        case rel => exact ⟨t + 1, by have := HT.out; omega, by go_num, NB.out, (hbel.out.setCell (by simp) _).drew⟩
        case measure => simp [intOf]; have := HT.out; omega
      · have d16 : decide ((t : Int) < 16) = false := by simp; omega
        have H16 := Lib.hid h16
        obtain ⟨i2, hi2⟩ : ∃ i, i = t - 2 := ⟨_, rfl⟩
        have e2 : IntKind.i64.wrap ((t : Int) - 2) = (i2 : Int) := by rw [IntWalk.i64_in _ (by omega)]; omega
        have b2 : (i2 : Int) < 64 := by omega
        have n2n : ¬ (i2 : Int) < 0 := by omega
        have c2 := (cells_at hsc.out i2).trans (wA_get _ i2 (by rw [schedP_len _ _ ht]; omega))
        rw [schedP_get b t i2 (by omega)] at c2
        have l2 := getD_w (schedW_lt b HB.out t) i2
        have hx2 : (schedW b t).getD (t - 2) 0 = (schedW b t).getD i2 0 := by rw [hi2]
        obtain ⟨x2, hxx2⟩ : ∃ x, x = (schedW b t).getD i2 0 := ⟨_, rfl⟩
        rw [← hxx2] at c2 l2 hx2
        obtain ⟨i7, hi7⟩ : ∃ i, i = t - 7 := ⟨_, rfl⟩
        have e7 : IntKind.i64.wrap ((t : Int) - 7) = (i7 : Int) := by rw [IntWalk.i64_in _ (by omega)]; omega
        have b7 : (i7 : Int) < 64 := by omega
        have n7n : ¬ (i7 : Int) < 0 := by omega
        have c7 := (cells_at hsc.out i7).trans (wA_get _ i7 (by rw [schedP_len _ _ ht]; omega))
        rw [schedP_get b t i7 (by omega)] at c7
        have l7 := getD_w (schedW_lt b HB.out t) i7
        have hx7 : (schedW b t).getD (t - 7) 0 = (schedW b t).getD i7 0 := by rw [hi7]
        obtain ⟨x7, hxx7⟩ : ∃ x, x = (schedW b t).getD i7 0 := ⟨_, rfl⟩
        rw [← hxx7] at c7 l7 hx7
        obtain ⟨i15, hi15⟩ : ∃ i, i = t - 15 := ⟨_, rfl⟩
        have e15 : IntKind.i64.wrap ((t : Int) - 15) = (i15 : Int) := by rw [IntWalk.i64_in _ (by omega)]; omega
        have b15 : (i15 : Int) < 64 := by omega
        have n15n : ¬ (i15 : Int) < 0 := by omega
        have c15 := (cells_at hsc.out i15).trans (wA_get _ i15 (by rw [schedP_len _ _ ht]; omega))
        rw [schedP_get b t i15 (by omega)] at c15
        have l15 := getD_w (schedW_lt b HB.out t) i15
        have hx15 : (schedW b t).getD (t - 15) 0 = (schedW b t).getD i15 0 := by rw [hi15]
        obtain ⟨x15, hxx15⟩ : ∃ x, x = (schedW b t).getD i15 0 := ⟨_, rfl⟩
        rw [← hxx15] at c15 l15 hx15
        obtain ⟨i16, hi16⟩ : ∃ i, i = t - 16 := ⟨_, rfl⟩
        have e16 : IntKind.i64.wrap ((t : Int) - 16) = (i16 : Int) := by rw [IntWalk.i64_in _ (by omega)]; omega
        have b16 : (i16 : Int) < 64 := by omega
        have n16n : ¬ (i16 : Int) < 0 := by omega
        have c16 := (cells_at hsc.out i16).trans (wA_get _ i16 (by rw [schedP_len _ _ ht]; omega))
        rw [schedP_get b t i16 (by omega)] at c16
        have l16 := getD_w (schedW_lt b HB.out t) i16
        have hx16 : (schedW b t).getD (t - 16) 0 = (schedW b t).getD i16 0 := by rw [hi16]
        obtain ⟨x16, hxx16⟩ : ∃ x, x = (schedW b t).getD i16 0 := ⟨_, rfl⟩
        rw [← hxx16] at c16 l16 hx16
        have HT7 : Hid (∀ w, Calls Try.prog 36 #[.int .u32 (x15 : Int), .int .u64 7] w fun e w' => e = .returned (.int .u32 ((rotr x15 7 : Nat) : Int)) ∧ w' = w) := fun w => (turn_c x15 7 l15 (by omega) (by omega) w).mono fun e w' h => ⟨h.1, h.2.symm⟩
        have HT18 : Hid (∀ w, Calls Try.prog 36 #[.int .u32 (x15 : Int), .int .u64 18] w fun e w' => e = .returned (.int .u32 ((rotr x15 18 : Nat) : Int)) ∧ w' = w) := fun w => (turn_c x15 18 l15 (by omega) (by omega) w).mono fun e w' h => ⟨h.1, h.2.symm⟩
        have HT17 : Hid (∀ w, Calls Try.prog 36 #[.int .u32 (x2 : Int), .int .u64 17] w fun e w' => e = .returned (.int .u32 ((rotr x2 17 : Nat) : Int)) ∧ w' = w) := fun w => (turn_c x2 17 l2 (by omega) (by omega) w).mono fun e w' h => ⟨h.1, h.2.symm⟩
        have HT19 : Hid (∀ w, Calls Try.prog 36 #[.int .u32 (x2 : Int), .int .u64 19] w fun e w' => e = .returned (.int .u32 ((rotr x2 19 : Nat) : Int)) ∧ w' = w) := fun w => (turn_c x2 19 l2 (by omega) (by omega) w).mono fun e w' h => ⟨h.1, h.2.symm⟩
        have hs3 : (x15 : Int) / 8 = ((shr x15 3 : Nat) : Int) := by unfold shr; omega
        have hs10 : (x2 : Int) / 1024 = ((shr x2 10 : Nat) : Int) := by unfold shr; omega
        have n1 : bits BinOp.xor IntKind.u32 ((rotr x15 7 : Nat) : Int) ((rotr x15 18 : Nat) : Int) = ((rotr x15 7 ^^^ rotr x15 18 : Nat) : Int) := u32x rfl rfl (rotr_lt _ _ l15) (rotr_lt _ _ l15)
        have n2 : bits BinOp.xor IntKind.u32 ((rotr x15 7 ^^^ rotr x15 18 : Nat) : Int) ((shr x15 3 : Nat) : Int) = ((sm0 x15 : Nat) : Int) := u32x rfl rfl (xor32 (rotr_lt _ _ l15) (rotr_lt _ _ l15)) (shr_lt _ _ l15)
        have n3 : bits BinOp.xor IntKind.u32 ((rotr x2 17 : Nat) : Int) ((rotr x2 19 : Nat) : Int) = ((rotr x2 17 ^^^ rotr x2 19 : Nat) : Int) := u32x rfl rfl (rotr_lt _ _ l2) (rotr_lt _ _ l2)
        have n4 : bits BinOp.xor IntKind.u32 ((rotr x2 17 ^^^ rotr x2 19 : Nat) : Int) ((shr x2 10 : Nat) : Int) = ((sm1 x2 : Nat) : Int) := u32x rfl rfl (xor32 (rotr_lt _ _ l2) (rotr_lt _ _ l2)) (shr_lt _ _ l2)
        have hnx : schedW b (t + 1) = schedW b t ++ [(sm1 x2 + x7 + sm0 x15 + x16) % 4294967296] := by
          rw [schedW_next, if_neg h16, hx2, hx7, hx15, hx16]
        obtain ⟨s1, hs1⟩ : ∃ s, s = sm1 x2 := ⟨_, rfl⟩
        obtain ⟨s0, hs0⟩ : ∃ s, s = sm0 x15 := ⟨_, rfl⟩
        rw [← hs1] at n4 hnx
        rw [← hs0] at n2 hnx
        obtain ⟨y1, hy1⟩ : ∃ s, s = rotr x15 7 ^^^ rotr x15 18 := ⟨_, rfl⟩
        rw [← hy1] at n1 n2
        obtain ⟨y2, hy2⟩ : ∃ s, s = rotr x2 17 ^^^ rotr x2 19 := ⟨_, rfl⟩
        rw [← hy2] at n3 n4
        obtain ⟨r7, hr7⟩ : ∃ s, s = rotr x15 7 := ⟨_, rfl⟩
        rw [← hr7] at HT7 n1
        obtain ⟨r18, hr18⟩ : ∃ s, s = rotr x15 18 := ⟨_, rfl⟩
        rw [← hr18] at HT18 n1
        obtain ⟨r17, hr17⟩ : ∃ s, s = rotr x2 17 := ⟨_, rfl⟩
        rw [← hr17] at HT17 n3
        obtain ⟨r19, hr19⟩ : ∃ s, s = rotr x2 19 := ⟨_, rfl⟩
        rw [← hr19] at HT19 n3
        obtain ⟨z3, hz3⟩ : ∃ s, s = shr x15 3 := ⟨_, rfl⟩
        rw [← hz3] at hs3 n2
        obtain ⟨z10, hz10⟩ : ∃ s, s = shr x2 10 := ⟨_, rfl⟩
        rw [← hz10] at hs10 n4
        obtain ⟨a1, ha1⟩ : ∃ a, a = (x16 + s0) % 4294967296 := ⟨_, rfl⟩
        have q1 : IntKind.u32.wrap ((x16 : Int) + (s0 : Int)) = (a1 : Int) := by rw [IntKind.wrap_u32]; omega
        obtain ⟨a2, ha2⟩ : ∃ a, a = (a1 + x7) % 4294967296 := ⟨_, rfl⟩
        have q2 : IntKind.u32.wrap ((a1 : Int) + (x7 : Int)) = (a2 : Int) := by rw [IntKind.wrap_u32]; omega
        obtain ⟨a3, ha3⟩ : ∃ a, a = (a2 + s1) % 4294967296 := ⟨_, rfl⟩
        have q3 : IntKind.u32.wrap ((a2 : Int) + (s1 : Int)) = (a3 : Int) := by rw [IntKind.wrap_u32]; omega
        rw [show (s1 + x7 + s0 + x16) % 4294967296 = a3 by omega] at hnx
        have nb := block_at hsc.out t (.int .u32 (a3 : Int))
        rw [wA_set, schedP_set b t a3 HT.out hnx] at nb
        have NB := Lib.hid nb
        clear nb hnx ha1 ha2 ha3 hs1 hs0 h16 ht hi2 hx2 hxx2 hi7 hx7 hxx7 hi15 hx15 hxx15 hi16 hx16 hxx16 hy1 hy2 hr7 hr18 hr17 hr19 hz3 hz10 l2 l7 l15 l16
        go_wp2
        refine wp_region_still_tail 29 (by kernel_rfl) (by kernel_rfl) ?_
        simp only [List.take_succ_cons, List.take_zero, List.drop_succ_cons, List.drop_zero]
        change wpStill _ _ wr.drew _ _ _
        repeat still_step
        still_call (HT7.out _)
        repeat still_step
        still_call (HT18.out _)
        repeat still_step
        still_call (HT17.out _)
        repeat still_step
        still_call (HT19.out _)
        repeat still_step
        refine wpStill_nil ?_
        change wpList _ _ _ _ _ wr.drew
        go_wp2
        go_roundw
        case rel => exact ⟨t + 1, by have := HT.out; omega, by go_num, NB.out, (hbel.out.setCell (by simp) _).drew⟩
        case measure => simp [intOf]; have := HT.out; omega
    · have ht64 : t = 64 := by omega
      have hd : decide ((t : Int) < 64) = false := by simp; omega
      obtain ⟨W, hW⟩ : ∃ W, W = schedW b 64 := ⟨_, rfl⟩
      have HWW := Lib.hid hW
      have HFIN : Hid (wr.heap[w1.heap.size]? = some (.cells (wA W) 70 (0, 0))) := by
        have h := hsc.out
        rw [ht64] at h
        have e : schedP b 64 = schedW b 64 := by simp [schedP]
        rw [e, ← hW] at h
        exact h
      have HWL : Hid (W.length = 64) := by show _ = _; rw [hW, schedW_len]
      have HWB : Hid (∀ x ∈ W, x < 4294967296) := by rw [hW]; exact schedW_lt b HB.out 64
      have HLTR := HLT1.out
      have hlt0 := HLT0.out
      have HAR : Hid (∀ w', Below w1.heap.size w1 w' → w'.heap[w.heap.size]? = some (.cells (wA [xa, xb, xc, xd, xe, xf, xg, xh]) 53 (0, 0)) ∧ w'.heap[w.heap.size + 1]? = some (.cells (wA [0, 0, 0, 0, 0, 0, 0, 0]) 53 (0, 0)) ∧ w'.heap[kb]? = some (.cells (wA KT) 52 (0, 0))) := fun w' h => ⟨(h.block _ (by omega)).trans HA1.out, (h.block _ (by omega)).trans HR1.out, (h.block _ (by omega)).trans HK1.out⟩
      have hA := (HAR.out wr hbel.out).1
      have c0 : wr.cell? ⟨w.heap.size, 0, none⟩ = some (.int .u32 (xa : Int)) := (cells_at hA 0).trans rfl
      have c1 : wr.cell? ⟨w.heap.size, 1, none⟩ = some (.int .u32 (xb : Int)) := (cells_at hA 1).trans rfl
      have c2 : wr.cell? ⟨w.heap.size, 2, none⟩ = some (.int .u32 (xc : Int)) := (cells_at hA 2).trans rfl
      have c3 : wr.cell? ⟨w.heap.size, 3, none⟩ = some (.int .u32 (xd : Int)) := (cells_at hA 3).trans rfl
      have c4 : wr.cell? ⟨w.heap.size, 4, none⟩ = some (.int .u32 (xe : Int)) := (cells_at hA 4).trans rfl
      have c5 : wr.cell? ⟨w.heap.size, 5, none⟩ = some (.int .u32 (xf : Int)) := (cells_at hA 5).trans rfl
      have c6 : wr.cell? ⟨w.heap.size, 6, none⟩ = some (.int .u32 (xg : Int)) := (cells_at hA 6).trans rfl
      have c7 : wr.cell? ⟨w.heap.size, 7, none⟩ = some (.int .u32 (xh : Int)) := (cells_at hA 7).trans rfl
      obtain ⟨S0, hS0⟩ : ∃ S : St, S = ⟨xa, xb, xc, xd, xe, xf, xg, xh⟩ := ⟨_, rfl⟩
      have HBL2 := Lib.hid hbel.out
      clear hA hsc hbel ht hlt HLTR hlt0 ht64 hW
      go_wp2
      go_quiet (fail)
      go_wp2
      rw [← hS0] at HOK
      have HBX : Hid (Below w1.heap.size w1 (wr.drewN nq)) := below_drewN HBL2.out nq
      have HWX : Hid ((wr.drewN nq).heap[w1.heap.size]? = some (.cells (wA W) 70 (0, 0))) := by show _ = _; rw [← HFIN.out]; simp
      generalize wr.drewN nq = wd at *
      clear c0 c1 c2 c3 c4 c5 c6 c7 HFIN HBL2
      have HS0 : Hid (S0 = ⟨xa, xb, xc, xd, xe, xf, xg, xh⟩) := hS0
      go_loopw [10, 11, 12, 13, 14, 15, 16, 17, 18] (fun p0 p1 p2 p3 p4 p5 p6 p7 vi wx => ∃ i : Nat, i ≤ 64 ∧ vi = .int .i64 (i : Int) ∧ ∃ R : St, Hid (R = stepsN S0 W i) ∧ p0 = .int .u32 (R.a : Int) ∧ p1 = .int .u32 (R.b : Int) ∧ p2 = .int .u32 (R.c : Int) ∧ p3 = .int .u32 (R.d : Int) ∧ p4 = .int .u32 (R.e : Int) ∧ p5 = .int .u32 (R.f : Int) ∧ p6 = .int .u32 (R.g : Int) ∧ p7 = .int .u32 (R.h : Int) ∧ Hid (wx.heap[w1.heap.size]? = some (.cells (wA W) 70 (0, 0))) ∧ Hid (Below w1.heap.size w1 wx)) (fun p0 p1 p2 p3 p4 p5 p6 p7 vi _ => 64 - (intOf vi).toNat)
      case atStart => exact ⟨0, by omega, rfl, ⟨xa, xb, xc, xd, xe, xf, xg, xh⟩, HS0.out.symm, rfl, rfl, rfl, rfl, rfl, rfl, rfl, rfl, HWX.out, HBX.out⟩
      case round =>
        clear HBX HWX hS0
        obtain ⟨i, hi, rfl, R, hR, rfl, rfl, rfl, rfl, rfl, rfl, rfl, rfl, hwx, hbx⟩ := hrel
        by_cases hlt : i < 64
        · have hd2 : decide ((i : Int) < 64) = true := by simp; omega
          have dl2 : (i : Int) < 64 := by omega
          have dn2 : ¬ (i : Int) < 0 := by omega
          have HI := Lib.hid hlt
          have HST : Hid (St.ok R) := by rw [hR.out]; exact steps_ok HOK.out W i
          have HNX : Hid (stepsN S0 W (i + 1) = R.step (KT.getD i 0) (W.getD i 0)) := by show _ = _; rw [hR.out]; exact stepsN_next S0 W i
          obtain ⟨ya, yb, yc, yd, ye, yf, yg, yh⟩ := R
          have hst := HST.out
          simp only [St.ok, St.list, List.mem_cons, List.not_mem_nil, or_false, forall_eq_or_imp, forall_eq] at hst
          obtain ⟨lya, lyb, lyc, lyd, lye, lyf, lyg, lyh⟩ := hst
          have ck := (cells_at (HAR.out _ hbx.out).2.2 i).trans (wA_get KT i (by rw [KT_len]; exact hlt))
          have cw := (cells_at hwx.out i).trans (wA_get W i (by rw [HWL.out]; exact hlt))
          have hkl := KT_lt i hlt
          have hwl := getD_w HWB.out i
          obtain ⟨xk, hxk⟩ : ∃ v, v = KT.getD i 0 := ⟨_, rfl⟩
          rw [← hxk] at ck hkl HNX
          obtain ⟨xw, hxw⟩ : ∃ v, v = W.getD i 0 := ⟨_, rfl⟩
          rw [← hxw] at cw hwl HNX
          have HE6 : Hid (∀ w, Calls Try.prog 36 #[.int .u32 (ye : Int), .int .u64 6] w fun e w' => e = .returned (.int .u32 ((rotr ye 6 : Nat) : Int)) ∧ w' = w) := fun w => (turn_c ye 6 lye (by omega) (by omega) w).mono fun e w' h => ⟨h.1, h.2.symm⟩
          have HE11 : Hid (∀ w, Calls Try.prog 36 #[.int .u32 (ye : Int), .int .u64 11] w fun e w' => e = .returned (.int .u32 ((rotr ye 11 : Nat) : Int)) ∧ w' = w) := fun w => (turn_c ye 11 lye (by omega) (by omega) w).mono fun e w' h => ⟨h.1, h.2.symm⟩
          have HE25 : Hid (∀ w, Calls Try.prog 36 #[.int .u32 (ye : Int), .int .u64 25] w fun e w' => e = .returned (.int .u32 ((rotr ye 25 : Nat) : Int)) ∧ w' = w) := fun w => (turn_c ye 25 lye (by omega) (by omega) w).mono fun e w' h => ⟨h.1, h.2.symm⟩
          have HA2 : Hid (∀ w, Calls Try.prog 36 #[.int .u32 (ya : Int), .int .u64 2] w fun e w' => e = .returned (.int .u32 ((rotr ya 2 : Nat) : Int)) ∧ w' = w) := fun w => (turn_c ya 2 lya (by omega) (by omega) w).mono fun e w' h => ⟨h.1, h.2.symm⟩
          have HA13 : Hid (∀ w, Calls Try.prog 36 #[.int .u32 (ya : Int), .int .u64 13] w fun e w' => e = .returned (.int .u32 ((rotr ya 13 : Nat) : Int)) ∧ w' = w) := fun w => (turn_c ya 13 lya (by omega) (by omega) w).mono fun e w' h => ⟨h.1, h.2.symm⟩
          have HA22 : Hid (∀ w, Calls Try.prog 36 #[.int .u32 (ya : Int), .int .u64 22] w fun e w' => e = .returned (.int .u32 ((rotr ya 22 : Nat) : Int)) ∧ w' = w) := fun w => (turn_c ya 22 lya (by omega) (by omega) w).mono fun e w' h => ⟨h.1, h.2.symm⟩
          have b1 : yf ^^^ yg < 4294967296 := xor32 lyf lyg
          have b2 : ye &&& (yf ^^^ yg) < 4294967296 := Nat.and_lt_two_pow (n := 32) _ b1
          have b3 : ya &&& yb < 4294967296 := Nat.and_lt_two_pow (n := 32) _ lyb
          have b4 : ya ||| yb < 4294967296 := Nat.or_lt_two_pow (n := 32) lya lyb
          have b5 : yc &&& (ya ||| yb) < 4294967296 := Nat.and_lt_two_pow (n := 32) _ b4
          have n1 : bits BinOp.xor IntKind.u32 ((rotr ye 6 : Nat) : Int) ((rotr ye 11 : Nat) : Int) = ((rotr ye 6 ^^^ rotr ye 11 : Nat) : Int) := u32x rfl rfl (rotr_lt _ _ lye) (rotr_lt _ _ lye)
          have n2 : bits BinOp.xor IntKind.u32 ((rotr ye 6 ^^^ rotr ye 11 : Nat) : Int) ((rotr ye 25 : Nat) : Int) = ((gr1 ye : Nat) : Int) := u32x rfl rfl (xor32 (rotr_lt _ _ lye) (rotr_lt _ _ lye)) (rotr_lt _ _ lye)
          have n3 : bits BinOp.xor IntKind.u32 (yf : Int) (yg : Int) = ((yf ^^^ yg : Nat) : Int) := u32x rfl rfl lyf lyg
          have n4 : bits BinOp.and IntKind.u32 (ye : Int) ((yf ^^^ yg : Nat) : Int) = ((ye &&& (yf ^^^ yg) : Nat) : Int) := u32n rfl rfl lye b1
          have n5 : bits BinOp.xor IntKind.u32 (yg : Int) ((ye &&& (yf ^^^ yg) : Nat) : Int) = ((ch ye yf yg : Nat) : Int) := by rw [← ch_ref ye yf yg lyg]; exact u32x rfl rfl lyg b2
          have n6 : bits BinOp.xor IntKind.u32 ((rotr ya 2 : Nat) : Int) ((rotr ya 13 : Nat) : Int) = ((rotr ya 2 ^^^ rotr ya 13 : Nat) : Int) := u32x rfl rfl (rotr_lt _ _ lya) (rotr_lt _ _ lya)
          have n7 : bits BinOp.xor IntKind.u32 ((rotr ya 2 ^^^ rotr ya 13 : Nat) : Int) ((rotr ya 22 : Nat) : Int) = ((gr0 ya : Nat) : Int) := u32x rfl rfl (xor32 (rotr_lt _ _ lya) (rotr_lt _ _ lya)) (rotr_lt _ _ lya)
          have n8 : bits BinOp.and IntKind.u32 (ya : Int) (yb : Int) = ((ya &&& yb : Nat) : Int) := u32n rfl rfl lya lyb
          have n9 : bits BinOp.or IntKind.u32 (ya : Int) (yb : Int) = ((ya ||| yb : Nat) : Int) := u32o rfl rfl lya lyb
          have n10 : bits BinOp.and IntKind.u32 (yc : Int) ((ya ||| yb : Nat) : Int) = ((yc &&& (ya ||| yb) : Nat) : Int) := u32n rfl rfl lyc b4
          have n11 : bits BinOp.or IntKind.u32 ((ya &&& yb : Nat) : Int) ((yc &&& (ya ||| yb) : Nat) : Int) = ((maj ya yb yc : Nat) : Int) := by rw [← maj_ref ya yb yc]; exact u32o rfl rfl b3 b5
          simp only [St.step] at HNX
          clear b1 b2 b3 b4 b5
          obtain ⟨v11, hv11⟩ : ∃ v, v = maj ya yb yc := ⟨_, rfl⟩
          rw [← hv11] at n11 HNX
          obtain ⟨v10, hv10⟩ : ∃ v, v = yc &&& (ya ||| yb) := ⟨_, rfl⟩
          rw [← hv10] at n10 n11
          obtain ⟨v9, hv9⟩ : ∃ v, v = ya ||| yb := ⟨_, rfl⟩
          rw [← hv9] at n9 n10
          obtain ⟨v8, hv8⟩ : ∃ v, v = ya &&& yb := ⟨_, rfl⟩
          rw [← hv8] at n8 n11
          obtain ⟨v7, hv7⟩ : ∃ v, v = gr0 ya := ⟨_, rfl⟩
          rw [← hv7] at n7 HNX
          obtain ⟨v6, hv6⟩ : ∃ v, v = rotr ya 2 ^^^ rotr ya 13 := ⟨_, rfl⟩
          rw [← hv6] at n6 n7
          obtain ⟨v5, hv5⟩ : ∃ v, v = ch ye yf yg := ⟨_, rfl⟩
          rw [← hv5] at n5 HNX
          obtain ⟨v4, hv4⟩ : ∃ v, v = ye &&& (yf ^^^ yg) := ⟨_, rfl⟩
          rw [← hv4] at n4 n5
          obtain ⟨v3, hv3⟩ : ∃ v, v = yf ^^^ yg := ⟨_, rfl⟩
          rw [← hv3] at n3 n4
          obtain ⟨v2, hv2⟩ : ∃ v, v = gr1 ye := ⟨_, rfl⟩
          rw [← hv2] at n2 HNX
          obtain ⟨v1, hv1⟩ : ∃ v, v = rotr ye 6 ^^^ rotr ye 11 := ⟨_, rfl⟩
          rw [← hv1] at n1 n2
          obtain ⟨r6, hr6⟩ : ∃ v, v = rotr ye 6 := ⟨_, rfl⟩
          rw [← hr6] at HE6 n1
          obtain ⟨r11, hr11⟩ : ∃ v, v = rotr ye 11 := ⟨_, rfl⟩
          rw [← hr11] at HE11 n1
          obtain ⟨r25, hr25⟩ : ∃ v, v = rotr ye 25 := ⟨_, rfl⟩
          rw [← hr25] at HE25 n2
          obtain ⟨r2, hr2⟩ : ∃ v, v = rotr ya 2 := ⟨_, rfl⟩
          rw [← hr2] at HA2 n6
          obtain ⟨r13, hr13⟩ : ∃ v, v = rotr ya 13 := ⟨_, rfl⟩
          rw [← hr13] at HA13 n6
          obtain ⟨r22, hr22⟩ : ∃ v, v = rotr ya 22 := ⟨_, rfl⟩
          rw [← hr22] at HA22 n7
          obtain ⟨a1, ha1⟩ : ∃ a, a = (yh + v2) % 4294967296 := ⟨_, rfl⟩
          have qa1 : IntKind.u32.wrap ((yh : Int) + (v2 : Int)) = (a1 : Int) := by rw [IntKind.wrap_u32]; omega
          obtain ⟨a2, ha2⟩ : ∃ a, a = (a1 + v5) % 4294967296 := ⟨_, rfl⟩
          have qa2 : IntKind.u32.wrap ((a1 : Int) + (v5 : Int)) = (a2 : Int) := by rw [IntKind.wrap_u32]; omega
          obtain ⟨a3, ha3⟩ : ∃ a, a = (a2 + xk) % 4294967296 := ⟨_, rfl⟩
          have qa3 : IntKind.u32.wrap ((a2 : Int) + (xk : Int)) = (a3 : Int) := by rw [IntKind.wrap_u32]; omega
          obtain ⟨t1, ht1⟩ : ∃ a, a = (a3 + xw) % 4294967296 := ⟨_, rfl⟩
          have qt1 : IntKind.u32.wrap ((a3 : Int) + (xw : Int)) = (t1 : Int) := by rw [IntKind.wrap_u32]; omega
          obtain ⟨t2, ht2⟩ : ∃ a, a = (v7 + v11) % 4294967296 := ⟨_, rfl⟩
          have qt2 : IntKind.u32.wrap ((v7 : Int) + (v11 : Int)) = (t2 : Int) := by rw [IntKind.wrap_u32]; omega
          obtain ⟨a5, ha5⟩ : ∃ a, a = (t1 + t2) % 4294967296 := ⟨_, rfl⟩
          have qa5 : IntKind.u32.wrap ((t1 : Int) + (t2 : Int)) = (a5 : Int) := by rw [IntKind.wrap_u32]; omega
          obtain ⟨a6, ha6⟩ : ∃ a, a = (yd + t1) % 4294967296 := ⟨_, rfl⟩
          have qa6 : IntKind.u32.wrap ((yd : Int) + (t1 : Int)) = (a6 : Int) := by rw [IntKind.wrap_u32]; omega
          have hnx := HNX.out
          rw [show (yh + v2 + v5 + xk + xw) % 4294967296 = t1 by omega, ← ht2, ← ha5, ← ha6] at hnx
          have HN := Lib.hid hnx
          clear hnx HNX hxk hxw ha1 ha2 ha3 ht1 ht2 ha5 ha6 hv1 hv2 hv3 hv4 hv5 hv6 hv7 hv8 hv9 hv10 hv11 hr6 hr11 hr25 hr2 hr13 hr22 lya lyb lyc lyd lye lyf lyg lyh hkl hwl HST hi hR hlt
          go_wp2_with fail
          refine wp_region_still_tail 27 (by kernel_rfl) (by kernel_rfl) ?_
          simp only [List.take_succ_cons, List.take_zero, List.drop_succ_cons, List.drop_zero]
          change wpStill _ _ wr.drew _ _ _
          repeat still_step
          still_call (HE6.out _)
          repeat still_step
          still_call (HE11.out _)
          repeat still_step
          still_call (HE25.out _)
          repeat still_step
          refine wpStill_nil ?_
          change wpList _ _ _ _ _ wr.drew
          go_wp2_with fail
          refine (HA2.out _).mono ?_
          rintro r1 w1' ⟨rfl, rfl⟩
          go_wp2_with fail
          refine (HA13.out _).mono ?_
          rintro r1 w1' ⟨rfl, rfl⟩
          go_wp2_with fail
          refine (HA22.out _).mono ?_
          rintro r1 w1' ⟨rfl, rfl⟩
          go_wp2
          go_roundw
          case rel => exact ⟨i + 1, by have := HI.out; omega, by go_num, ⟨a5, ya, yb, yc, a6, ye, yf, yg⟩, HN.out.symm, rfl, rfl, rfl, rfl, rfl, rfl, rfl, rfl, hwx.out, hbx.out.drew⟩
          case measure => simp [intOf]; have := HI.out; omega
        · have hi64 : i = 64 := by omega
          have hd2 : decide ((i : Int) < 64) = false := by simp; omega
          have HRF : Hid (blockN S0 b = S0.add R) := by
            show _ = _
            rw [hR.out, hi64, HWW.out]; rfl
          have HX := HAR.out _ hbx.out
          have hA := HX.1
          have HRR := Lib.hid HX.2.1
          have HBE : Hid (Below w.heap.size w wr) := HBW1.out.trans (hbx.out.mono HBW1.out.size)
          obtain ⟨ya, yb, yc, yd, ye, yf, yg, yh⟩ := R
          have c0 : wr.cell? ⟨w.heap.size, 0, none⟩ = some (.int .u32 (xa : Int)) := (cells_at hA 0).trans rfl
          obtain ⟨za, hza⟩ : ∃ z, z = (xa + ya) % 4294967296 := ⟨_, rfl⟩
          have qa : IntKind.u32.wrap ((xa : Int) + (ya : Int)) = (za : Int) := by rw [IntKind.wrap_u32]; omega
          have c1 : wr.cell? ⟨w.heap.size, 1, none⟩ = some (.int .u32 (xb : Int)) := (cells_at hA 1).trans rfl
          obtain ⟨zb, hzb⟩ : ∃ z, z = (xb + yb) % 4294967296 := ⟨_, rfl⟩
          have qb : IntKind.u32.wrap ((xb : Int) + (yb : Int)) = (zb : Int) := by rw [IntKind.wrap_u32]; omega
          have c2 : wr.cell? ⟨w.heap.size, 2, none⟩ = some (.int .u32 (xc : Int)) := (cells_at hA 2).trans rfl
          obtain ⟨zc, hzc⟩ : ∃ z, z = (xc + yc) % 4294967296 := ⟨_, rfl⟩
          have qc : IntKind.u32.wrap ((xc : Int) + (yc : Int)) = (zc : Int) := by rw [IntKind.wrap_u32]; omega
          have c3 : wr.cell? ⟨w.heap.size, 3, none⟩ = some (.int .u32 (xd : Int)) := (cells_at hA 3).trans rfl
          obtain ⟨zd, hzd⟩ : ∃ z, z = (xd + yd) % 4294967296 := ⟨_, rfl⟩
          have qd : IntKind.u32.wrap ((xd : Int) + (yd : Int)) = (zd : Int) := by rw [IntKind.wrap_u32]; omega
          have c4 : wr.cell? ⟨w.heap.size, 4, none⟩ = some (.int .u32 (xe : Int)) := (cells_at hA 4).trans rfl
          obtain ⟨ze, hze⟩ : ∃ z, z = (xe + ye) % 4294967296 := ⟨_, rfl⟩
          have qe : IntKind.u32.wrap ((xe : Int) + (ye : Int)) = (ze : Int) := by rw [IntKind.wrap_u32]; omega
          have c5 : wr.cell? ⟨w.heap.size, 5, none⟩ = some (.int .u32 (xf : Int)) := (cells_at hA 5).trans rfl
          obtain ⟨zf, hzf⟩ : ∃ z, z = (xf + yf) % 4294967296 := ⟨_, rfl⟩
          have qf : IntKind.u32.wrap ((xf : Int) + (yf : Int)) = (zf : Int) := by rw [IntKind.wrap_u32]; omega
          have c6 : wr.cell? ⟨w.heap.size, 6, none⟩ = some (.int .u32 (xg : Int)) := (cells_at hA 6).trans rfl
          obtain ⟨zg, hzg⟩ : ∃ z, z = (xg + yg) % 4294967296 := ⟨_, rfl⟩
          have qg : IntKind.u32.wrap ((xg : Int) + (yg : Int)) = (zg : Int) := by rw [IntKind.wrap_u32]; omega
          have c7 : wr.cell? ⟨w.heap.size, 7, none⟩ = some (.int .u32 (xh : Int)) := (cells_at hA 7).trans rfl
          obtain ⟨zh, hzh⟩ : ∃ z, z = (xh + yh) % 4294967296 := ⟨_, rfl⟩
          have qh : IntKind.u32.wrap ((xh : Int) + (yh : Int)) = (zh : Int) := by rw [IntKind.wrap_u32]; omega
          have HFV : Hid (wA (blockN S0 b).list = #[.int .u32 (za : Int), .int .u32 (zb : Int), .int .u32 (zc : Int), .int .u32 (zd : Int), .int .u32 (ze : Int), .int .u32 (zf : Int), .int .u32 (zg : Int), .int .u32 (zh : Int)]) := by
            show _ = _
            rw [HRF.out, HS0.out]
            unfold St.add St.list wA
            simp only [← hza, ← hzb, ← hzc, ← hzd, ← hze, ← hzf, ← hzg, ← hzh]
            rfl
          clear hza hzb hzc hzd hze hzf hzg hzh HRF hA HX hi64 hi hR hlt hwx hbx
          go_wp2_with (first
            | (refine wpList_store_row rfl 53 (.tmp 4) (.tmp 209) rfl (w.heap.size + 1) #[.int .u32 (za : Int), .int .u32 (zb : Int), .int .u32 (zc : Int), .int .u32 (zd : Int), .int .u32 (ze : Int), .int .u32 (zf : Int), .int .u32 (zg : Int), .int .u32 (zh : Int)] rfl rfl 53 _ HRR.out (by rw [eight53]; rfl) (by rfl) (by simp [Value.oneCell']) ?_)
            | fail)
          exact bodyPost_ret (results_cell_row rfl _ _ (w.heap.size + 1) 53 #[.int .u32 (za : Int), .int .u32 (zb : Int), .int .u32 (zc : Int), .int .u32 (zd : Int), .int .u32 (ze : Int), .int .u32 (zf : Int), .int .u32 (zg : Int), .int .u32 (zh : Int)] (0, 0) _ rfl (setRow_heap _ _ _ _ _ _ HRR.out) Try.underlying53 rfl (by rw [eight53]; rfl)) rfl ⟨by rw [← HS0.out, HFV.out], below_setRow HBE.out (Nat.le_succ _) _⟩
end Go.Proofs.Ythpglpnonecnfaa
