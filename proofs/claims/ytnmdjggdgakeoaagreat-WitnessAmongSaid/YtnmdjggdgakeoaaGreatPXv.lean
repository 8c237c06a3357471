/- Lemmas for the proof. -/
import Derived.Test.YtnmdjggdgakeoaaGreatPXe
import Derived.Test.YtnmdjggdgakeoaaGreatPXg
set_option maxRecDepth 100000
set_option maxHeartbeats 16000000
set_option linter.unusedVariables false
set_option linter.unusedSimpArgs false
set_option linter.unusedSectionVars false
namespace Go.Proofs.YtnmdjggdgakeoaaGreat
open Go Go.RowKit Sha
theorem turn_c (x k : Nat) (hx : x < 4294967296) (h1 : 1 <= k) (h2 : k <= 31) (w : World) :
  Calls Tryz.prog 42 #[.int .u32 (x : Int), .int .u64 (k : Int)] w fun e w' => e = .returned (.int .u32 ((rotr x k : Nat) : Int)) /\ w = w' := by
 obtain ⟨q, hq⟩ : ∃ q, q = 32 - k := ⟨_, rfl⟩
 have e1 : IntKind.u64.wrap (32 - (k : Int)) = (q : Int) := by rw [IntKind.wrap_u64]; omega
 have HX := Lib.hid hx;have HK := Lib.hid h1;have HK2 := Lib.hid h2;have HQ := Lib.hid hq;have hk2 : ¬ 32 <= k := by omega
 have hq2 : ¬ 32 <= q := by omega
 clear hx h1 h2 hq
 go_enter Tryz.func42, Tryz.ntmps42
 go_wp2
 go_ret
 refine ⟨ret_i ((u32o (a := shr x k) (b := shl x (32 - k)) ?_ ?_ (shr_lt _ _ HX.out) (shl_lt _ _)).trans (by rw [Nat.or_comm]; rfl)), rfl⟩
 ·simp [shr]
 ·rw [<- HQ.out]; simp [shl]
theorem words_c (w : World) : Calls Tryz.prog 41 #[] w fun e w' => e = .returned (.slice (some ⟨w.heap.size, 0, none⟩) 64 64) /\ w'.heap[w.heap.size]? = some (.cells (wA KT) 60 (0, 0)) /\ Below w.heap.size w w' := by
 have H0 : Hid ((w.alloc (.cells (wA KT) 60)).heap[w.heap.size]? = some (.cells (wA KT) 60 (0, 0))) := heap_new' _ _
 have HB : Hid (Below w.heap.size w (w.alloc (.cells (wA KT) 60))) := (Below.refl _ _).alloc (Nat.le_refl _) _
 go_enter Tryz.func41, Tryz.ntmps41
 go_wp2
 go_ret
 exact ⟨rfl, H0.out, HB.out⟩
theorem firsts_c (w : World) : Calls Tryz.prog 29 #[] w fun e w' => e = .returned (.agg (wA HL)) /\ Below w.heap.size w w' := by
 have hz := heap_new' w (.cells #[.int .u32 0, .int .u32 0, .int .u32 0, .int .u32 0, .int .u32 0, .int .u32 0, .int .u32 0, .int .u32 0] 62)
 have HZ := Lib.hid hz;have HB : Hid (Below w.heap.size w (w.alloc (.cells #[.int .u32 0, .int .u32 0, .int .u32 0, .int .u32 0, .int .u32 0, .int .u32 0, .int .u32 0, .int .u32 0] 62))) := (Below.refl _ _).alloc (Nat.le_refl _) _
 clear hz
 go_enter Tryz.func29, Tryz.ntmps29
 go_wp2_with (first
  | (refine wpList_store_row rfl 62 (.tmp 0) (.tmp 1) rfl w.heap.size (wA HL) rfl rfl 62 _ HZ.out (by rw [eight53]; rfl) (by rfl) (wA_one _) ?_)
  | fail)
 exact bodyPost_ret (results_cell_row rfl _ _ w.heap.size 62 (wA HL) (0, 0) _ rfl (setRow_heap _ _ _ _ _ _ HZ.out) Tryz.underlying62 rfl (by rw [eight53]; rfl)) rfl ⟨rfl, below_setRow HB.out (Nat.le_refl _) _⟩
theorem rblock_c (S0 : St) (hs : St.ok S0) (g o cap : Nat) (hcap : 64 <= cap) (b : List Nat) (hl : b.length = 64) (hb : ∀ x ∈ b, x < 256) (w : World) (hg : g < w.heap.size) (hc : ∀ j, j < 64 -> w.cell? ⟨g, o + j, none⟩ = some (.int .u8 ((b.getD j 0 : Nat) : Int))) :
  Calls Tryz.prog 30 #[.agg (wA S0.list), .slice (some ⟨g, o, none⟩) 64 cap] w fun e w' => e = .returned (.agg (wA (blockN S0 b).list)) /\ Below w.heap.size w w' := by
 obtain ⟨xa, xb, xc, xd, xe, xf, xg, xh⟩ := S0
 have HOK := Lib.hid hs;have HC := Lib.hid hc;have HB := Lib.hid hb;have HG := Lib.hid hg;have HBL := Lib.hid hl;clear hs hc hb hg hl hcap
 show Calls Tryz.prog 30 #[.agg #[.int .u32 (xa : Int), .int .u32 (xb : Int), .int .u32 (xc : Int), .int .u32 (xd : Int), .int .u32 (xe : Int), .int .u32 (xf : Int), .int .u32 (xg : Int), .int .u32 (xh : Int)], .slice (some ⟨g, o, none⟩) 64 cap] w _
 go_enter Tryz.func30, Tryz.ntmps30
 go_wp2_with fail
 refine (words_c _).mono ?_
 rintro e w1 ⟨rfl, hw1, hb1⟩
 obtain ⟨W0, hW0⟩ : ∃ W0, W0 = (w.alloc (.cells #[.int .u32 (xa : Int), .int .u32 (xb : Int), .int .u32 (xc : Int), .int .u32 (xd : Int), .int .u32 (xe : Int), .int .u32 (xf : Int), .int .u32 (xg : Int), .int .u32 (xh : Int)] 62)).alloc (.cells #[.int .u32 0, .int .u32 0, .int .u32 0, .int .u32 0, .int .u32 0, .int .u32 0, .int .u32 0, .int .u32 0] 62) := ⟨_, rfl⟩
 rw [<- hW0] at hw1 hb1 ⊢
 have HA0 : Hid (W0.heap[w.heap.size]? = some (.cells (wA [xa, xb, xc, xd, xe, xf, xg, xh]) 62 (0, 0))) := by
  show _ = _; rw [hW0, heap_old' _ _ _ (by simp), heap_new']; rfl
 have HR0 : Hid (W0.heap[w.heap.size + 1]? = some (.cells (wA [0, 0, 0, 0, 0, 0, 0, 0]) 62 (0, 0))) := by
  show _ = _; rw [hW0]; exact (by simp : w.heap.size + 1 = (w.alloc _).heap.size) ▸ heap_new' _ _
 have HBW0 : Hid (Below w.heap.size w W0) := by show Below _ _ _; rw [hW0]; exact ((Below.refl _ _).alloc (Nat.le_refl _) _).alloc (by simp) _
 clear hW0;have HLT0 : Hid (w.heap.size + 1 < W0.heap.size) := lt_of_block HR0.out
 have HA1 := Lib.hid ((hb1.block _ (lt_of_block HA0.out)).trans HA0.out)
 have HR1 := Lib.hid ((hb1.block _ (lt_of_block HR0.out)).trans HR0.out)
 have HK1 := Lib.hid hw1;have HBW1 : Hid (Below w.heap.size w w1) := HBW0.out.trans (hb1.mono HBW0.out.size)
 have HLT1 : Hid (W0.heap.size < w1.heap.size) := lt_of_block hw1
 clear hw1 hb1 HA0 HR0 HBW0;generalize W0.heap.size = kb at *
 have HW2 : Hid ((w1.alloc (.cells #[.int .u32 0, .int .u32 0, .int .u32 0, .int .u32 0, .int .u32 0, .int .u32 0, .int .u32 0, .int .u32 0, .int .u32 0, .int .u32 0, .int .u32 0, .int .u32 0, .int .u32 0, .int .u32 0, .int .u32 0, .int .u32 0, .int .u32 0, .int .u32 0, .int .u32 0, .int .u32 0, .int .u32 0, .int .u32 0, .int .u32 0, .int .u32 0, .int .u32 0, .int .u32 0, .int .u32 0, .int .u32 0, .int .u32 0, .int .u32 0, .int .u32 0, .int .u32 0, .int .u32 0, .int .u32 0, .int .u32 0, .int .u32 0, .int .u32 0, .int .u32 0, .int .u32 0, .int .u32 0, .int .u32 0, .int .u32 0, .int .u32 0, .int .u32 0, .int .u32 0, .int .u32 0, .int .u32 0, .int .u32 0, .int .u32 0, .int .u32 0, .int .u32 0, .int .u32 0, .int .u32 0, .int .u32 0, .int .u32 0, .int .u32 0, .int .u32 0, .int .u32 0, .int .u32 0, .int .u32 0, .int .u32 0, .int .u32 0, .int .u32 0, .int .u32 0] 61)).heap[w1.heap.size]? = some (.cells (wA (schedP b 0)) 61 (0, 0))) := heap_new' _ _
 have HB2 : Hid (Below w1.heap.size w1 (w1.alloc (.cells #[.int .u32 0, .int .u32 0, .int .u32 0, .int .u32 0, .int .u32 0, .int .u32 0, .int .u32 0, .int .u32 0, .int .u32 0, .int .u32 0, .int .u32 0, .int .u32 0, .int .u32 0, .int .u32 0, .int .u32 0, .int .u32 0, .int .u32 0, .int .u32 0, .int .u32 0, .int .u32 0, .int .u32 0, .int .u32 0, .int .u32 0, .int .u32 0, .int .u32 0, .int .u32 0, .int .u32 0, .int .u32 0, .int .u32 0, .int .u32 0, .int .u32 0, .int .u32 0, .int .u32 0, .int .u32 0, .int .u32 0, .int .u32 0, .int .u32 0, .int .u32 0, .int .u32 0, .int .u32 0, .int .u32 0, .int .u32 0, .int .u32 0, .int .u32 0, .int .u32 0, .int .u32 0, .int .u32 0, .int .u32 0, .int .u32 0, .int .u32 0, .int .u32 0, .int .u32 0, .int .u32 0, .int .u32 0, .int .u32 0, .int .u32 0, .int .u32 0, .int .u32 0, .int .u32 0, .int .u32 0, .int .u32 0, .int .u32 0, .int .u32 0, .int .u32 0] 61))) := (Below.refl _ _).alloc (Nat.le_refl _) _
 go_wp2_with fail
 generalize w1.alloc (.cells #[.int .u32 0, .int .u32 0, .int .u32 0, .int .u32 0, .int .u32 0, .int .u32 0, .int .u32 0, .int .u32 0, .int .u32 0, .int .u32 0, .int .u32 0, .int .u32 0, .int .u32 0, .int .u32 0, .int .u32 0, .int .u32 0, .int .u32 0, .int .u32 0, .int .u32 0, .int .u32 0, .int .u32 0, .int .u32 0, .int .u32 0, .int .u32 0, .int .u32 0, .int .u32 0, .int .u32 0, .int .u32 0, .int .u32 0, .int .u32 0, .int .u32 0, .int .u32 0, .int .u32 0, .int .u32 0, .int .u32 0, .int .u32 0, .int .u32 0, .int .u32 0, .int .u32 0, .int .u32 0, .int .u32 0, .int .u32 0, .int .u32 0, .int .u32 0, .int .u32 0, .int .u32 0, .int .u32 0, .int .u32 0, .int .u32 0, .int .u32 0, .int .u32 0, .int .u32 0, .int .u32 0, .int .u32 0, .int .u32 0, .int .u32 0, .int .u32 0, .int .u32 0, .int .u32 0, .int .u32 0, .int .u32 0, .int .u32 0, .int .u32 0, .int .u32 0] 61) = w2 at *
 go_loopw [7] (fun vi wr => ∃ t : Nat, t <= 64 /\ vi = .int .i64 (t : Int) /\ Hid (wr.heap[w1.heap.size]? = some (.cells (wA (schedP b t)) 61 (0, 0))) /\ Hid (Below w1.heap.size w1 wr)) (fun vi _ => 64 - (intOf vi).toNat)
 case atStart => exact ⟨0, by omega, rfl, HW2.out, HB2.out⟩
 case round =>
  clear HW2 HB2;obtain ⟨t, ht, rfl, hsc, hbel⟩ := hrel
  by_cases hlt : t < 64
  ·have hd : decide ((t : Int) < 64) = true := by simp; omega
   have dl : (t : Int) < 64 := by omega
   have d0 : ¬ (t : Int) < 0 := by omega
   have HT := Lib.hid hlt;have f0 := free_at hsc.out t
   have c0 := (cells_at hsc.out t).trans (wA_get _ t (by rw [schedP_len _ _ ht]; exact hlt))
   have HGW : Hid (g < w1.heap.size) := Nat.lt_of_lt_of_le HG.out HBW1.out.size
   by_cases h16 : t < 16
   ·have d16 : decide ((t : Int) < 16) = true := by simp; omega
    have H16 := Lib.hid h16;obtain ⟨m0, hm0⟩ : ∃ m, m = 4 * t := ⟨_, rfl⟩
    obtain ⟨m1, hm1⟩ : ∃ m, m = 4 * t + 1 := ⟨_, rfl⟩
    obtain ⟨m2, hm2⟩ : ∃ m, m = 4 * t + 2 := ⟨_, rfl⟩
    obtain ⟨m3, hm3⟩ : ∃ m, m = 4 * t + 3 := ⟨_, rfl⟩
    have em0 : IntKind.i64.wrap (4 * (t : Int)) = (m0 : Int) := by rw [IntWalk.i64_in _ (by omega)]; omega
    have em1 : IntKind.i64.wrap ((m0 : Int) + 1) = (m1 : Int) := by rw [IntWalk.i64_in _ (by omega)]; omega
    have em2 : IntKind.i64.wrap ((m0 : Int) + 2) = (m2 : Int) := by rw [IntWalk.i64_in _ (by omega)]; omega
    have em3 : IntKind.i64.wrap ((m0 : Int) + 3) = (m3 : Int) := by rw [IntWalk.i64_in _ (by omega)]; omega
    obtain ⟨b0, hb0⟩ : ∃ c, c = b.getD m0 0 := ⟨_, rfl⟩
    have cb0 : wr.cell? ⟨g, o + m0, none⟩ = some (.int .u8 (b0 : Int)) := by
     rw [hb0]; exact (hbel.out.cell (p := ⟨g, o + m0, none⟩) HGW.out).trans ((HBW1.out.cell (p := ⟨g, o + m0, none⟩) HG.out).trans (HC.out m0 (by omega)))
    have lb0 : b0 < 256 := by rw [hb0]; exact getD_b HB.out _
    have eb0 : IntKind.u32.wrap (b0 : Int) = (b0 : Int) := by rw [IntKind.wrap_u32]; omega
    have dm0 : (m0 : Int) < 64 := by omega
    have dn0 : ¬ (m0 : Int) < 0 := by omega
    obtain ⟨b1, hb1⟩ : ∃ c, c = b.getD m1 0 := ⟨_, rfl⟩
    have cb1 : wr.cell? ⟨g, o + m1, none⟩ = some (.int .u8 (b1 : Int)) := by
     rw [hb1]; exact (hbel.out.cell (p := ⟨g, o + m1, none⟩) HGW.out).trans ((HBW1.out.cell (p := ⟨g, o + m1, none⟩) HG.out).trans (HC.out m1 (by omega)))
    have lb1 : b1 < 256 := by rw [hb1]; exact getD_b HB.out _
    have eb1 : IntKind.u32.wrap (b1 : Int) = (b1 : Int) := by rw [IntKind.wrap_u32]; omega
    have dm1 : (m1 : Int) < 64 := by omega
    have dn1 : ¬ (m1 : Int) < 0 := by omega
    obtain ⟨b2, hb2⟩ : ∃ c, c = b.getD m2 0 := ⟨_, rfl⟩
    have cb2 : wr.cell? ⟨g, o + m2, none⟩ = some (.int .u8 (b2 : Int)) := by
     rw [hb2]; exact (hbel.out.cell (p := ⟨g, o + m2, none⟩) HGW.out).trans ((HBW1.out.cell (p := ⟨g, o + m2, none⟩) HG.out).trans (HC.out m2 (by omega)))
    have lb2 : b2 < 256 := by rw [hb2]; exact getD_b HB.out _
    have eb2 : IntKind.u32.wrap (b2 : Int) = (b2 : Int) := by rw [IntKind.wrap_u32]; omega
    have dm2 : (m2 : Int) < 64 := by omega
    have dn2 : ¬ (m2 : Int) < 0 := by omega
    obtain ⟨b3, hb3⟩ : ∃ c, c = b.getD m3 0 := ⟨_, rfl⟩
    have cb3 : wr.cell? ⟨g, o + m3, none⟩ = some (.int .u8 (b3 : Int)) := by
     rw [hb3]; exact (hbel.out.cell (p := ⟨g, o + m3, none⟩) HGW.out).trans ((HBW1.out.cell (p := ⟨g, o + m3, none⟩) HG.out).trans (HC.out m3 (by omega)))
    have lb3 : b3 < 256 := by rw [hb3]; exact getD_b HB.out _
    have eb3 : IntKind.u32.wrap (b3 : Int) = (b3 : Int) := by rw [IntKind.wrap_u32]; omega
    have dm3 : (m3 : Int) < 64 := by omega
    have dn3 : ¬ (m3 : Int) < 0 := by omega
    obtain ⟨p0, hp0⟩ : ∃ p, p = b0 * 16777216 := ⟨_, rfl⟩
    have ep0 : IntKind.u32.wrap ((b0 : Int) * 16777216) = (p0 : Int) := by rw [IntKind.wrap_u32]; omega
    obtain ⟨p1, hp1⟩ : ∃ p, p = b1 * 65536 := ⟨_, rfl⟩
    have ep1 : IntKind.u32.wrap ((b1 : Int) * 65536) = (p1 : Int) := by rw [IntKind.wrap_u32]; omega
    obtain ⟨p2, hp2⟩ : ∃ p, p = b2 * 256 := ⟨_, rfl⟩
    have ep2 : IntKind.u32.wrap ((b2 : Int) * 256) = (p2 : Int) := by rw [IntKind.wrap_u32]; omega
    obtain ⟨s1, hs1⟩ : ∃ p, p = p0 + p1 := ⟨_, rfl⟩
    have es1 : IntKind.u32.wrap ((p0 : Int) + (p1 : Int)) = (s1 : Int) := by rw [IntKind.wrap_u32]; omega
    obtain ⟨s2, hs2⟩ : ∃ p, p = s1 + p2 := ⟨_, rfl⟩
    have es2 : IntKind.u32.wrap ((s1 : Int) + (p2 : Int)) = (s2 : Int) := by rw [IntKind.wrap_u32]; omega
    obtain ⟨s3, hs3⟩ : ∃ p, p = s2 + b3 := ⟨_, rfl⟩
    have es3 : IntKind.u32.wrap ((s2 : Int) + (b3 : Int)) = (s3 : Int) := by rw [IntKind.wrap_u32]; omega
    have hxw : s3 = wdAt b t := by
     show s3 = be4 _ _ _ _
     rw [<- hm1, <- hm2, <- hm3, <- hm0, <- hb0, <- hb1, <- hb2, <- hb3]
     unfold be4; omega
    have nb := block_at hsc.out t (.int .u32 (s3 : Int))
    rw [wA_set, schedP_set b t s3 HT.out (by rw [schedW_next, if_pos H16.out, hxw])] at nb
    have NB := Lib.hid nb
    clear nb hxw hs1 hs2 hs3 hp0 hp1 hp2 hb0 hb1 hb2 hb3 hm0 hm1 hm2 hm3 h16 ht lb0 lb1 lb2 lb3;go_wp2
    refine wp_region_still_tail 35 (by kernel_rfl) (by kernel_rfl) ?_
    simp only [List.take_succ_cons, List.take_zero, List.drop_succ_cons, List.drop_zero]
    change wpStill _ _ wr.drew _ _ _
    repeat still_step
    refine wpStill_nil ?_
    change wpList _ _ _ _ _ wr.drew
    go_wp2
    go_roundw
    case rel => exact ⟨t + 1, by have := HT.out; omega, by go_num, NB.out, (hbel.out.setCell (by simp) _).drew⟩
    case measure => simp [intOf]; have := HT.out; omega
   ·have d16 : decide ((t : Int) < 16) = false := by simp; omega
    have H16 := Lib.hid h16;obtain ⟨i2, hi2⟩ : ∃ i, i = t - 2 := ⟨_, rfl⟩
    have e2 : IntKind.i64.wrap ((t : Int) - 2) = (i2 : Int) := by rw [IntWalk.i64_in _ (by omega)]; omega
    have b2 : (i2 : Int) < 64 := by omega
    have n2n : ¬ (i2 : Int) < 0 := by omega
    have c2 := (cells_at hsc.out i2).trans (wA_get _ i2 (by rw [schedP_len _ _ ht]; omega))
    rw [schedP_get b t i2 (by omega)] at c2
    have l2 := getD_w (schedW_lt b HB.out t) i2
    have hx2 : (schedW b t).getD (t - 2) 0 = (schedW b t).getD i2 0 := by rw [hi2]
    obtain ⟨x2, hxx2⟩ : ∃ x, x = (schedW b t).getD i2 0 := ⟨_, rfl⟩
    rw [<- hxx2] at c2 l2 hx2;obtain ⟨i7, hi7⟩ : ∃ i, i = t - 7 := ⟨_, rfl⟩
    have e7 : IntKind.i64.wrap ((t : Int) - 7) = (i7 : Int) := by rw [IntWalk.i64_in _ (by omega)]; omega
    have b7 : (i7 : Int) < 64 := by omega
    have n7n : ¬ (i7 : Int) < 0 := by omega
    have c7 := (cells_at hsc.out i7).trans (wA_get _ i7 (by rw [schedP_len _ _ ht]; omega))
    rw [schedP_get b t i7 (by omega)] at c7
    have l7 := getD_w (schedW_lt b HB.out t) i7
    have hx7 : (schedW b t).getD (t - 7) 0 = (schedW b t).getD i7 0 := by rw [hi7]
    obtain ⟨x7, hxx7⟩ : ∃ x, x = (schedW b t).getD i7 0 := ⟨_, rfl⟩
    rw [<- hxx7] at c7 l7 hx7;obtain ⟨i15, hi15⟩ : ∃ i, i = t - 15 := ⟨_, rfl⟩
    have e15 : IntKind.i64.wrap ((t : Int) - 15) = (i15 : Int) := by rw [IntWalk.i64_in _ (by omega)]; omega
    have b15 : (i15 : Int) < 64 := by omega
    have n15n : ¬ (i15 : Int) < 0 := by omega
    have c15 := (cells_at hsc.out i15).trans (wA_get _ i15 (by rw [schedP_len _ _ ht]; omega))
    rw [schedP_get b t i15 (by omega)] at c15
    have l15 := getD_w (schedW_lt b HB.out t) i15
    have hx15 : (schedW b t).getD (t - 15) 0 = (schedW b t).getD i15 0 := by rw [hi15]
    obtain ⟨x15, hxx15⟩ : ∃ x, x = (schedW b t).getD i15 0 := ⟨_, rfl⟩
    rw [<- hxx15] at c15 l15 hx15;obtain ⟨i16, hi16⟩ : ∃ i, i = t - 16 := ⟨_, rfl⟩
    have e16 : IntKind.i64.wrap ((t : Int) - 16) = (i16 : Int) := by rw [IntWalk.i64_in _ (by omega)]; omega
    have b16 : (i16 : Int) < 64 := by omega
    have n16n : ¬ (i16 : Int) < 0 := by omega
    have c16 := (cells_at hsc.out i16).trans (wA_get _ i16 (by rw [schedP_len _ _ ht]; omega))
    rw [schedP_get b t i16 (by omega)] at c16
    have l16 := getD_w (schedW_lt b HB.out t) i16
    have hx16 : (schedW b t).getD (t - 16) 0 = (schedW b t).getD i16 0 := by rw [hi16]
    obtain ⟨x16, hxx16⟩ : ∃ x, x = (schedW b t).getD i16 0 := ⟨_, rfl⟩
    rw [<- hxx16] at c16 l16 hx16;have HT7 : Hid (∀ w, Calls Tryz.prog 42 #[.int .u32 (x15 : Int), .int .u64 7] w fun e w' => e = .returned (.int .u32 ((rotr x15 7 : Nat) : Int)) /\ w' = w) := fun w => (turn_c x15 7 l15 (by omega) (by omega) w).mono fun e w' h => ⟨h.1, h.2.symm⟩
    have HT18 : Hid (∀ w, Calls Tryz.prog 42 #[.int .u32 (x15 : Int), .int .u64 18] w fun e w' => e = .returned (.int .u32 ((rotr x15 18 : Nat) : Int)) /\ w' = w) := fun w => (turn_c x15 18 l15 (by omega) (by omega) w).mono fun e w' h => ⟨h.1, h.2.symm⟩
    have HT17 : Hid (∀ w, Calls Tryz.prog 42 #[.int .u32 (x2 : Int), .int .u64 17] w fun e w' => e = .returned (.int .u32 ((rotr x2 17 : Nat) : Int)) /\ w' = w) := fun w => (turn_c x2 17 l2 (by omega) (by omega) w).mono fun e w' h => ⟨h.1, h.2.symm⟩
    have HT19 : Hid (∀ w, Calls Tryz.prog 42 #[.int .u32 (x2 : Int), .int .u64 19] w fun e w' => e = .returned (.int .u32 ((rotr x2 19 : Nat) : Int)) /\ w' = w) := fun w => (turn_c x2 19 l2 (by omega) (by omega) w).mono fun e w' h => ⟨h.1, h.2.symm⟩
    have hs3 : (x15 : Int) / 8 = ((shr x15 3 : Nat) : Int) := by unfold shr; omega
    have hs10 : (x2 : Int) / 1024 = ((shr x2 10 : Nat) : Int) := by unfold shr; omega
    have n1 : bits BinOp.xor IntKind.u32 ((rotr x15 7 : Nat) : Int) ((rotr x15 18 : Nat) : Int) = ((rotr x15 7 ^^^ rotr x15 18 : Nat) : Int) := u32x rfl rfl (rotr_lt _ _ l15) (rotr_lt _ _ l15)
    have n2 : bits BinOp.xor IntKind.u32 ((rotr x15 7 ^^^ rotr x15 18 : Nat) : Int) ((shr x15 3 : Nat) : Int) = ((sm0 x15 : Nat) : Int) := u32x rfl rfl (xor32 (rotr_lt _ _ l15) (rotr_lt _ _ l15)) (shr_lt _ _ l15)
    have n3 : bits BinOp.xor IntKind.u32 ((rotr x2 17 : Nat) : Int) ((rotr x2 19 : Nat) : Int) = ((rotr x2 17 ^^^ rotr x2 19 : Nat) : Int) := u32x rfl rfl (rotr_lt _ _ l2) (rotr_lt _ _ l2)
    have n4 : bits BinOp.xor IntKind.u32 ((rotr x2 17 ^^^ rotr x2 19 : Nat) : Int) ((shr x2 10 : Nat) : Int) = ((sm1 x2 : Nat) : Int) := u32x rfl rfl (xor32 (rotr_lt _ _ l2) (rotr_lt _ _ l2)) (shr_lt _ _ l2)
    have hnx : schedW b (t + 1) = schedW b t ++ [(sm1 x2 + x7 + sm0 x15 + x16) % 4294967296] := by
     rw [schedW_next, if_neg h16, hx2, hx7, hx15, hx16]
    obtain ⟨s1, hs1⟩ : ∃ s, s = sm1 x2 := ⟨_, rfl⟩
    obtain ⟨s0, hs0⟩ : ∃ s, s = sm0 x15 := ⟨_, rfl⟩
    rw [<- hs1] at n4 hnx;rw [<- hs0] at n2 hnx;obtain ⟨y1, hy1⟩ : ∃ s, s = rotr x15 7 ^^^ rotr x15 18 := ⟨_, rfl⟩
    rw [<- hy1] at n1 n2;obtain ⟨y2, hy2⟩ : ∃ s, s = rotr x2 17 ^^^ rotr x2 19 := ⟨_, rfl⟩
    rw [<- hy2] at n3 n4;obtain ⟨r7, hr7⟩ : ∃ s, s = rotr x15 7 := ⟨_, rfl⟩
    rw [<- hr7] at HT7 n1;obtain ⟨r18, hr18⟩ : ∃ s, s = rotr x15 18 := ⟨_, rfl⟩
    rw [<- hr18] at HT18 n1;obtain ⟨r17, hr17⟩ : ∃ s, s = rotr x2 17 := ⟨_, rfl⟩
    rw [<- hr17] at HT17 n3;obtain ⟨r19, hr19⟩ : ∃ s, s = rotr x2 19 := ⟨_, rfl⟩
    rw [<- hr19] at HT19 n3;obtain ⟨z3, hz3⟩ : ∃ s, s = shr x15 3 := ⟨_, rfl⟩
    rw [<- hz3] at hs3 n2;obtain ⟨z10, hz10⟩ : ∃ s, s = shr x2 10 := ⟨_, rfl⟩
    rw [<- hz10] at hs10 n4;obtain ⟨a1, ha1⟩ : ∃ a, a = (x16 + s0) % 4294967296 := ⟨_, rfl⟩
    have q1 : IntKind.u32.wrap ((x16 : Int) + (s0 : Int)) = (a1 : Int) := by rw [IntKind.wrap_u32]; omega
    obtain ⟨a2, ha2⟩ : ∃ a, a = (a1 + x7) % 4294967296 := ⟨_, rfl⟩
    have q2 : IntKind.u32.wrap ((a1 : Int) + (x7 : Int)) = (a2 : Int) := by rw [IntKind.wrap_u32]; omega
    obtain ⟨a3, ha3⟩ : ∃ a, a = (a2 + s1) % 4294967296 := ⟨_, rfl⟩
    have q3 : IntKind.u32.wrap ((a2 : Int) + (s1 : Int)) = (a3 : Int) := by rw [IntKind.wrap_u32]; omega
    rw [show (s1 + x7 + s0 + x16) % 4294967296 = a3 by omega] at hnx
    have nb := block_at hsc.out t (.int .u32 (a3 : Int))
    rw [wA_set, schedP_set b t a3 HT.out hnx] at nb
    have NB := Lib.hid nb
    clear nb hnx ha1 ha2 ha3 hs1 hs0 h16 ht hi2 hx2 hxx2 hi7 hx7 hxx7 hi15 hx15 hxx15 hi16 hx16 hxx16 hy1 hy2 hr7 hr18 hr17 hr19 hz3 hz10 l2 l7 l15 l16;go_wp2
    refine wp_region_still_tail 29 (by kernel_rfl) (by kernel_rfl) ?_
    simp only [List.take_succ_cons, List.take_zero, List.drop_succ_cons, List.drop_zero]
    change wpStill _ _ wr.drew _ _ _
    repeat still_step
    still_call (HT7.out _)
    repeat still_step
    still_call (HT18.out _)
    repeat still_step
    still_call (HT17.out _)
    repeat still_step
    still_call (HT19.out _)
    repeat still_step
    refine wpStill_nil ?_
    change wpList _ _ _ _ _ wr.drew
    go_wp2
    go_roundw
    case rel => exact ⟨t + 1, by have := HT.out; omega, by go_num, NB.out, (hbel.out.setCell (by simp) _).drew⟩
    case measure => simp [intOf]; have := HT.out; omega
  ·have ht64 : t = 64 := by omega
   have hd : decide ((t : Int) < 64) = false := by simp; omega
   obtain ⟨W, hW⟩ : ∃ W, W = schedW b 64 := ⟨_, rfl⟩
   have HWW := Lib.hid hW;have HFIN : Hid (wr.heap[w1.heap.size]? = some (.cells (wA W) 61 (0, 0))) := by
    have h := hsc.out
    rw [ht64] at h;have e : schedP b 64 = schedW b 64 := by simp [schedP]
    rw [e, <- hW] at h
    exact h
   have HWL : Hid (W.length = 64) := by show _ = _; rw [hW, schedW_len]
   have HWB : Hid (∀ x ∈ W, x < 4294967296) := by rw [hW]; exact schedW_lt b HB.out 64
   have HLTR := HLT1.out
   have hlt0 := HLT0.out
   have HAR : Hid (∀ w', Below w1.heap.size w1 w' -> w'.heap[w.heap.size]? = some (.cells (wA [xa, xb, xc, xd, xe, xf, xg, xh]) 62 (0, 0)) /\ w'.heap[w.heap.size + 1]? = some (.cells (wA [0, 0, 0, 0, 0, 0, 0, 0]) 62 (0, 0)) /\ w'.heap[kb]? = some (.cells (wA KT) 60 (0, 0))) := fun w' h => ⟨(h.block _ (by omega)).trans HA1.out, (h.block _ (by omega)).trans HR1.out, (h.block _ (by omega)).trans HK1.out⟩
   have hA := (HAR.out wr hbel.out).1
   have c0 : wr.cell? ⟨w.heap.size, 0, none⟩ = some (.int .u32 (xa : Int)) := (cells_at hA 0).trans rfl
   have c1 : wr.cell? ⟨w.heap.size, 1, none⟩ = some (.int .u32 (xb : Int)) := (cells_at hA 1).trans rfl
   have c2 : wr.cell? ⟨w.heap.size, 2, none⟩ = some (.int .u32 (xc : Int)) := (cells_at hA 2).trans rfl
   have c3 : wr.cell? ⟨w.heap.size, 3, none⟩ = some (.int .u32 (xd : Int)) := (cells_at hA 3).trans rfl
   have c4 : wr.cell? ⟨w.heap.size, 4, none⟩ = some (.int .u32 (xe : Int)) := (cells_at hA 4).trans rfl
   have c5 : wr.cell? ⟨w.heap.size, 5, none⟩ = some (.int .u32 (xf : Int)) := (cells_at hA 5).trans rfl
   have c6 : wr.cell? ⟨w.heap.size, 6, none⟩ = some (.int .u32 (xg : Int)) := (cells_at hA 6).trans rfl
   have c7 : wr.cell? ⟨w.heap.size, 7, none⟩ = some (.int .u32 (xh : Int)) := (cells_at hA 7).trans rfl
   obtain ⟨S0, hS0⟩ : ∃ S : St, S = ⟨xa, xb, xc, xd, xe, xf, xg, xh⟩ := ⟨_, rfl⟩
   have HBL2 := Lib.hid hbel.out;clear hA hsc hbel ht hlt HLTR hlt0 ht64 hW;go_wp2
   go_quiet (fail)
   go_wp2
   rw [<- hS0] at HOK;have HBX : Hid (Below w1.heap.size w1 (wr.drewN nq)) := below_drewN HBL2.out nq
   have HWX : Hid ((wr.drewN nq).heap[w1.heap.size]? = some (.cells (wA W) 61 (0, 0))) := by show _ = _; rw [<- HFIN.out]; simp
   generalize wr.drewN nq = wd at *
   clear c0 c1 c2 c3 c4 c5 c6 c7 HFIN HBL2;have HS0 : Hid (S0 = ⟨xa, xb, xc, xd, xe, xf, xg, xh⟩) := hS0
   go_loopw [10, 11, 12, 13, 14, 15, 16, 17, 18] (fun p0 p1 p2 p3 p4 p5 p6 p7 vi wx => ∃ i : Nat, i <= 64 /\ vi = .int .i64 (i : Int) /\ ∃ R : St, Hid (R = stepsN S0 W i) /\ p0 = .int .u32 (R.a : Int) /\ p1 = .int .u32 (R.b : Int) /\ p2 = .int .u32 (R.c : Int) /\ p3 = .int .u32 (R.d : Int) /\ p4 = .int .u32 (R.e : Int) /\ p5 = .int .u32 (R.f : Int) /\ p6 = .int .u32 (R.g : Int) /\ p7 = .int .u32 (R.h : Int) /\ Hid (wx.heap[w1.heap.size]? = some (.cells (wA W) 61 (0, 0))) /\ Hid (Below w1.heap.size w1 wx)) (fun p0 p1 p2 p3 p4 p5 p6 p7 vi _ => 64 - (intOf vi).toNat)
   case atStart => exact ⟨0, by omega, rfl, ⟨xa, xb, xc, xd, xe, xf, xg, xh⟩, HS0.out.symm, rfl, rfl, rfl, rfl, rfl, rfl, rfl, rfl, HWX.out, HBX.out⟩
   case round =>
    clear HBX HWX hS0;obtain ⟨i, hi, rfl, R, hR, rfl, rfl, rfl, rfl, rfl, rfl, rfl, rfl, hwx, hbx⟩ := hrel
    by_cases hlt : i < 64
    ·have hd2 : decide ((i : Int) < 64) = true := by simp; omega
     have dl2 : (i : Int) < 64 := by omega
     have dn2 : ¬ (i : Int) < 0 := by omega
     have HI := Lib.hid hlt;have HST : Hid (St.ok R) := by rw [hR.out]; exact steps_ok HOK.out W i
     have HNX : Hid (stepsN S0 W (i + 1) = R.step (KT.getD i 0) (W.getD i 0)) := by show _ = _; rw [hR.out]; exact stepsN_next S0 W i
     obtain ⟨ya, yb, yc, yd, ye, yf, yg, yh⟩ := R
     have hst := HST.out
     simp only [St.ok, St.list, List.mem_cons, List.not_mem_nil, or_false, forall_eq_or_imp, forall_eq] at hst
     obtain ⟨lya, lyb, lyc, lyd, lye, lyf, lyg, lyh⟩ := hst
     have ck := (cells_at (HAR.out _ hbx.out).2.2 i).trans (wA_get KT i (by rw [KT_len]; exact hlt))
     have cw := (cells_at hwx.out i).trans (wA_get W i (by rw [HWL.out]; exact hlt))
     have hkl := KT_lt i hlt
     have hwl := getD_w HWB.out i
     obtain ⟨xk, hxk⟩ : ∃ v, v = KT.getD i 0 := ⟨_, rfl⟩
     rw [<- hxk] at ck hkl HNX;obtain ⟨xw, hxw⟩ : ∃ v, v = W.getD i 0 := ⟨_, rfl⟩
     rw [<- hxw] at cw hwl HNX;have HE6 : Hid (∀ w, Calls Tryz.prog 42 #[.int .u32 (ye : Int), .int .u64 6] w fun e w' => e = .returned (.int .u32 ((rotr ye 6 : Nat) : Int)) /\ w' = w) := fun w => (turn_c ye 6 lye (by omega) (by omega) w).mono fun e w' h => ⟨h.1, h.2.symm⟩
     have HE11 : Hid (∀ w, Calls Tryz.prog 42 #[.int .u32 (ye : Int), .int .u64 11] w fun e w' => e = .returned (.int .u32 ((rotr ye 11 : Nat) : Int)) /\ w' = w) := fun w => (turn_c ye 11 lye (by omega) (by omega) w).mono fun e w' h => ⟨h.1, h.2.symm⟩
     have HE25 : Hid (∀ w, Calls Tryz.prog 42 #[.int .u32 (ye : Int), .int .u64 25] w fun e w' => e = .returned (.int .u32 ((rotr ye 25 : Nat) : Int)) /\ w' = w) := fun w => (turn_c ye 25 lye (by omega) (by omega) w).mono fun e w' h => ⟨h.1, h.2.symm⟩
     have HA2 : Hid (∀ w, Calls Tryz.prog 42 #[.int .u32 (ya : Int), .int .u64 2] w fun e w' => e = .returned (.int .u32 ((rotr ya 2 : Nat) : Int)) /\ w' = w) := fun w => (turn_c ya 2 lya (by omega) (by omega) w).mono fun e w' h => ⟨h.1, h.2.symm⟩
     have HA13 : Hid (∀ w, Calls Tryz.prog 42 #[.int .u32 (ya : Int), .int .u64 13] w fun e w' => e = .returned (.int .u32 ((rotr ya 13 : Nat) : Int)) /\ w' = w) := fun w => (turn_c ya 13 lya (by omega) (by omega) w).mono fun e w' h => ⟨h.1, h.2.symm⟩
     have HA22 : Hid (∀ w, Calls Tryz.prog 42 #[.int .u32 (ya : Int), .int .u64 22] w fun e w' => e = .returned (.int .u32 ((rotr ya 22 : Nat) : Int)) /\ w' = w) := fun w => (turn_c ya 22 lya (by omega) (by omega) w).mono fun e w' h => ⟨h.1, h.2.symm⟩
     have b1 : yf ^^^ yg < 4294967296 := xor32 lyf lyg
     have b2 : ye &&& (yf ^^^ yg) < 4294967296 := Nat.and_lt_two_pow (n := 32) _ b1
     have b3 : ya &&& yb < 4294967296 := Nat.and_lt_two_pow (n := 32) _ lyb
     have b4 : ya ||| yb < 4294967296 := Nat.or_lt_two_pow (n := 32) lya lyb
     have b5 : yc &&& (ya ||| yb) < 4294967296 := Nat.and_lt_two_pow (n := 32) _ b4
     have n1 : bits BinOp.xor IntKind.u32 ((rotr ye 6 : Nat) : Int) ((rotr ye 11 : Nat) : Int) = ((rotr ye 6 ^^^ rotr ye 11 : Nat) : Int) := u32x rfl rfl (rotr_lt _ _ lye) (rotr_lt _ _ lye)
     have n2 : bits BinOp.xor IntKind.u32 ((rotr ye 6 ^^^ rotr ye 11 : Nat) : Int) ((rotr ye 25 : Nat) : Int) = ((gr1 ye : Nat) : Int) := u32x rfl rfl (xor32 (rotr_lt _ _ lye) (rotr_lt _ _ lye)) (rotr_lt _ _ lye)
     have n3 : bits BinOp.xor IntKind.u32 (yf : Int) (yg : Int) = ((yf ^^^ yg : Nat) : Int) := u32x rfl rfl lyf lyg
     have n4 : bits BinOp.and IntKind.u32 (ye : Int) ((yf ^^^ yg : Nat) : Int) = ((ye &&& (yf ^^^ yg) : Nat) : Int) := u32n rfl rfl lye b1
     have n5 : bits BinOp.xor IntKind.u32 (yg : Int) ((ye &&& (yf ^^^ yg) : Nat) : Int) = ((ch ye yf yg : Nat) : Int) := by rw [<- ch_ref ye yf yg lyg]; exact u32x rfl rfl lyg b2
     have n6 : bits BinOp.xor IntKind.u32 ((rotr ya 2 : Nat) : Int) ((rotr ya 13 : Nat) : Int) = ((rotr ya 2 ^^^ rotr ya 13 : Nat) : Int) := u32x rfl rfl (rotr_lt _ _ lya) (rotr_lt _ _ lya)
     have n7 : bits BinOp.xor IntKind.u32 ((rotr ya 2 ^^^ rotr ya 13 : Nat) : Int) ((rotr ya 22 : Nat) : Int) = ((gr0 ya : Nat) : Int) := u32x rfl rfl (xor32 (rotr_lt _ _ lya) (rotr_lt _ _ lya)) (rotr_lt _ _ lya)
     have n8 : bits BinOp.and IntKind.u32 (ya : Int) (yb : Int) = ((ya &&& yb : Nat) : Int) := u32n rfl rfl lya lyb
     have n9 : bits BinOp.or IntKind.u32 (ya : Int) (yb : Int) = ((ya ||| yb : Nat) : Int) := u32o rfl rfl lya lyb
     have n10 : bits BinOp.and IntKind.u32 (yc : Int) ((ya ||| yb : Nat) : Int) = ((yc &&& (ya ||| yb) : Nat) : Int) := u32n rfl rfl lyc b4
     have n11 : bits BinOp.or IntKind.u32 ((ya &&& yb : Nat) : Int) ((yc &&& (ya ||| yb) : Nat) : Int) = ((maj ya yb yc : Nat) : Int) := by rw [<- maj_ref ya yb yc]; exact u32o rfl rfl b3 b5
     simp only [St.step] at HNX
     clear b1 b2 b3 b4 b5;obtain ⟨v11, hv11⟩ : ∃ v, v = maj ya yb yc := ⟨_, rfl⟩
     rw [<- hv11] at n11 HNX;obtain ⟨v10, hv10⟩ : ∃ v, v = yc &&& (ya ||| yb) := ⟨_, rfl⟩
     rw [<- hv10] at n10 n11;obtain ⟨v9, hv9⟩ : ∃ v, v = ya ||| yb := ⟨_, rfl⟩
     rw [<- hv9] at n9 n10;obtain ⟨v8, hv8⟩ : ∃ v, v = ya &&& yb := ⟨_, rfl⟩
     rw [<- hv8] at n8 n11;obtain ⟨v7, hv7⟩ : ∃ v, v = gr0 ya := ⟨_, rfl⟩
     rw [<- hv7] at n7 HNX;obtain ⟨v6, hv6⟩ : ∃ v, v = rotr ya 2 ^^^ rotr ya 13 := ⟨_, rfl⟩
     rw [<- hv6] at n6 n7;obtain ⟨v5, hv5⟩ : ∃ v, v = ch ye yf yg := ⟨_, rfl⟩
     rw [<- hv5] at n5 HNX;obtain ⟨v4, hv4⟩ : ∃ v, v = ye &&& (yf ^^^ yg) := ⟨_, rfl⟩
     rw [<- hv4] at n4 n5;obtain ⟨v3, hv3⟩ : ∃ v, v = yf ^^^ yg := ⟨_, rfl⟩
     rw [<- hv3] at n3 n4;obtain ⟨v2, hv2⟩ : ∃ v, v = gr1 ye := ⟨_, rfl⟩
     rw [<- hv2] at n2 HNX;obtain ⟨v1, hv1⟩ : ∃ v, v = rotr ye 6 ^^^ rotr ye 11 := ⟨_, rfl⟩
     rw [<- hv1] at n1 n2;obtain ⟨r6, hr6⟩ : ∃ v, v = rotr ye 6 := ⟨_, rfl⟩
     rw [<- hr6] at HE6 n1;obtain ⟨r11, hr11⟩ : ∃ v, v = rotr ye 11 := ⟨_, rfl⟩
     rw [<- hr11] at HE11 n1;obtain ⟨r25, hr25⟩ : ∃ v, v = rotr ye 25 := ⟨_, rfl⟩
     rw [<- hr25] at HE25 n2;obtain ⟨r2, hr2⟩ : ∃ v, v = rotr ya 2 := ⟨_, rfl⟩
     rw [<- hr2] at HA2 n6;obtain ⟨r13, hr13⟩ : ∃ v, v = rotr ya 13 := ⟨_, rfl⟩
     rw [<- hr13] at HA13 n6;obtain ⟨r22, hr22⟩ : ∃ v, v = rotr ya 22 := ⟨_, rfl⟩
     rw [<- hr22] at HA22 n7;obtain ⟨a1, ha1⟩ : ∃ a, a = (yh + v2) % 4294967296 := ⟨_, rfl⟩
     have qa1 : IntKind.u32.wrap ((yh : Int) + (v2 : Int)) = (a1 : Int) := by rw [IntKind.wrap_u32]; omega
     obtain ⟨a2, ha2⟩ : ∃ a, a = (a1 + v5) % 4294967296 := ⟨_, rfl⟩
     have qa2 : IntKind.u32.wrap ((a1 : Int) + (v5 : Int)) = (a2 : Int) := by rw [IntKind.wrap_u32]; omega
     obtain ⟨a3, ha3⟩ : ∃ a, a = (a2 + xk) % 4294967296 := ⟨_, rfl⟩
     have qa3 : IntKind.u32.wrap ((a2 : Int) + (xk : Int)) = (a3 : Int) := by rw [IntKind.wrap_u32]; omega
     obtain ⟨t1, ht1⟩ : ∃ a, a = (a3 + xw) % 4294967296 := ⟨_, rfl⟩
     have qt1 : IntKind.u32.wrap ((a3 : Int) + (xw : Int)) = (t1 : Int) := by rw [IntKind.wrap_u32]; omega
     obtain ⟨t2, ht2⟩ : ∃ a, a = (v7 + v11) % 4294967296 := ⟨_, rfl⟩
     have qt2 : IntKind.u32.wrap ((v7 : Int) + (v11 : Int)) = (t2 : Int) := by rw [IntKind.wrap_u32]; omega
     obtain ⟨a5, ha5⟩ : ∃ a, a = (t1 + t2) % 4294967296 := ⟨_, rfl⟩
     have qa5 : IntKind.u32.wrap ((t1 : Int) + (t2 : Int)) = (a5 : Int) := by rw [IntKind.wrap_u32]; omega
     obtain ⟨a6, ha6⟩ : ∃ a, a = (yd + t1) % 4294967296 := ⟨_, rfl⟩
     have qa6 : IntKind.u32.wrap ((yd : Int) + (t1 : Int)) = (a6 : Int) := by rw [IntKind.wrap_u32]; omega
     have hnx := HNX.out
     rw [show (yh + v2 + v5 + xk + xw) % 4294967296 = t1 by omega, <- ht2, <- ha5, <- ha6] at hnx
     have HN := Lib.hid hnx;clear hnx HNX hxk hxw ha1 ha2 ha3 ht1 ht2 ha5 ha6 hv1 hv2 hv3 hv4 hv5 hv6 hv7 hv8 hv9 hv10 hv11 hr6 hr11 hr25 hr2 hr13 hr22 lya lyb lyc lyd lye lyf lyg lyh hkl hwl HST hi hR hlt;go_wp2_with fail
     refine wp_region_still_tail 27 (by kernel_rfl) (by kernel_rfl) ?_
     simp only [List.take_succ_cons, List.take_zero, List.drop_succ_cons, List.drop_zero]
     change wpStill _ _ wr.drew _ _ _
     repeat still_step
     still_call (HE6.out _)
     repeat still_step
     still_call (HE11.out _)
     repeat still_step
     still_call (HE25.out _)
     repeat still_step
     refine wpStill_nil ?_
     change wpList _ _ _ _ _ wr.drew
     go_wp2_with fail
     refine (HA2.out _).mono ?_
     rintro r1 w1' ⟨rfl, rfl⟩
     go_wp2_with fail
     refine (HA13.out _).mono ?_
     rintro r1 w1' ⟨rfl, rfl⟩
     go_wp2_with fail
     refine (HA22.out _).mono ?_
     rintro r1 w1' ⟨rfl, rfl⟩
     go_wp2
     go_roundw
     case rel => exact ⟨i + 1, by have := HI.out; omega, by go_num, ⟨a5, ya, yb, yc, a6, ye, yf, yg⟩, HN.out.symm, rfl, rfl, rfl, rfl, rfl, rfl, rfl, rfl, hwx.out, hbx.out.drew⟩
     case measure => simp [intOf]; have := HI.out; omega
    ·have hi64 : i = 64 := by omega
     have hd2 : decide ((i : Int) < 64) = false := by simp; omega
     have HRF : Hid (blockN S0 b = S0.add R) := by
      show _ = _
      rw [hR.out, hi64, HWW.out]; rfl
     have HX := HAR.out _ hbx.out
     have hA := HX.1
     have HRR := Lib.hid HX.2.1;have HBE : Hid (Below w.heap.size w wr) := HBW1.out.trans (hbx.out.mono HBW1.out.size)
     obtain ⟨ya, yb, yc, yd, ye, yf, yg, yh⟩ := R
     have c0 : wr.cell? ⟨w.heap.size, 0, none⟩ = some (.int .u32 (xa : Int)) := (cells_at hA 0).trans rfl
     obtain ⟨za, hza⟩ : ∃ z, z = (xa + ya) % 4294967296 := ⟨_, rfl⟩
     have qa : IntKind.u32.wrap ((xa : Int) + (ya : Int)) = (za : Int) := by rw [IntKind.wrap_u32]; omega
     have c1 : wr.cell? ⟨w.heap.size, 1, none⟩ = some (.int .u32 (xb : Int)) := (cells_at hA 1).trans rfl
     obtain ⟨zb, hzb⟩ : ∃ z, z = (xb + yb) % 4294967296 := ⟨_, rfl⟩
     have qb : IntKind.u32.wrap ((xb : Int) + (yb : Int)) = (zb : Int) := by rw [IntKind.wrap_u32]; omega
     have c2 : wr.cell? ⟨w.heap.size, 2, none⟩ = some (.int .u32 (xc : Int)) := (cells_at hA 2).trans rfl
     obtain ⟨zc, hzc⟩ : ∃ z, z = (xc + yc) % 4294967296 := ⟨_, rfl⟩
     have qc : IntKind.u32.wrap ((xc : Int) + (yc : Int)) = (zc : Int) := by rw [IntKind.wrap_u32]; omega
     have c3 : wr.cell? ⟨w.heap.size, 3, none⟩ = some (.int .u32 (xd : Int)) := (cells_at hA 3).trans rfl
     obtain ⟨zd, hzd⟩ : ∃ z, z = (xd + yd) % 4294967296 := ⟨_, rfl⟩
     have qd : IntKind.u32.wrap ((xd : Int) + (yd : Int)) = (zd : Int) := by rw [IntKind.wrap_u32]; omega
     have c4 : wr.cell? ⟨w.heap.size, 4, none⟩ = some (.int .u32 (xe : Int)) := (cells_at hA 4).trans rfl
     obtain ⟨ze, hze⟩ : ∃ z, z = (xe + ye) % 4294967296 := ⟨_, rfl⟩
     have qe : IntKind.u32.wrap ((xe : Int) + (ye : Int)) = (ze : Int) := by rw [IntKind.wrap_u32]; omega
     have c5 : wr.cell? ⟨w.heap.size, 5, none⟩ = some (.int .u32 (xf : Int)) := (cells_at hA 5).trans rfl
     obtain ⟨zf, hzf⟩ : ∃ z, z = (xf + yf) % 4294967296 := ⟨_, rfl⟩
     have qf : IntKind.u32.wrap ((xf : Int) + (yf : Int)) = (zf : Int) := by rw [IntKind.wrap_u32]; omega
     have c6 : wr.cell? ⟨w.heap.size, 6, none⟩ = some (.int .u32 (xg : Int)) := (cells_at hA 6).trans rfl
     obtain ⟨zg, hzg⟩ : ∃ z, z = (xg + yg) % 4294967296 := ⟨_, rfl⟩
     have qg : IntKind.u32.wrap ((xg : Int) + (yg : Int)) = (zg : Int) := by rw [IntKind.wrap_u32]; omega
     have c7 : wr.cell? ⟨w.heap.size, 7, none⟩ = some (.int .u32 (xh : Int)) := (cells_at hA 7).trans rfl
     obtain ⟨zh, hzh⟩ : ∃ z, z = (xh + yh) % 4294967296 := ⟨_, rfl⟩
     have qh : IntKind.u32.wrap ((xh : Int) + (yh : Int)) = (zh : Int) := by rw [IntKind.wrap_u32]; omega
     have HFV : Hid (wA (blockN S0 b).list = #[.int .u32 (za : Int), .int .u32 (zb : Int), .int .u32 (zc : Int), .int .u32 (zd : Int), .int .u32 (ze : Int), .int .u32 (zf : Int), .int .u32 (zg : Int), .int .u32 (zh : Int)]) := by
      show _ = _
      rw [HRF.out, HS0.out]
      unfold St.add St.list wA
      simp only [<- hza, <- hzb, <- hzc, <- hzd, <- hze, <- hzf, <- hzg, <- hzh]
      rfl
     clear hza hzb hzc hzd hze hzf hzg hzh HRF hA HX hi64 hi hR hlt hwx hbx;go_wp2_with (first
      | (refine wpList_store_row rfl 62 (.tmp 4) (.tmp 209) rfl (w.heap.size + 1) #[.int .u32 (za : Int), .int .u32 (zb : Int), .int .u32 (zc : Int), .int .u32 (zd : Int), .int .u32 (ze : Int), .int .u32 (zf : Int), .int .u32 (zg : Int), .int .u32 (zh : Int)] rfl rfl 62 _ HRR.out (by rw [eight53]; rfl) (by rfl) (by simp [Value.oneCell']) ?_)
      | fail)
     exact bodyPost_ret (results_cell_row rfl _ _ (w.heap.size + 1) 62 #[.int .u32 (za : Int), .int .u32 (zb : Int), .int .u32 (zc : Int), .int .u32 (zd : Int), .int .u32 (ze : Int), .int .u32 (zf : Int), .int .u32 (zg : Int), .int .u32 (zh : Int)] (0, 0) _ rfl (setRow_heap _ _ _ _ _ _ HRR.out) Tryz.underlying62 rfl (by rw [eight53]; rfl)) rfl ⟨by rw [<- HS0.out, HFV.out], below_setRow HBE.out (Nat.le_succ _) _⟩
def padW (N j : Nat) : List Nat := List.replicate (8 - j) 0 ++ (highB 8 N).drop (8 - j)
theorem padW_set (N j : Nat) (h : j < 8) : (padW N j).set (7 - j) (N / 2 ^ (8 * j) % 256) = padW N (j + 1) := by
 rcases (by omega : j = 0 \/ j = 1 \/ j = 2 \/ j = 3 \/ j = 4 \/ j = 5 \/ j = 6 \/ j = 7) with rfl | rfl | rfl | rfl | rfl | rfl | rfl | rfl <;>
  simp [padW, highB, upB, List.range, List.range.loop, List.replicate]
theorem padW_len (N j : Nat) (h : j <= 8) : (padW N j).length = 8 := by
 unfold padW;rw [List.length_append, List.length_replicate, List.length_drop, highB_len]; omega
theorem padW_full (N : Nat) : padW N 8 = highB 8 N := by simp [padW]
theorem padW_zero (N : Nat) : padW N 0 = List.replicate 8 0 := by
 unfold padW;rw [List.drop_of_length_le (by rw [highB_len]; exact Nat.le_refl _), List.append_nil]
theorem div_next (N j : Nat) : N / 2 ^ (8 * j) / 256 = N / 2 ^ (8 * (j + 1)) := by
 rw [Nat.div_div_eq_div_mul, show (256 : Nat) = 2 ^ 8 from rfl, <- Nat.pow_add]
 rfl
theorem rpad_c (n : Nat) (hn : n <= 900000) (w : World) :
  Calls Tryz.prog 28 #[.int .i64 (n : Int)] w fun e w' => ∃ v, e = .returned v /\ w'.ownsRow w.heap.size 5 1 v (padL n).length (bA (padL n)).toList /\ Below w.heap.size w w' := by
 obtain ⟨z, hz⟩ : ∃ z, z = (119 - n % 64) % 64 := ⟨_, rfl⟩
 have HZ := Lib.hid hz;have HN := Lib.hid hn;have H0 : Hid ((w.alloc (.cells #[.int .u8 128] 5)).ownsRow w.heap.size 5 1 (.slice (some ⟨w.heap.size, 0, none⟩) (1 + 0) 1) (1 + 0) (bA (128 :: List.replicate 0 0)).toList) :=
  ⟨rfl, .inr ⟨w.heap.size, 1, _, rfl, Nat.le_refl _, heap_new' _ _, Nat.le_refl _, by unfold maxLen; omega, rfl, rfl⟩⟩
 have HB0 : Hid (Below w.heap.size w (w.alloc (.cells #[.int .u8 128] 5))) := (Below.refl _ _).alloc (Nat.le_refl _) _
 clear hz hn
 go_enter Tryz.func28, Tryz.ntmps28
 go_wp2
 go_loopw [3] (fun v wr => ∃ k : Nat, k <= z /\ ∃ a cap, v = .slice a (1 + k) cap /\ Hid (wr.ownsRow w.heap.size 5 1 v (1 + k) (bA (128 :: List.replicate k 0)).toList) /\ Hid (Below w.heap.size w wr)) (fun v _ => 100 - lenV v)
 case atStart => exact ⟨0, by omega, _, _, rfl, H0.out, HB0.out⟩
 case round =>
  clear H0 HB0;obtain ⟨k, hk, a, cap, rfl, hown, hbel⟩ := hrel
  obtain ⟨k1, hk1⟩ : ∃ k1, k1 = 1 + k := ⟨_, rfl⟩
  obtain ⟨s, hs⟩ : ∃ s, s = n + k1 := ⟨_, rfl⟩
  have hzz := HZ.out
  have hnn := HN.out
  have es : IntKind.i64.wrap ((n : Int) + (k1 : Int)) = (s : Int) := by rw [IntWalk.i64_in _ (by omega)]; omega
  rw [<- hk1] at hown ⊢
  by_cases hlt : k < z
  ·have hd : ¬ ((s : Int) % 64 = 56) := by omega
   have HK := Lib.hid hlt;have HK1 := Lib.hid hk1;have HZ64 : Hid (z <= 63) := by show _ <= _; omega
   have HBN : Hid (BytesAt (wr.alloc (.cells #[.int .u8 0] 5)) (some ⟨wr.heap.size, 0, none⟩) 1 [0]) := bytesAt_block (l := [0]) (by simp) (heap_new' _ _)
   have HOWN : Hid ((wr.alloc (.cells #[.int .u8 0] 5)).ownsRow w.heap.size 5 1 (.slice a k1 cap) k1 (bA (128 :: List.replicate k 0)).toList) := World.ownsRow.alloc hown.out _
   have HBE : Hid (Below w.heap.size w (wr.alloc (.cells #[.int .u8 0] 5))) := hbel.out.alloc hbel.out.size _
   clear hzz hnn hs hk1 hown hlt hk;go_wp2_with (first
    | (refine wpList_append_bytes (v := .slice a k1 cap) (base := w.heap.size) (n := k1) (m := 1) (l := [0]) rfl (.tmp 14) (.tmp 15) rfl rfl HOWN.out rfl rfl HBN.out (fun h => by cases h) (by have := HK1.out; have := HK.out; have := HZ64.out; omega) HBE.out.size ?_; intro v3 w3 hown3 hgr3; have HOWN3 : Hid (w3.ownsRow w.heap.size 5 1 v3 (1 + (k + 1)) (bA (128 :: List.replicate (k + 1) 0)).toList) := (by have h := hown3; rw [bA_app, HK1.out] at h; have e : (128 :: List.replicate k 0) ++ [0] = 128 :: List.replicate (k + 1) 0 := (by rw [List.replicate_succ']; rfl); rw [e] at h; exact h); have HB3 : Hid (Below w.heap.size w w3) := HBE.out.grown hgr3 HBE.out.size (fun k hk => (HOWN.out.lt k hk).1); obtain ⟨a3, cap3, hv3, _⟩ := own_bytes (by intro x hx; rcases List.mem_cons.1 hx with h | h; omega; rw [(List.mem_replicate.1 h).2]; omega) HOWN3.out; subst hv3; clear hown3 hgr3)
    | fail)
   go_roundw
   case rel => exact ⟨k + 1, by have := HK.out; omega, a3, cap3, rfl, HOWN3.out, HB3.out⟩
   case measure => simp [lenV]; have := HK.out; have := HK1.out; have := HZ64.out; omega
  ·have hkz : k = z := by omega
   have hd : (s : Int) % 64 = 56 := by omega
   obtain ⟨m, hm⟩ : ∃ m, m = 8 * n := ⟨_, rfl⟩
   have eu : IntKind.u64.wrap (IntKind.u64.wrap (n : Int) * 8) = (m : Int) := by simp only [IntKind.wrap_u64]; omega
   have eu0 : IntKind.u64.wrap (n : Int) = (n : Int) := by rw [IntKind.wrap_u64]; omega
   have eu1 : IntKind.u64.wrap ((n : Int) * 8) = (m : Int) := by simp only [IntKind.wrap_u64]; omega
   have HM := Lib.hid hm;have HKZ : Hid (k1 = 1 + z) := by show _ = _; rw [hk1, hkz]
   have hmk : ∀ w : World, (Instr.makeSlice 22 (.int .i64 8) (.int .i64 8)).run Tryz.prog w = .ok (.slice (some ⟨w.heap.size, 0, none⟩) 8 8) (w.alloc (.cells (bA [0, 0, 0, 0, 0, 0, 0, 0]) 5)) := fun w => mk_bytes 8 (by omega) w
   have HW8 : Hid ((wr.alloc (.cells (bA [0, 0, 0, 0, 0, 0, 0, 0]) 5)).heap[wr.heap.size]? = some (.cells (bA (padW m 0)) 5 (0, 0))) := by
    show _ = _; rw [heap_new', padW_zero]; rfl
   have HOWN : Hid ((wr.alloc (.cells (bA [0, 0, 0, 0, 0, 0, 0, 0]) 5)).ownsRow w.heap.size 5 1 (.slice a k1 cap) k1 (bA (128 :: List.replicate z 0)).toList) := by rw [<- hkz]; exact World.ownsRow.alloc hown.out _
   have HBE : Hid (Below w.heap.size w (wr.alloc (.cells (bA [0, 0, 0, 0, 0, 0, 0, 0]) 5))) := hbel.out.alloc hbel.out.size _
   have HNE : Hid ((Value.slice a k1 cap).ownBlock ≠ some wr.heap.size /\ w.heap.size <= wr.heap.size) := ⟨fun h => by have := (hown.out.lt _ h).2; omega, hbel.out.size⟩
   clear hzz hnn hs hk1 hown hlt hk hbel hkz hm;go_wp2
   generalize wr.alloc (.cells (bA [0, 0, 0, 0, 0, 0, 0, 0]) 5) = w2 at *
   generalize wr.heap.size = pb at *
   clear hmk eu eu0 eu1 es hd
   go_loopw [4, 6] (fun v vi wx => ∃ j : Nat, j <= 8 /\ vi = .int .i64 (7 - (j : Int)) /\ ∃ q : Nat, Hid (q = m / 2 ^ (8 * j)) /\ v = .int .u64 (q : Int) /\ Hid (wx.heap[pb]? = some (.cells (bA (padW m j)) 5 (0, 0))) /\ Hid (wx.ownsRow w.heap.size 5 1 (.slice a k1 cap) k1 (bA (128 :: List.replicate z 0)).toList) /\ Hid (Below w.heap.size w wx)) (fun _ vi _ => (intOf vi + 1).toNat)
   case atStart => exact ⟨0, by omega, rfl, m, by simp [Hid], rfl, HW8.out, HOWN.out, HBE.out⟩
   case round =>
    clear HW8 HOWN HBE;obtain ⟨j, hj, rfl, q, hq, rfl, hpb, hown, hbel⟩ := hrel
    by_cases hlt : j < 8
    ·obtain ⟨i, hi⟩ : ∃ i, i = 7 - j := ⟨_, rfl⟩
     have ei : (7 - (j : Int)) = (i : Int) := by omega
     rw [ei];have d1 : (0 : Int) <= (i : Int) := by omega
     have d2 : (i : Int) < 8 := by omega
     have d3 : ¬ (i : Int) < 0 := by omega
     have hqm : q <= m := by rw [hq.out]; exact Nat.div_le_self _ _
     have hm9 : m <= 7200000 := by have := HM.out; have := HN.out; omega
     obtain ⟨c, hc⟩ : ∃ c, c = q % 256 := ⟨_, rfl⟩
     obtain ⟨q2, hq2⟩ : ∃ c, c = q / 256 := ⟨_, rfl⟩
     have ec : (q : Int) % 256 = (c : Int) := by omega
     have ec2 : IntKind.u8.wrap (c : Int) = (c : Int) := by rw [IntKind.wrap_u8]; omega
     have eq2 : (q : Int) / 256 = (q2 : Int) := by omega
     have eq3 : IntKind.u64.wrap (q2 : Int) = (q2 : Int) := by rw [IntKind.wrap_u64]; omega
     have e6 : IntKind.i64.wrap ((i : Int) - 1) = (i : Int) - 1 := IntWalk.i64_in _ (by omega)
     have f0 := free_at hpb.out i
     have c0 := (cells_at hpb.out i).trans (bA_get (padW m j) i (by rw [padW_len _ _ hj]; omega))
     have nb := block_at hpb.out i (.int .u8 (c : Int))
     have hset : (bA (padW m j)).setIfInBounds i (.int .u8 (c : Int)) = bA (padW m (j + 1)) := by
      rw [<- padW_set m j hlt, <- hq.out, <- hc, <- hi]; simp [bA, List.map_set]
     rw [hset] at nb;have NB := Lib.hid nb
     have HQ2 : Hid (q2 = m / 2 ^ (8 * (j + 1))) := by show _ = _; rw [hq2, hq.out, div_next]
     have HO : Hid ((wr.setCell ⟨pb, i, none⟩ (.int .u8 (c : Int))).ownsRow w.heap.size 5 1 (.slice a k1 cap) k1 (bA (128 :: List.replicate z 0)).toList) := own_keepS hown.out (fun k hk => Below.heap_setCell _ _ _ _ (by rintro rfl; exact HNE.out.1 hk))
     have HI := Lib.hid hi;have HJ := Lib.hid hlt;clear hset nb hc hq2 hqm hm9 hi ei hj hlt;go_wp2
     go_roundw
     case rel => exact ⟨j + 1, by have := HJ.out; omega, by have := HI.out; have := HJ.out; congr 1; omega, q2, HQ2.out, rfl, NB.out, HO.out, hbel.out.setCell HNE.out.2 _⟩
     case measure => simp [intOf]; try omega
    ·have hj8 : j = 8 := by omega
     have d1 : ¬ (0 : Int) <= 7 - (j : Int) := by omega
     have HP8 : Hid (wr.heap[pb]? = some (.cells (bA (highB 8 m)) 5 (0, 0))) := by
      have h := hpb.out; rw [hj8, padW_full] at h; exact h
     clear hpb hj8 hlt hj hq;go_wp2_with (first
      | (refine wpList_append_bytes (v := .slice a k1 cap) (base := w.heap.size) (n := k1) (m := 8) (l := highB 8 m) rfl (.tmp 33) (.tmp 34) rfl rfl hown.out rfl (highB_len _ _) (bytesAt_block (highB_lt _ _) HP8.out) (fun h => by cases h) (by have := HKZ.out; have := HZ.out; omega) hbel.out.size ?_; intro v3 w3 hown3 hgr3; have HOWN3 := Lib.hid hown3; have HB3 : Hid (Below w.heap.size w w3) := hbel.out.grown hgr3 hbel.out.size (fun k hk => (hown.out.lt k hk).1); clear hown3 hgr3)
      | fail)
     go_ret
     refine ⟨_, rfl, ?_, HB3.out⟩
     have h := HOWN3.out
     have e : padL n = (128 :: List.replicate z 0) ++ highB 8 m := by rw [padL_split, <- HZ.out, <- HM.out]
     rw [e];have e2 : ((128 :: List.replicate z 0) ++ highB 8 m).length = k1 + 8 := by have := HKZ.out; simp [highB_len]; omega
     rw [e2];simpa [bA] using h
theorem range_rowA {w : World} {g : Nat} {A : Array Value} {t : TypeId} (h : w.heap[g]? = some (.cells A t (0, 0))) : w.rangeAt g 0 A.toList := by
 intro j v hv;rw [Nat.zero_add, cells_at h j]
 rw [Array.getElem?_toList] at hv
 exact hv
theorem index_u (S : St) (k : Nat) (hk : k < 8) (w : World) : (Instr.index 62 (.agg (wA S.list)) (.int .i64 (k : Int))).run Tryz.prog w = .ok (.int .u32 ((S.list.getD k 0 : Nat) : Int)) w := by
 rcases (by omega : k = 0 \/ k = 1 \/ k = 2 \/ k = 3 \/ k = 4 \/ k = 5 \/ k = 6 \/ k = 7) with rfl | rfl | rfl | rfl | rfl | rfl | rfl | rfl <;> rfl
theorem bA_part (L : List Nat) (q c : Nat) (h : q < L.length) (hc : c = L.getD q 0) : (bA (partB L q)).setIfInBounds q (.int .u8 (c : Int)) = bA (partB L (q + 1)) := by
 rw [<- partB_set L q h, <- hc]; simp [bA, List.map_set]
theorem part_at (L : List Nat) (q x j : Nat) (hj : j < 4) (h : (L.drop q).take 4 = outW x) : (outW x).getD j 0 = L.getD (q + j) 0 := by
 rw [<- h, List.getD_eq_getElem?_getD, List.getD_eq_getElem?_getD, List.getElem?_take_of_lt hj, List.getElem?_drop]
theorem list_len (S : St) : S.list.length = 8 := rfl
theorem info31 : (Tryz.prog.info? 37).map (·.size) = some 32 := by kernel_rfl
theorem rsum_c (a : Option Addr) (cap n : Nat) (l : List Nat) (hl : l.length = n) (hn : n <= 900000) (w : World) (hB : BytesAt w a cap l) (hnil : a = none -> cap = 0) :
  Calls Tryz.prog 14 #[.slice a n cap] w fun e w' => e = .returned (.agg (bA (sumN l))) /\ Below w.heap.size w w' := by
 have HB0 : Hid (BytesAt ((w.alloc (.cells #[.int .u8 0, .int .u8 0, .int .u8 0, .int .u8 0, .int .u8 0, .int .u8 0, .int .u8 0, .int .u8 0, .int .u8 0, .int .u8 0, .int .u8 0, .int .u8 0, .int .u8 0, .int .u8 0, .int .u8 0, .int .u8 0, .int .u8 0, .int .u8 0, .int .u8 0, .int .u8 0, .int .u8 0, .int .u8 0, .int .u8 0, .int .u8 0, .int .u8 0, .int .u8 0, .int .u8 0, .int .u8 0, .int .u8 0, .int .u8 0, .int .u8 0, .int .u8 0] 37)).alloc (.cells #[] 5)) a cap l) := hB.up (((Below.refl _ _).alloc (Nat.le_refl _) _).alloc (by simp) _) (Nat.le_refl _)
 have HOWN0 : Hid (((w.alloc (.cells #[.int .u8 0, .int .u8 0, .int .u8 0, .int .u8 0, .int .u8 0, .int .u8 0, .int .u8 0, .int .u8 0, .int .u8 0, .int .u8 0, .int .u8 0, .int .u8 0, .int .u8 0, .int .u8 0, .int .u8 0, .int .u8 0, .int .u8 0, .int .u8 0, .int .u8 0, .int .u8 0, .int .u8 0, .int .u8 0, .int .u8 0, .int .u8 0, .int .u8 0, .int .u8 0, .int .u8 0, .int .u8 0, .int .u8 0, .int .u8 0, .int .u8 0, .int .u8 0] 37)).alloc (.cells #[] 5)).ownsRow (w.heap.size + 1) 5 1 (.slice (some ⟨w.heap.size + 1, 0, none⟩) 0 0) 0 []) := by
  have h := own_none0 (w := w.alloc (.cells #[.int .u8 0, .int .u8 0, .int .u8 0, .int .u8 0, .int .u8 0, .int .u8 0, .int .u8 0, .int .u8 0, .int .u8 0, .int .u8 0, .int .u8 0, .int .u8 0, .int .u8 0, .int .u8 0, .int .u8 0, .int .u8 0, .int .u8 0, .int .u8 0, .int .u8 0, .int .u8 0, .int .u8 0, .int .u8 0, .int .u8 0, .int .u8 0, .int .u8 0, .int .u8 0, .int .u8 0, .int .u8 0, .int .u8 0, .int .u8 0, .int .u8 0, .int .u8 0] 37)) (base := w.heap.size + 1) (by simp)
  show World.ownsRow _ _ _ _ _ _ _
  simpa using h
 have HBE0 : Hid (Below w.heap.size w ((w.alloc (.cells #[.int .u8 0, .int .u8 0, .int .u8 0, .int .u8 0, .int .u8 0, .int .u8 0, .int .u8 0, .int .u8 0, .int .u8 0, .int .u8 0, .int .u8 0, .int .u8 0, .int .u8 0, .int .u8 0, .int .u8 0, .int .u8 0, .int .u8 0, .int .u8 0, .int .u8 0, .int .u8 0, .int .u8 0, .int .u8 0, .int .u8 0, .int .u8 0, .int .u8 0, .int .u8 0, .int .u8 0, .int .u8 0, .int .u8 0, .int .u8 0, .int .u8 0, .int .u8 0] 37)).alloc (.cells #[] 5))) := ((Below.refl _ _).alloc (Nat.le_refl _) _).alloc (by simp) _
 have HZ0 : Hid (((w.alloc (.cells #[.int .u8 0, .int .u8 0, .int .u8 0, .int .u8 0, .int .u8 0, .int .u8 0, .int .u8 0, .int .u8 0, .int .u8 0, .int .u8 0, .int .u8 0, .int .u8 0, .int .u8 0, .int .u8 0, .int .u8 0, .int .u8 0, .int .u8 0, .int .u8 0, .int .u8 0, .int .u8 0, .int .u8 0, .int .u8 0, .int .u8 0, .int .u8 0, .int .u8 0, .int .u8 0, .int .u8 0, .int .u8 0, .int .u8 0, .int .u8 0, .int .u8 0, .int .u8 0] 37)).alloc (.cells #[] 5)).heap[w.heap.size]? = some (.cells (bA (List.replicate 32 0)) 37 (0, 0))) := by
  show _ = _; rw [heap_old' _ _ _ (by simp), heap_new']; rfl
 have HNIL := Lib.hid hnil;have HL := Lib.hid hl;have HN := Lib.hid hn;have HLB := Lib.hid hB.1;clear hB hnil hl hn
 go_enter Tryz.func14, Tryz.ntmps14
 go_wp2_with (first
  | (refine wpList_append_bytes (v := .slice (some ⟨w.heap.size + 1, 0, none⟩) 0 0) (base := w.heap.size + 1) (n := 0) (xs := []) (l := l) rfl (.tmp 9) (.tmp 10) rfl rfl HOWN0.out rfl HL.out HB0.out HNIL.out (by have := HN.out; omega) (by simp) ?_; intro v1 w1 hown1 hgr1; rw [Nat.zero_add, List.nil_append] at hown1; have HOWN1 := Lib.hid hown1; have HB1 : Hid (Below (w.heap.size + 1) ((w.alloc (.cells #[.int .u8 0, .int .u8 0, .int .u8 0, .int .u8 0, .int .u8 0, .int .u8 0, .int .u8 0, .int .u8 0, .int .u8 0, .int .u8 0, .int .u8 0, .int .u8 0, .int .u8 0, .int .u8 0, .int .u8 0, .int .u8 0, .int .u8 0, .int .u8 0, .int .u8 0, .int .u8 0, .int .u8 0, .int .u8 0, .int .u8 0, .int .u8 0, .int .u8 0, .int .u8 0, .int .u8 0, .int .u8 0, .int .u8 0, .int .u8 0, .int .u8 0, .int .u8 0] 37)).alloc (.cells #[] 5)) w1) := (Below.refl _ _).grown hgr1 (by simp) (fun k hk => by simp [Value.ownBlock] at hk; omega); clear hown1 hgr1)
  | fail)
 have HZ1 := Lib.hid ((HB1.out.block _ (Nat.lt_succ_self _)).trans HZ0.out)
 have HBE1 : Hid (Below w.heap.size w w1) := HBE0.out.trans (HB1.out.mono (Nat.le_succ _))
 clear HB0 HOWN0 HBE0 HZ0 HB1;refine (rpad_c n HN.out w1).mono ?_
 rintro e w2 ⟨v2, rfl, hown2, hb2⟩
 obtain ⟨pa, pc, rfl, hpb, hpl, hpc, hpm, hpn, hpg⟩ := own_bytes (padL_lt n) hown2
 have HPB := Lib.hid hpb;have HPN := Lib.hid hpn;have HOWN2 := Lib.hid (own_up HOWN1.out hb2)
 have HZ2 := Lib.hid ((hb2.block _ (lt_of_block HZ1.out)).trans HZ1.out)
 have HBE2 : Hid (Below w.heap.size w w2) := HBE1.out.trans (hb2.mono HBE1.out.size)
 obtain ⟨p, hp⟩ : ∃ p, p = (padL n).length := ⟨_, rfl⟩
 have HPL : Hid ((padL n).length = p /\ p <= 80) := by rw [hp]; exact ⟨rfl, padL_short n⟩
 rw [<- hp];clear hp hpb hpl hpc hpm hpn hpg hown2 hb2 HOWN1 HZ1 HBE1;go_wp2_with (first
  | (refine wpList_append_bytes (v := v1) (base := w.heap.size + 1) (n := n) (m := p) (l := padL n) rfl (.tmp 11) (.tmp 14) rfl rfl HOWN2.out rfl HPL.out.1 HPB.out HPN.out (by have := HN.out; have := HPL.out.2; omega) (by have := lt_of_block HZ2.out; omega) ?_; intro v3 w3 hown3 hgr3; rw [bA_app] at hown3; have HOWN3 := Lib.hid hown3; have HB3 : Hid (Below (w.heap.size + 1) w2 w3) := (Below.refl _ _).grown hgr3 (by have := lt_of_block HZ2.out; omega) (fun k hk => (HOWN2.out.lt k hk).1); clear hown3 hgr3)
  | fail)
 have HZ3 := Lib.hid ((HB3.out.block _ (Nat.lt_succ_self _)).trans HZ2.out)
 have HBE3 : Hid (Below w.heap.size w w3) := HBE2.out.trans (HB3.out.mono (Nat.le_succ _))
 obtain ⟨M, hM⟩ : ∃ M, M = l ++ padL n := ⟨_, rfl⟩
 rw [<- hM] at HOWN3;have HMB : Hid (∀ x ∈ M, x < 256) := by
  intro x hx;rw [hM] at hx;rcases List.mem_append.1 hx with h | h
  ·exact HLB.out x h
  ·exact padL_lt n x h
 have HML : Hid (M.length = n + p /\ M.length % 64 = 0) := by
  have h := padL_len l.length
  rw [HL.out, HPL.out.1] at h
  have e : M.length = n + p := by rw [hM, List.length_append, HL.out, HPL.out.1]
  exact ⟨e, by omega⟩
 have HSN : Hid (sumN l = (blocksN M (M.length / 64)).out) := by
  show _ = _
  rw [HML.out.1, hM, <- HPL.out.1]
  have e := HL.out
  subst e
  rfl
 clear hM HOWN2 HZ2 HBE2 HB3 HPB HPN;refine (firsts_c w3).mono ?_
 rintro e w4 ⟨rfl, hb4⟩
 have HZ4 := Lib.hid ((hb4.block _ (lt_of_block HZ3.out)).trans HZ3.out)
 have HBE4 : Hid (Below w.heap.size w w4) := HBE3.out.trans (hb4.mono HBE3.out.size)
 have HOWN4 := Lib.hid (own_up HOWN3.out hb4)
 clear hb4 HZ3 HBE3 HOWN3;have hown4 := HOWN4.out
 rw [<- HML.out.1] at hown4;obtain ⟨ma, mc, hv3, hmb, hml, hmc, hmm, hmn, hmg⟩ := own_bytes HMB.out hown4
 have HMAT := Lib.hid hmb;have HMN := Lib.hid hmn;have HMC := Lib.hid hmc;have HMG := Lib.hid hmg;clear hmb hmn hmc hmg hmm hml hown4;subst hv3;obtain ⟨ML, hML⟩ : ∃ q, q = M.length := ⟨_, rfl⟩
 have HMQ := Lib.hid hML;rw [<- hML] at HMC ⊢
 clear hML HMG;have HZA : Hid ((w4.alloc (.cells #[.int .u32 0, .int .u32 0, .int .u32 0, .int .u32 0, .int .u32 0, .int .u32 0, .int .u32 0, .int .u32 0] 62)).heap[w4.heap.size]? = some (.cells #[.int .u32 0, .int .u32 0, .int .u32 0, .int .u32 0, .int .u32 0, .int .u32 0, .int .u32 0, .int .u32 0] 62 (0, 0))) := heap_new' _ _
 go_wp2_with (first
  | (refine wpList_store_row rfl 62 (.tmp 4) (.tmp 16) rfl w4.heap.size (wA Sha.HL) rfl rfl 62 _ HZA.out (by rw [eight53]; rfl) (by rfl) (wA_one _) ?_; generalize hW5 : World.setRow _ _ _ = w5; have HS5 : Hid (w5.heap[w4.heap.size]? = some (.cells (wA (blocksN M 0).list) 62 (0, 0))) := (by show _ = _; rw [<- hW5]; exact setRow_heap _ _ _ _ _ _ HZA.out); have HB5 : Hid (Below w4.heap.size w4 w5) := (by rw [<- hW5]; exact below_setRow ((Below.refl _ _).alloc (Nat.le_refl _) _) (Nat.le_refl _) _); clear hW5)
  | fail)
 have HLT : Hid (w.heap.size < w4.heap.size) := lt_of_block HZ4.out
 clear HZA;generalize hsb : w4.heap.size = sb at *
 have HSB := Lib.hid hsb;clear hsb
 go_loopw [5] (fun vi wx => ∃ i x : Nat, x <= ML /\ vi = .int .i64 (x : Int) /\ Hid (x = 64 * i) /\ Hid (wx.heap[sb]? = some (.cells (wA (blocksN M i).list) 62 (0, 0))) /\ Hid (Below sb w4 wx)) (fun vi _ => ML - (intOf vi).toNat)
 case atStart => exact ⟨0, 0, by omega, rfl, rfl, HS5.out, HB5.out⟩
 case round =>
  clear HS5 HB5;obtain ⟨i, x, hx, rfl, hxi, hsx, hbx⟩ := hrel
  have hmlen := HML.out
  have hmq := HMQ.out
  have hpl := HPL.out.2
  have hnn := HN.out
  by_cases hlt : x < ML
  ·have hd : decide ((x : Int) < (ML : Int)) = true := by simp; omega
   have dl : (x : Int) < (ML : Int) := by omega
   have hx64 : x + 64 <= ML := by have := hxi.out; omega
   obtain ⟨g0, rfl⟩ : ∃ g0, ma = some ⟨g0, 0, none⟩ := by
    rcases HOWN4.out.2 with ⟨h, _⟩ | ⟨g', cap', cur, h, _⟩
    ·omega
    ·injection h with h _ _; exact ⟨g', h⟩
   obtain ⟨g, o, hma, hmc2, hmg, hmcell⟩ := HMAT.out.2 (by omega)
   injection hma with hma
   injection hma with h1 h2 _
   subst h1 h2
   obtain ⟨x2, hx2⟩ : ∃ x2, x2 = x + 64 := ⟨_, rfl⟩
   have ex2 : IntKind.i64.wrap ((x : Int) + 64) = (x2 : Int) := by rw [IntWalk.i64_in _ (by omega)]; omega
   have s1 : (0 : Int) <= (x : Int) := by omega
   have s2 : (x : Int) <= (x2 : Int) := by omega
   have hcml : ML <= mc := HMC.out
   have s3 : (x2 : Int) <= (mc : Int) := by omega
   have s4 : ¬ mc = x := by omega
   have s5 : x2 - x = 64 := by omega
   have hgs : g0 < sb := by rw [<- HSB.out]; exact hmg
   have hbl : ((M.drop (64 * i)).take 64).length = 64 := by
    have h2 := hxi.out
    rw [List.length_take, List.length_drop]; omega
   have hcell : ∀ j, j < 64 -> wr.drew.cell? ⟨g0, x + j, none⟩ = some (.int .u8 ((((M.drop (64 * i)).take 64).getD j 0 : Nat) : Int)) := fun j hj => by
    have h1 := hmcell (x + j) (by omega)
    rw [Nat.zero_add] at h1;refine (hbx.out.cell (p := ⟨g0, x + j, none⟩) hgs).trans (h1.trans ?_)
    congr 3
    rw [List.getD_eq_getElem?_getD, List.getD_eq_getElem?_getD, List.getElem?_take_of_lt hj, List.getElem?_drop]
    congr 2
    have := hxi.out; omega
   have HRB : Hid (Calls Tryz.prog 30 #[.agg (wA (blocksN M i).list), .slice (some ⟨g0, x, none⟩) 64 (mc - x)] wr.drew fun e w' => e = .returned (.agg (wA (blocksN M (i + 1)).list)) /\ Below wr.heap.size wr.drew w') :=
    (rblock_c (blocksN M i) (blocks_ok _ _) g0 x (mc - x) (by omega) ((M.drop (64 * i)).take 64) hbl (fun y hy => HMB.out y (List.mem_of_mem_drop (List.mem_of_mem_take hy))) wr.drew (Nat.lt_of_lt_of_le hgs (Nat.le_trans (Nat.le_of_eq HSB.out.symm) hbx.out.size)) hcell)
   have HX2 : Hid (x2 = 64 * (i + 1) /\ x2 <= ML /\ x < x2) := by have := hxi.out; exact ⟨by omega, by omega, by omega⟩
   have HSBR : Hid (sb <= wr.heap.size) := Nat.le_of_lt (lt_of_block hsx.out)
   clear hx2 hcell hbl hx hx64 hmcell hmc2 hmg hgs hcml hmlen hmq hpl hnn hlt;go_wp2_with fail
   have hS : wr.drew.heap[sb]? = some (.cells (wA (blocksN M i).list) 62 (0, 0)) := hsx.out
   refine wp_region_T (S := fun w' => w'.heap[sb]? = some (.cells (wA (blocksN M i).list) 62 (0, 0))) (z := 7) (by kernel_rfl) ?_
   change wpAnyT _ _ _ _ _ _ 8 #[false, false, false, false, false, false, false, false] _ _
   refine wpAnyT_take (i := 0) rfl (by kernel_rfl) (by kernel_rfl) (by kernel_rfl) (by kernel_rfl) (fun _ _ _ h => h) (yieldsIf_load_mid (by rfl) _ _ rfl sb 0 rfl _ _ (fun w' h => range_rowA h) Tryz.underlying62 rfl (by rw [eight53, Array.length_toList, wA_size, list_len])) hS ?_
   simp only [gA, gS, gZ, Act.put, sA, sZ, sS]
   refine wpAnyT_take (i := 1) (v := ?_) rfl (by kernel_rfl) (by kernel_rfl) (by kernel_rfl) (by kernel_rfl) (fun _ _ _ h => h) (Or.inl ⟨by rfl, ?hy⟩) hS ?_
   case hy => intro w' hSw; go_simp; try with_reducible rfl
   simp only [gA, gS, gZ, Act.put, sA, sZ, sS]
   refine wpAnyT_take (i := 2) (v := ?_) rfl (by kernel_rfl) (by kernel_rfl) (by kernel_rfl) (by kernel_rfl) (fun _ _ _ h => h) (Or.inl ⟨by rfl, ?hy⟩) hS ?_
   case hy => intro w' hSw; go_simp; try with_reducible rfl
   simp only [gA, gS, gZ, Act.put, sA, sZ, sS]
   refine wpAnyT_take (i := 3) (v := ?_) rfl (by kernel_rfl) (by kernel_rfl) (by kernel_rfl) (by kernel_rfl) (fun _ _ _ h => h) (Or.inl ⟨by rfl, ?hy⟩) hS ?_
   case hy => intro w' hSw; go_simp; try with_reducible rfl
   simp only [gA, gS, gZ, Act.put, sA, sZ, sS]
   refine wpAnyT_take (i := 4) (v := ?_) rfl (by kernel_rfl) (by kernel_rfl) (by kernel_rfl) (by kernel_rfl) (fun _ _ _ h => h) (Or.inl ⟨by rfl, ?hy⟩) hS ?_
   case hy => intro w' hSw; go_simp; try with_reducible rfl
   simp only [gA, gS, gZ, Act.put, sA, sZ, sS]
   refine wpAnyT_take (i := 5) (v := ?_) rfl (by kernel_rfl) (by kernel_rfl) (by kernel_rfl) (by kernel_rfl) (fun _ _ _ h => h) (Or.inl ⟨by rfl, ?hy⟩) hS ?_
   case hy => intro w' hSw; go_simp; try with_reducible rfl
   simp only [gA, gS, gZ, Act.put, sA, sZ, sS]
   refine wpAnyT_ready (rs := [6]) (by kernel_rfl) (by simp) ?_
   refine AllReadyT.cons rfl (fun K hK => ?_) AllReadyT.nil
   rw [if_pos (by rfl)]
   go_simp
   refine (HRB.out).mono ?_
   rintro e w7 ⟨rfl, hb7⟩
   have hs7 := (hb7.block _ (lt_of_block hsx.out)).trans hsx.out
   have hS7 := hs7
   refine hK.out _ _ (fun _ => hS7) ?_
   clear hK K;simp only [gA, gS, gZ, Act.put, sA, sZ, sS]
   refine wpAnyT_ready (rs := [7]) (by kernel_rfl) (by simp) ?_
   refine AllReadyT.cons rfl (fun K hK => ?_) AllReadyT.nil
   rw [if_pos (by rfl)]
   refine wp_store_row 62 (.tmp 4) (.tmp 29) rfl sb (wA (blocksN M (i + 1)).list) rfl rfl 62 _ hs7 (by rw [eight53, wA_size, list_len]) (by rw [wA_size, wA_size, list_len, list_len]) (wA_one _) ?_
   refine hK.out _ _ (fun h => absurd h (by omega)) ?_
   clear hK K;simp only [gA, gS, gZ, Act.put, sA, sZ, sS]
   change wpAnyT _ _ _ _ _ _ 0 _ _ _
   refine wpAnyT_done (by kernel_rfl) ?_ _
   have HN1 : Hid ((w7.setRow sb (wA (blocksN M (i + 1)).list)).heap[sb]? = some (.cells (wA (blocksN M (i + 1)).list) 62 (0, 0))) := setRow_heap _ _ _ _ _ _ hs7
   have HN2 : Hid (Below sb w4 (w7.setRow sb (wA (blocksN M (i + 1)).list))) := below_setRow (hbx.out.drew.trans (hb7.mono HSBR.out)) (Nat.le_refl _) _
   clear hS hs7 hS7 hb7 hsx hbx;go_wp2
   go_roundw
   case rel => exact ⟨i + 1, x2, HX2.out.2.1, by go_num, HX2.out.1, HN1.out, HN2.out⟩
   case measure => simp [intOf]; have := HX2.out; omega
  ·have hd : decide ((x : Int) < (ML : Int)) = false := by simp; omega
   have dl : ¬ (x : Int) < (ML : Int) := by omega
   have hiq : i = M.length / 64 := by have := hxi.out; omega
   obtain ⟨SF, hSF⟩ : ∃ SF, SF = blocksN M i := ⟨_, rfl⟩
   have HL2 : Hid (sumN l = SF.out) := by show _ = _; rw [HSN.out, hSF, hiq]
   have HFO : Hid (St.ok SF) := by rw [hSF]; exact blocks_ok _ _
   rw [<- hSF] at hsx;have HBX := Lib.hid hbx.out;have HRX := Lib.hid (range_rowA hsx.out)
   have HRX2 : Hid ((wr.alloc (.cells #[.int .u8 0, .int .u8 0, .int .u8 0, .int .u8 0, .int .u8 0, .int .u8 0, .int .u8 0, .int .u8 0, .int .u8 0, .int .u8 0, .int .u8 0, .int .u8 0, .int .u8 0, .int .u8 0, .int .u8 0, .int .u8 0, .int .u8 0, .int .u8 0, .int .u8 0, .int .u8 0, .int .u8 0, .int .u8 0, .int .u8 0, .int .u8 0, .int .u8 0, .int .u8 0, .int .u8 0, .int .u8 0, .int .u8 0, .int .u8 0, .int .u8 0, .int .u8 0] 37)).rangeAt sb 0 (wA SF.list).toList) := by
    have hb1 : Below wr.heap.size wr (wr.alloc (.cells #[.int .u8 0, .int .u8 0, .int .u8 0, .int .u8 0, .int .u8 0, .int .u8 0, .int .u8 0, .int .u8 0, .int .u8 0, .int .u8 0, .int .u8 0, .int .u8 0, .int .u8 0, .int .u8 0, .int .u8 0, .int .u8 0, .int .u8 0, .int .u8 0, .int .u8 0, .int .u8 0, .int .u8 0, .int .u8 0, .int .u8 0, .int .u8 0, .int .u8 0, .int .u8 0, .int .u8 0, .int .u8 0, .int .u8 0, .int .u8 0, .int .u8 0, .int .u8 0] 37)) := (Below.refl _ _).alloc (Nat.le_refl _) _
    exact range_rowA ((hb1.block _ (lt_of_block hsx.out)).trans hsx.out)
   have HO1 : Hid ((wr.alloc (.cells #[.int .u8 0, .int .u8 0, .int .u8 0, .int .u8 0, .int .u8 0, .int .u8 0, .int .u8 0, .int .u8 0, .int .u8 0, .int .u8 0, .int .u8 0, .int .u8 0, .int .u8 0, .int .u8 0, .int .u8 0, .int .u8 0, .int .u8 0, .int .u8 0, .int .u8 0, .int .u8 0, .int .u8 0, .int .u8 0, .int .u8 0, .int .u8 0, .int .u8 0, .int .u8 0, .int .u8 0, .int .u8 0, .int .u8 0, .int .u8 0, .int .u8 0, .int .u8 0] 37)).heap[wr.heap.size]? = some (.cells (bA (partB SF.out (4 * 0))) 37 (0, 0))) := by
    show _ = _; rw [heap_new', Nat.mul_zero, partB_zero, out_len]; rfl
   have HBY : Hid (Below sb w4 (wr.alloc (.cells #[.int .u8 0, .int .u8 0, .int .u8 0, .int .u8 0, .int .u8 0, .int .u8 0, .int .u8 0, .int .u8 0, .int .u8 0, .int .u8 0, .int .u8 0, .int .u8 0, .int .u8 0, .int .u8 0, .int .u8 0, .int .u8 0, .int .u8 0, .int .u8 0, .int .u8 0, .int .u8 0, .int .u8 0, .int .u8 0, .int .u8 0, .int .u8 0, .int .u8 0, .int .u8 0, .int .u8 0, .int .u8 0, .int .u8 0, .int .u8 0, .int .u8 0, .int .u8 0] 37))) := hbx.out.alloc (Nat.le_of_lt (lt_of_block hsx.out)) _
   have HSO : Hid (sb < wr.heap.size) := lt_of_block hsx.out
   clear hx hxi hsx hbx hmlen hmq hpl hnn hlt hiq hSF;go_wp2_with (first
    | (refine wpList_load_mid rfl 62 (.tmp 4) rfl sb 0 rfl _ _ HRX2.out Tryz.underlying62 rfl (by rw [eight53, Array.length_toList, wA_size, list_len]) ?_)
    | fail)
   generalize wr.alloc (.cells #[.int .u8 0, .int .u8 0, .int .u8 0, .int .u8 0, .int .u8 0, .int .u8 0, .int .u8 0, .int .u8 0, .int .u8 0, .int .u8 0, .int .u8 0, .int .u8 0, .int .u8 0, .int .u8 0, .int .u8 0, .int .u8 0, .int .u8 0, .int .u8 0, .int .u8 0, .int .u8 0, .int .u8 0, .int .u8 0, .int .u8 0, .int .u8 0, .int .u8 0, .int .u8 0, .int .u8 0, .int .u8 0, .int .u8 0, .int .u8 0, .int .u8 0, .int .u8 0] 37) = w6 at *
   generalize wr.heap.size = ob at *
   go_loopw [31] (fun vi wx => ∃ k : Nat, k <= 8 /\ vi = .int .i64 (k : Int) /\ Hid (wx.heap[ob]? = some (.cells (bA (partB SF.out (4 * k))) 37 (0, 0))) /\ Hid (Below sb w4 wx)) (fun vi _ => 8 - (intOf vi).toNat)
   case atStart => exact ⟨0, by omega, rfl, HO1.out, HBY.out⟩
   case round =>
    clear HO1 HBY;obtain ⟨k, hk, rfl, ho, hbx⟩ := hrel
    by_cases hlt : k < 8
    ·have hd2 : decide ((k : Int) < 8) = true := by simp; omega
     have dl2 : (k : Int) < 8 := by omega
     have hv := index_u SF k hlt
     have hxl := getD_w HFO.out k
     have hop := out_part SF k hlt
     obtain ⟨x, hx⟩ : ∃ x, x = SF.list.getD k 0 := ⟨_, rfl⟩
     rw [<- hx] at hv hxl hop;obtain ⟨q, hq4⟩ : ∃ q, q = 4 * k := ⟨_, rfl⟩
     rw [<- hq4] at ho hop;have e4 : IntKind.i64.wrap (4 * (k : Int)) = (q : Int) := by rw [IntWalk.i64_in _ (by omega)]; omega
     have dq0 : (q : Int) < 32 := by omega
     have dn0 : ¬ (q : Int) < 0 := by omega
     obtain ⟨c0, hc0⟩ : ∃ c, c = x / 16777216 % 256 := ⟨_, rfl⟩
     have ec0 : IntKind.u8.wrap ((x : Int) / 16777216) = (c0 : Int) := by rw [IntKind.wrap_u8]; omega
     obtain ⟨q1, hq1⟩ : ∃ q, q = 4 * k + 1 := ⟨_, rfl⟩
     have eq1 : IntKind.i64.wrap ((q : Int) + 1) = (q1 : Int) := by rw [IntWalk.i64_in _ (by omega)]; omega
     have dq1 : (q1 : Int) < 32 := by omega
     have dn1 : ¬ (q1 : Int) < 0 := by omega
     obtain ⟨c1, hc1⟩ : ∃ c, c = x / 65536 % 256 := ⟨_, rfl⟩
     have ec1 : IntKind.u8.wrap ((x : Int) / 65536) = (c1 : Int) := by rw [IntKind.wrap_u8]; omega
     obtain ⟨q2, hq2⟩ : ∃ q, q = 4 * k + 2 := ⟨_, rfl⟩
     have eq2 : IntKind.i64.wrap ((q : Int) + 2) = (q2 : Int) := by rw [IntWalk.i64_in _ (by omega)]; omega
     have dq2 : (q2 : Int) < 32 := by omega
     have dn2 : ¬ (q2 : Int) < 0 := by omega
     obtain ⟨c2, hc2⟩ : ∃ c, c = x / 256 % 256 := ⟨_, rfl⟩
     have ec2 : IntKind.u8.wrap ((x : Int) / 256) = (c2 : Int) := by rw [IntKind.wrap_u8]; omega
     obtain ⟨q3, hq3⟩ : ∃ q, q = 4 * k + 3 := ⟨_, rfl⟩
     have eq3 : IntKind.i64.wrap ((q : Int) + 3) = (q3 : Int) := by rw [IntWalk.i64_in _ (by omega)]; omega
     have dq3 : (q3 : Int) < 32 := by omega
     have dn3 : ¬ (q3 : Int) < 0 := by omega
     obtain ⟨c3, hc3⟩ : ∃ c, c = x / 1 % 256 := ⟨_, rfl⟩
     have ec3 : IntKind.u8.wrap (x : Int) = (c3 : Int) := by rw [IntKind.wrap_u8]; omega
     have fr0 := free_at ho.out q
     have ce0 := (cells_at ho.out q).trans (bA_get _ q (by rw [partB_len _ _ (by rw [out_len]; omega), out_len]; omega))
     have hb1' := block_at ho.out q (.int .u8 (c0 : Int))
     rw [bA_part SF.out q c0 (by rw [out_len]; omega) (by rw [hc0, show q = q + 0 by omega, <- part_at SF.out q x 0 (by omega) hop]; rfl)] at hb1'
     rw [show q + 1 = q1 by omega] at hb1'
     have fr1 := free_at hb1' q1
     have ce1 := (cells_at hb1' q1).trans (bA_get _ q1 (by rw [partB_len _ _ (by rw [out_len]; omega), out_len]; omega))
     have hb2' := block_at hb1' q1 (.int .u8 (c1 : Int))
     rw [bA_part SF.out q1 c1 (by rw [out_len]; omega) (by rw [hc1, show q1 = q + 1 by omega, <- part_at SF.out q x 1 (by omega) hop]; rfl)] at hb2'
     rw [show q1 + 1 = q2 by omega] at hb2'
     have fr2 := free_at hb2' q2
     have ce2 := (cells_at hb2' q2).trans (bA_get _ q2 (by rw [partB_len _ _ (by rw [out_len]; omega), out_len]; omega))
     have hb3' := block_at hb2' q2 (.int .u8 (c2 : Int))
     rw [bA_part SF.out q2 c2 (by rw [out_len]; omega) (by rw [hc2, show q2 = q + 2 by omega, <- part_at SF.out q x 2 (by omega) hop]; rfl)] at hb3'
     rw [show q2 + 1 = q3 by omega] at hb3'
     have fr3 := free_at hb3' q3
     have ce3 := (cells_at hb3' q3).trans (bA_get _ q3 (by rw [partB_len _ _ (by rw [out_len]; omega), out_len]; omega))
     have hb4' := block_at hb3' q3 (.int .u8 (c3 : Int))
     rw [bA_part SF.out q3 c3 (by rw [out_len]; omega) (by rw [hc3, show q3 = q + 3 by omega, <- part_at SF.out q x 3 (by omega) hop]; simp [outW])] at hb4'
     rw [show q3 + 1 = q + 4 by omega] at hb4'
     obtain ⟨W4, hW4⟩ : ∃ W4, W4 = ((((wr.setCell ⟨ob, q, none⟩ (.int .u8 (c0 : Int))).setCell ⟨ob, q1, none⟩ (.int .u8 (c1 : Int))).setCell ⟨ob, q2, none⟩ (.int .u8 (c2 : Int))).setCell ⟨ob, q3, none⟩ (.int .u8 (c3 : Int))) := ⟨_, rfl⟩
     have HX : Hid (W4.heap[ob]? = some (.cells (bA (partB SF.out (4 * (k + 1)))) 37 (0, 0))) := by
      show _ = _; rw [hW4, hb4', show 4 * (k + 1) = q + 4 by omega]
     have HBN : Hid (Below sb w4 W4) := by show Below _ _ _; rw [hW4]; exact (((hbx.out.setCell (p := ⟨ob, q, none⟩) (Nat.le_of_lt HSO.out) _).setCell (p := ⟨ob, q1, none⟩) (Nat.le_of_lt HSO.out) _).setCell (p := ⟨ob, q2, none⟩) (Nat.le_of_lt HSO.out) _).setCell (p := ⟨ob, q3, none⟩) (Nat.le_of_lt HSO.out) _
     have HWE := Lib.hid hW4;have HK := Lib.hid hlt;clear hW4 hb1' hb2' hb3' hb4' hc0 hc1 hc2 hc3 hq1 hq2 hq3 hq4 hx hop hxl hk hlt ho hbx;go_wp2
     rw [<- HWE.out]
     go_roundw
     case rel => exact ⟨k + 1, by have := HK.out; omega, by go_num, HX.out, HBN.out⟩
     case measure => simp [intOf]; have := HK.out; omega
    ·have hk8 : k = 8 := by omega
     have hd2 : decide ((k : Int) < 8) = false := by simp; omega
     have HZ : Hid (wr.heap[ob]? = some (.cells (bA (sumN l)) 37 (0, 0))) := by
      have h := ho.out
      rw [hk8, show 4 * 8 = SF.out.length by rw [out_len], partB_full, <- HL2.out] at h
      exact h
     have HLS : Hid ((sumN l).length = 32) := sum_len l
     have HZR : Hid (wr.heap[w.heap.size]? = some (.cells (bA (List.replicate 32 0)) 37 (0, 0))) := (hbx.out.block _ HLT.out).trans HZ4.out
     have HBF : Hid (Below w.heap.size w wr) := HBE4.out.trans (hbx.out.mono (Nat.le_of_lt HLT.out))
     clear ho hk8 hk hlt hbx;go_wp2_with (first
      | (refine wpList_load_row rfl 37 (.tmp 6) rfl ob rfl _ _ _ _ HZ.out Tryz.underlying37 rfl (by rw [info31, bA_size, HLS.out]) ?_)
      | (refine wpList_store_row rfl 37 (.tmp 2) (.tmp 62) rfl w.heap.size (bA (sumN l)) rfl rfl 37 _ HZR.out (by rw [info31, bA_size, HLS.out]) (by rw [bA_size, bA_size, HLS.out, List.length_replicate]) (bA_oneS _) ?_)
      | fail)
     exact bodyPost_ret (results_cell_row rfl _ _ w.heap.size 37 (bA (sumN l)) (0, 0) _ rfl (setRow_heap _ _ _ _ _ _ HZR.out) Tryz.underlying37 rfl (by rw [info31, bA_size, HLS.out])) rfl ⟨rfl, below_setRow HBF.out (Nat.le_refl _) _⟩
end Go.Proofs.YtnmdjggdgakeoaaGreat
