/- The reference's Pad. -/
import Derived.Test.YthpglpnonecnfaaShaJ
set_option linter.unusedVariables false
set_option linter.unusedSimpArgs false
namespace Go.Proofs.Ythpglpnonecnfaa
open Go Go.RowKit Sha
/-- the last j bytes of eight -/
def padW (N j : Nat) : List Nat := List.replicate (8 - j) 0 ++ (highB 8 N).drop (8 - j)
theorem padW_set (N j : Nat) (h : j < 8) : (padW N j).set (7 - j) (N / 2 ^ (8 * j) % 256) = padW N (j + 1) := by
  rcases (by omega : j = 0 ∨ j = 1 ∨ j = 2 ∨ j = 3 ∨ j = 4 ∨ j = 5 ∨ j = 6 ∨ j = 7) with rfl | rfl | rfl | rfl | rfl | rfl | rfl | rfl <;>
    simp [padW, highB, upB, List.range, List.range.loop, List.replicate]
theorem padW_len (N j : Nat) (h : j ≤ 8) : (padW N j).length = 8 := by
  unfold padW
  rw [List.length_append, List.length_replicate, List.length_drop, highB_len]; omega
theorem padW_full (N : Nat) : padW N 8 = highB 8 N := by simp [padW]
theorem padW_zero (N : Nat) : padW N 0 = List.replicate 8 0 := by
  unfold padW
  rw [List.drop_of_length_le (by rw [highB_len]; exact Nat.le_refl _), List.append_nil]
theorem div_next (N j : Nat) : N / 2 ^ (8 * j) / 256 = N / 2 ^ (8 * (j + 1)) := by
  rw [Nat.div_div_eq_div_mul, show (256 : Nat) = 2 ^ 8 from rfl, ← Nat.pow_add]
  rfl
set_option maxRecDepth 100000 in
set_option maxHeartbeats 4000000 in
theorem rpad_c (n : Nat) (hn : n ≤ 900000) (w : World) :
    Calls Try.prog 21 #[.int .i64 (n : Int)] w fun e w' => ∃ v, e = .returned v ∧ w'.ownsRow w.heap.size 5 1 v (padL n).length (bA (padL n)).toList ∧ Below w.heap.size w w' := by
  obtain ⟨z, hz⟩ : ∃ z, z = (119 - n % 64) % 64 := ⟨_, rfl⟩
  have HZ := Lib.hid hz
  have HN := Lib.hid hn
  have H0 : Hid ((w.alloc (.cells #[.int .u8 128] 5)).ownsRow w.heap.size 5 1 (.slice (some ⟨w.heap.size, 0, none⟩) (1 + 0) 1) (1 + 0) (bA (128 :: List.replicate 0 0)).toList) :=
    ⟨rfl, .inr ⟨w.heap.size, 1, _, rfl, Nat.le_refl _, heap_new' _ _, Nat.le_refl _, by unfold maxLen; omega, rfl, rfl⟩⟩
  have HB0 : Hid (Below w.heap.size w (w.alloc (.cells #[.int .u8 128] 5))) := (Below.refl _ _).alloc (Nat.le_refl _) _
  clear hz hn
  go_enter Try.func21, Try.ntmps21
  go_wp2
  go_loopw [3] (fun v wr => ∃ k : Nat, k ≤ z ∧ ∃ a cap, v = .slice a (1 + k) cap ∧ Hid (wr.ownsRow w.heap.size 5 1 v (1 + k) (bA (128 :: List.replicate k 0)).toList) ∧ Hid (Below w.heap.size w wr)) (fun v _ => 100 - lenV v)
  case atStart => exact ⟨0, by omega, _, _, rfl, H0.out, HB0.out⟩
  case round =>
    clear H0 HB0
    obtain ⟨k, hk, a, cap, rfl, hown, hbel⟩ := hrel
    obtain ⟨k1, hk1⟩ : ∃ k1, k1 = 1 + k := ⟨_, rfl⟩
    obtain ⟨s, hs⟩ : ∃ s, s = n + k1 := ⟨_, rfl⟩
    have hzz := HZ.out
    have hnn := HN.out
    have es : IntKind.i64.wrap ((n : Int) + (k1 : Int)) = (s : Int) := by rw [IntWalk.i64_in _ (by omega)]; omega
    rw [← hk1] at hown ⊢
    by_cases hlt : k < z
    · have hd : ¬ ((s : Int) % 64 = 56) := by omega
      have HK := Lib.hid hlt
      have HK1 := Lib.hid hk1
      have HZ64 : Hid (z ≤ 63) := by show _ ≤ _; omega
      have HBN : Hid (BytesAt (wr.alloc (.cells #[.int .u8 0] 5)) (some ⟨wr.heap.size, 0, none⟩) 1 [0]) := bytesAt_block (l := [0]) (by simp) (heap_new' _ _)
      have HOWN : Hid ((wr.alloc (.cells #[.int .u8 0] 5)).ownsRow w.heap.size 5 1 (.slice a k1 cap) k1 (bA (128 :: List.replicate k 0)).toList) := World.ownsRow.alloc hown.out _
      have HBE : Hid (Below w.heap.size w (wr.alloc (.cells #[.int .u8 0] 5))) := hbel.out.alloc hbel.out.size _
      clear hzz hnn hs hk1 hown hlt hk
      go_wp2_with (first
        | (refine wpList_append_bytes (v := .slice a k1 cap) (base := w.heap.size) (n := k1) (m := 1) (l := [0]) rfl (.tmp 14) (.tmp 15) rfl rfl HOWN.out rfl rfl HBN.out (fun h => by cases h) (by have := HK1.out; have := HK.out; have := HZ64.out; omega) HBE.out.size ?_; intro v3 w3 hown3 hgr3; have HOWN3 : Hid (w3.ownsRow w.heap.size 5 1 v3 (1 + (k + 1)) (bA (128 :: List.replicate (k + 1) 0)).toList) := (by have h := hown3; rw [bA_app, HK1.out] at h; have e : (128 :: List.replicate k 0) ++ [0] = 128 :: List.replicate (k + 1) 0 := (by rw [List.replicate_succ']; rfl); rw [e] at h; exact h); have HB3 : Hid (Below w.heap.size w w3) := HBE.out.grown hgr3 HBE.out.size (fun k hk => (HOWN.out.lt k hk).1); obtain ⟨a3, cap3, hv3, _⟩ := own_bytes (by intro x hx; rcases List.mem_cons.1 hx with h | h; omega; rw [(List.mem_replicate.1 h).2]; omega) HOWN3.out; subst hv3; clear hown3 hgr3)
        | fail)
      go_roundw
      case rel => exact ⟨k + 1, by have := HK.out; omega, a3, cap3, rfl, HOWN3.out, HB3.out⟩
      case measure => simp [lenV]; have := HK.out; have := HK1.out; have := HZ64.out; omega
    · have hkz : k = z := by omega
      have hd : (s : Int) % 64 = 56 := by omega
      obtain ⟨m, hm⟩ : ∃ m, m = 8 * n := ⟨_, rfl⟩
      have eu : IntKind.u64.wrap (IntKind.u64.wrap (n : Int) * 8) = (m : Int) := by simp only [IntKind.wrap_u64]; omega
      have eu0 : IntKind.u64.wrap (n : Int) = (n : Int) := by rw [IntKind.wrap_u64]; omega
      have eu1 : IntKind.u64.wrap ((n : Int) * 8) = (m : Int) := by simp only [IntKind.wrap_u64]; omega
      have HM := Lib.hid hm
      have HKZ : Hid (k1 = 1 + z) := by show _ = _; rw [hk1, hkz]
      have hmk : ∀ w : World, (Instr.makeSlice 27 (.int .i64 8) (.int .i64 8)).run Try.prog w = .ok (.slice (some ⟨w.heap.size, 0, none⟩) 8 8) (w.alloc (.cells (bA [0, 0, 0, 0, 0, 0, 0, 0]) 5)) := fun w => mk_bytes 8 (by omega) w
      have HW8 : Hid ((wr.alloc (.cells (bA [0, 0, 0, 0, 0, 0, 0, 0]) 5)).heap[wr.heap.size]? = some (.cells (bA (padW m 0)) 5 (0, 0))) := by
        show _ = _; rw [heap_new', padW_zero]; rfl
      have HOWN : Hid ((wr.alloc (.cells (bA [0, 0, 0, 0, 0, 0, 0, 0]) 5)).ownsRow w.heap.size 5 1 (.slice a k1 cap) k1 (bA (128 :: List.replicate z 0)).toList) := by rw [← hkz]; exact World.ownsRow.alloc hown.out _
      have HBE : Hid (Below w.heap.size w (wr.alloc (.cells (bA [0, 0, 0, 0, 0, 0, 0, 0]) 5))) := hbel.out.alloc hbel.out.size _
      have HNE : Hid ((Value.slice a k1 cap).ownBlock ≠ some wr.heap.size ∧ w.heap.size ≤ wr.heap.size) := ⟨fun h => by have := (hown.out.lt _ h).2; omega, hbel.out.size⟩
      clear hzz hnn hs hk1 hown hlt hk hbel hkz hm
      go_wp2
      generalize wr.alloc (.cells (bA [0, 0, 0, 0, 0, 0, 0, 0]) 5) = w2 at *
      generalize wr.heap.size = pb at *
      clear hmk eu eu0 eu1 es hd
      go_loopw [4, 6] (fun v vi wx => ∃ j : Nat, j ≤ 8 ∧ vi = .int .i64 (7 - (j : Int)) ∧ ∃ q : Nat, Hid (q = m / 2 ^ (8 * j)) ∧ v = .int .u64 (q : Int) ∧ Hid (wx.heap[pb]? = some (.cells (bA (padW m j)) 5 (0, 0))) ∧ Hid (wx.ownsRow w.heap.size 5 1 (.slice a k1 cap) k1 (bA (128 :: List.replicate z 0)).toList) ∧ Hid (Below w.heap.size w wx)) (fun _ vi _ => (intOf vi + 1).toNat)
      case atStart => exact ⟨0, by omega, rfl, m, by simp [Hid], rfl, HW8.out, HOWN.out, HBE.out⟩
      case round =>
        clear HW8 HOWN HBE
        obtain ⟨j, hj, rfl, q, hq, rfl, hpb, hown, hbel⟩ := hrel
        by_cases hlt : j < 8
        · obtain ⟨i, hi⟩ : ∃ i, i = 7 - j := ⟨_, rfl⟩
          have ei : (7 - (j : Int)) = (i : Int) := by omega
          rw [ei]
          have d1 : (0 : Int) ≤ (i : Int) := by omega
          have d2 : (i : Int) < 8 := by omega
          have d3 : ¬ (i : Int) < 0 := by omega
          have hqm : q ≤ m := by rw [hq.out]; exact Nat.div_le_self _ _
          have hm9 : m ≤ 7200000 := by have := HM.out; have := HN.out; omega
          obtain ⟨c, hc⟩ : ∃ c, c = q % 256 := ⟨_, rfl⟩
          obtain ⟨q2, hq2⟩ : ∃ c, c = q / 256 := ⟨_, rfl⟩
          have ec : (q : Int) % 256 = (c : Int) := by omega
          have ec2 : IntKind.u8.wrap (c : Int) = (c : Int) := by rw [IntKind.wrap_u8]; omega
          have eq2 : (q : Int) / 256 = (q2 : Int) := by omega
          have eq3 : IntKind.u64.wrap (q2 : Int) = (q2 : Int) := by rw [IntKind.wrap_u64]; omega
          have e6 : IntKind.i64.wrap ((i : Int) - 1) = (i : Int) - 1 := IntWalk.i64_in _ (by omega)
          have f0 := free_at hpb.out i
          have c0 := (cells_at hpb.out i).trans (bA_get (padW m j) i (by rw [padW_len _ _ hj]; omega))
          have nb := block_at hpb.out i (.int .u8 (c : Int))
          have hset : (bA (padW m j)).setIfInBounds i (.int .u8 (c : Int)) = bA (padW m (j + 1)) := by
            rw [← padW_set m j hlt, ← hq.out, ← hc, ← hi]; simp [bA, List.map_set]
          rw [hset] at nb
          have NB := Lib.hid nb
          have HQ2 : Hid (q2 = m / 2 ^ (8 * (j + 1))) := by show _ = _; rw [hq2, hq.out, div_next]
          have HO : Hid ((wr.setCell ⟨pb, i, none⟩ (.int .u8 (c : Int))).ownsRow w.heap.size 5 1 (.slice a k1 cap) k1 (bA (128 :: List.replicate z 0)).toList) := own_keep hown.out (fun k hk => Below.heap_setCell _ _ _ _ (by rintro rfl; exact HNE.out.1 hk))
          have HI := Lib.hid hi
          have HJ := Lib.hid hlt
          clear hset nb hc hq2 hqm hm9 hi ei hj hlt
          go_wp2
          go_roundw
          case rel => exact ⟨j + 1, by have := HJ.out; omega, by have := HI.out; have := HJ.out; congr 1; omega, q2, HQ2.out, rfl, NB.out, HO.out, hbel.out.setCell HNE.out.2 _⟩
          case measure => simp [intOf]; try omega
        · have hj8 : j = 8 := by omega
          have d1 : ¬ (0 : Int) ≤ 7 - (j : Int) := by omega
          have HP8 : Hid (wr.heap[pb]? = some (.cells (bA (highB 8 m)) 5 (0, 0))) := by
            have h := hpb.out; rw [hj8, padW_full] at h; exact h
          clear hpb hj8 hlt hj hq
          go_wp2_with (first
            | (refine wpList_append_bytes (v := .slice a k1 cap) (base := w.heap.size) (n := k1) (m := 8) (l := highB 8 m) rfl (.tmp 33) (.tmp 34) rfl rfl hown.out rfl (highB_len _ _) (bytesAt_block (highB_lt _ _) HP8.out) (fun h => by cases h) (by have := HKZ.out; have := HZ.out; omega) hbel.out.size ?_; intro v3 w3 hown3 hgr3; have HOWN3 := Lib.hid hown3; have HB3 : Hid (Below w.heap.size w w3) := hbel.out.grown hgr3 hbel.out.size (fun k hk => (hown.out.lt k hk).1); clear hown3 hgr3)
            | fail)
          go_ret
          refine ⟨_, rfl, ?_, HB3.out⟩
          have h := HOWN3.out
          have e : padL n = (128 :: List.replicate z 0) ++ highB 8 m := by rw [padL_split, ← HZ.out, ← HM.out]
          rw [e]
          have e2 : ((128 :: List.replicate z 0) ++ highB 8 m).length = k1 + 8 := by have := HKZ.out; simp [highB_len]; omega
          rw [e2]
          simpa [bA] using h
end Go.Proofs.Ythpglpnonecnfaa
