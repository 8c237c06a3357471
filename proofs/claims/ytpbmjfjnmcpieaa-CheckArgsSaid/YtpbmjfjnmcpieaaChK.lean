/- package handle: Parse. -/
import Derived.Test.YtpbmjfjnmcpieaaChJ
set_option linter.unusedVariables false
set_option linter.unusedSimpArgs false
namespace Go.Proofs.Ytpbmjfjnmcpieaa
open Go Go.RowKit
def hdN (b : List Nat) : Nat := leN (b.take 8)
def hdL (b : List Nat) : List Nat := (List.range 16).map fun k => leN ((b.drop (8 + 8 * k)).take 8)
theorem hdL_len (b : List Nat) : (hdL b).length = 16 := by simp [hdL]
theorem hdL_get (b : List Nat) (k : Nat) (h : k < 16) : (hdL b).getD k 0 = leN ((b.drop (8 + 8 * k)).take 8) := by simp [hdL, h]
theorem le8_lt (b : List Nat) (h : ∀ x ∈ b, x < 256) : leN (b.take 8) < 18446744073709551616 := by
  have h1 := leN_lt (b.take 8) (fun x hx => h x (List.mem_of_mem_take hx))
  have h2 : 2 ^ (8 * (b.take 8).length) ≤ 2 ^ 64 := Nat.pow_le_pow_right (by decide) (by rw [List.length_take]; omega)
  exact Nat.lt_of_lt_of_le h1 h2
theorem hdL_lt (b : List Nat) (h : ∀ x ∈ b, x < 256) : ∀ x ∈ hdL b, x < 18446744073709551616 := by
  intro x hx
  unfold hdL at hx
  obtain ⟨k, _, rfl⟩ := List.mem_map.1 hx
  exact le8_lt _ fun y hy => h y (List.mem_of_mem_drop hy)
/-- a block's head -/
def headN (b : List Nat) : Option (Nat × List Nat) :=
  if zeroB b then some (1, List.replicate 16 0) else if rightR (hdN b) (hdL b) && decide (b = rtBytes (hdN b) (hdL b)) then some (hdN b, hdL b) else none
def headV : Option (Nat × List Nat) → Value
  | none => .tuple #[.agg (rtA 0 (List.replicate 16 0)), .int .i64 4]
  | some (n, L) => .tuple #[.agg (rtA n L), .int .i64 0]
theorem rtA_one (n : Nat) (L : List Nat) : (rtA n L).all (·.oneCell') = true := by
  rw [← Array.all_toList]; simp [rtA, Value.oneCell']
theorem rt_set (n : Nat) (L : List Nat) (h : L.length = 16) (k : Nat) (hk : k < 16) : (rtA n (partB L k)).setIfInBounds (1 + k) (.int .u64 ((L.getD k 0 : Nat) : Int)) = rtA n (partB L (k + 1)) := by
  rw [← partB_set L k (by omega)]
  unfold rtA
  rw [List.setIfInBounds_toArray, Nat.add_comm 1 k, List.set_cons_succ, List.map_set]
theorem rtA_get (n : Nat) (L : List Nat) (k : Nat) (h : k < L.length) : (rtA n L)[1 + k]? = some (.int .u64 ((L.getD k 0 : Nat) : Int)) := by
  unfold rtA
  rw [List.getElem?_toArray, Nat.add_comm 1 k, List.getElem?_cons_succ, List.getElem?_map, List.getD_eq_getElem?_getD, List.getElem?_eq_getElem h]; rfl
theorem next8 (b : List Nat) (j : Nat) (h : j + 8 ≤ b.length) : nextN 8 (b.drop j) 0 = (b.drop j).take 8 ∧ restN 8 (b.drop j) 0 = b.drop (j + 8) ∧ errN 8 (b.drop j) 0 = 0 := by
  have : ¬ (b.drop j).length < 8 := by rw [List.length_drop]; omega
  unfold nextN restN errN
  simp only [if_true, if_neg this, List.drop_drop]
  exact ⟨trivial, trivial, trivial⟩
theorem RowIs.farG {w w' : World} {rb : Nat} {l : List Nat} {err : Int} (h : RowIs w rb l err) (hb : Below (rb + 1) w w') : RowIs w' rb l err := by
  obtain ⟨v, h1, h2⟩ := h
  exact ⟨v, (hb.block _ (Nat.lt_succ_self _)).trans h1, h2.up (hb.mono (Nat.le_succ _))⟩
set_option maxRecDepth 100000 in
set_option maxHeartbeats 8000000 in
theorem hparse_c (va : Option Addr) (vc m : Nat) (b : List Nat) (hlen : b.length = 256) (hm : m = 256) (w : World) (hv : SlAt w (.slice va m vc) b) :
    Calls Try.prog 27 #[.slice va m vc] w fun e w' => e = .returned (headV (headN b)) ∧ Below w.heap.size w w' := by
  have hbb : BytesAt w va vc b := by
    obtain ⟨a, c, h1, h2, _⟩ := hv
    cases h1; exact h2
  have HLT := Lib.hid hbb.1
  have HZ0 : Hid ((w.alloc (.cells #[.int .u64 0, .int .u64 0, .int .u64 0, .int .u64 0, .int .u64 0, .int .u64 0, .int .u64 0, .int .u64 0, .int .u64 0, .int .u64 0, .int .u64 0, .int .u64 0, .int .u64 0, .int .u64 0, .int .u64 0, .int .u64 0, .int .u64 0] 49)).heap[w.heap.size]? = some (.cells (rtA 0 (List.replicate 16 0)) 49 (0, 0))) := heap_new' _ _
  have HE0 : Hid (Below w.heap.size w (w.alloc (.cells #[.int .u64 0, .int .u64 0, .int .u64 0, .int .u64 0, .int .u64 0, .int .u64 0, .int .u64 0, .int .u64 0, .int .u64 0, .int .u64 0, .int .u64 0, .int .u64 0, .int .u64 0, .int .u64 0, .int .u64 0, .int .u64 0, .int .u64 0] 49))) := below_box _ _
  have HV0 := Lib.hid (hv.up HE0.out (Nat.le_refl _))
  have HB0 := Lib.hid (hbb.up HE0.out (Nat.le_refl _))
  have HM := Lib.hid hm
  have HLN := Lib.hid hlen
  have dm : ((m : Int) == 256) = true := by rw [hm]; rfl
  obtain ⟨z, hz⟩ : ∃ z, z = zeroB b := ⟨_, rfl⟩
  have HZR : Hid (∀ w, BytesAt w va vc b → Calls Try.prog 36 #[.slice va m vc] w fun e w' => e = .returned (.bool z) ∧ w = w') := fun w h => by rw [hz]; exact zero_c va m vc b (by omega) (by omega) w h
  have HZZ := Lib.hid hz
  clear hbb hv hm hlen hz
  go_enter Try.func27, Try.ntmps27
  go_wp2_with fail
  generalize w.alloc (.cells #[.int .u64 0, .int .u64 0, .int .u64 0, .int .u64 0, .int .u64 0, .int .u64 0, .int .u64 0, .int .u64 0, .int .u64 0, .int .u64 0, .int .u64 0, .int .u64 0, .int .u64 0, .int .u64 0, .int .u64 0, .int .u64 0, .int .u64 0] 49) = w0 at *
  refine (HZR.out w0 HB0.out).mono ?_
  rintro e w1 ⟨rfl, rfl⟩
  clear HZR
  cases z with
  | true =>
    have HH : Hid (headN b = some (1, List.replicate 16 0)) := by show _ = _; unfold headN; rw [← HZZ.out, if_pos rfl]
    go_wp2_with (first
      | (refine wpList_store_row rfl 49 (.tmp 2) (.tmp 16) rfl w.heap.size (rtA 1 (List.replicate 16 0)) rfl rfl 49 _ HZ0.out (by rw [roots17]; rfl) rfl (rtA_one _ _) ?_)
      | fail)
    refine bodyPost_ret (results_row_tmp rfl _ _ w.heap.size _ (rtA 1 (List.replicate 16 0)) (0, 0) _ rfl (setRow_heap _ _ _ _ _ _ HZ0.out) Try.underlying49 rfl (by rw [roots17]; rfl)) rfl ?_
    exact ⟨by rw [HH.out]; rfl, below_setRow HE0.out (Nat.le_refl _) _⟩
  | false =>
    go_wp2_with fail
    have hlm : b.length = m := by rw [HLN.out, HM.out]
    refine (rowof_c (.slice va m vc) b (by rw [HLN.out]; omega) w0 HV0.out).mono ?_
    rintro e w2 ⟨rb, rfl, hrb, hr2, hb2⟩
    have HRB : Hid (w.heap.size < rb) := Nat.lt_of_lt_of_le (lt_of_block HZ0.out) hrb
    have HZ2 := Lib.hid ((hb2.block _ (lt_of_block HZ0.out)).trans HZ0.out)
    have HE2 : Hid (Below w.heap.size w w2) := HE0.out.trans (hb2.mono HE0.out.size)
    have HB2 := Lib.hid (HB0.out.up hb2 (Nat.le_refl _))
    have HR2 : Hid (RowIs w2 rb (b.drop 0) 0) := hr2
    have HVB : Hid (∀ g o, va = some ⟨g, o, none⟩ → g < rb) := fun g o h => by
      obtain ⟨g', o', e1, _, e3, _⟩ := HB0.out.2 (by rw [HLN.out]; omega)
      rw [h] at e1; cases e1; exact Nat.lt_of_lt_of_le e3 hrb
    clear hrb hr2 hb2 HZ0 HE0 HV0
    go_wp2_with fail
    refine (num_c rb 8 (by omega) (by omega) 8 rfl (b.drop 0) (by rw [List.length_drop, HLN.out]; omega) 0 w2 HR2.out).mono ?_
    rintro e w3 ⟨rfl, hr3, hs3⟩
    obtain ⟨e1, e2, e3⟩ := next8 b 0 (by rw [HLN.out]; omega)
    rw [e2, e3] at hr3
    rw [e1]
    obtain ⟨n, hn⟩ : ∃ n, n = hdN b := ⟨_, rfl⟩
    have hnn : leN ((b.drop 0).take 8) = n := hn.symm
    rw [hnn]
    have HN : Hid (n = hdN b ∧ n < 18446744073709551616) := ⟨hn, by rw [hn]; exact le8_lt b HLT.out⟩
    have HR3 : Hid (RowIs w3 rb (b.drop (8 + 8 * 0)) 0) := hr3
    have HZ3 := Lib.hid ((hs3.2 _ (lt_of_block HZ2.out) (by have := HRB.out; omega)).trans HZ2.out)
    have HE3 : Hid (Below w.heap.size w w3) := HE2.out.trans (hs3.1.mono (Nat.le_of_lt HRB.out))
    have HB3 : Hid (BytesAt w3 va vc b) := bytes_keep HB2.out (fun g o h hg => hs3.1.block g (HVB.out g o h))
    clear hn hnn e1 e2 e3 hr3 hs3 HR2 HZ2 HE2 HB2
    obtain ⟨L, hL⟩ : ∃ L, L = hdL b := ⟨_, rfl⟩
    have HL : Hid (L = hdL b ∧ L.length = 16 ∧ ∀ x ∈ L, x < 18446744073709551616) := ⟨hL, by rw [hL]; exact hdL_len b, by rw [hL]; exact hdL_lt b HLT.out⟩
    have HRL : Hid (rb < w3.heap.size) := by obtain ⟨v, hv, _⟩ := HR3.out; exact lt_of_block hv
    have hb4 := below_box w3 (.cells #[.int .u64 (n : Int), .int .u64 0, .int .u64 0, .int .u64 0, .int .u64 0, .int .u64 0, .int .u64 0, .int .u64 0, .int .u64 0, .int .u64 0, .int .u64 0, .int .u64 0, .int .u64 0, .int .u64 0, .int .u64 0, .int .u64 0, .int .u64 0] 49)
    have HR4 : Hid (RowIs (w3.alloc (.cells #[.int .u64 (n : Int), .int .u64 0, .int .u64 0, .int .u64 0, .int .u64 0, .int .u64 0, .int .u64 0, .int .u64 0, .int .u64 0, .int .u64 0, .int .u64 0, .int .u64 0, .int .u64 0, .int .u64 0, .int .u64 0, .int .u64 0, .int .u64 0] 49)) rb (b.drop (8 + 8 * 0)) 0) := HR3.out.farG (hb4.mono HRL.out)
    have HZ4 := Lib.hid ((hb4.block _ (lt_of_block HZ3.out)).trans HZ3.out)
    have HE4 := Lib.hid (HE3.out.trans (hb4.mono HE3.out.size))
    have HB4 := Lib.hid (HB3.out.up hb4 (Nat.le_refl _))
    have HP4 : Hid ((w3.alloc (.cells #[.int .u64 (n : Int), .int .u64 0, .int .u64 0, .int .u64 0, .int .u64 0, .int .u64 0, .int .u64 0, .int .u64 0, .int .u64 0, .int .u64 0, .int .u64 0, .int .u64 0, .int .u64 0, .int .u64 0, .int .u64 0, .int .u64 0, .int .u64 0] 49)).heap[w3.heap.size]? = some (.cells (rtA n (partB L 0)) 49 (0, 0))) := by
      show _ = _; rw [partB_zero, HL.out.2.1]; exact heap_new' _ _
    clear hL hb4 HR3 HZ3 HE3 HB3
    go_wp2_with fail
    generalize hpb : w3.heap.size = pb at *
    generalize w3.alloc (.cells #[.int .u64 (n : Int), .int .u64 0, .int .u64 0, .int .u64 0, .int .u64 0, .int .u64 0, .int .u64 0, .int .u64 0, .int .u64 0, .int .u64 0, .int .u64 0, .int .u64 0, .int .u64 0, .int .u64 0, .int .u64 0, .int .u64 0, .int .u64 0] 49) = w4 at *
    go_loopw [23] (fun vi wr => ∃ k : Nat, k ≤ 16 ∧ vi = .int .i64 (k : Int) ∧ Hid (wr.heap[pb]? = some (.cells (rtA n (partB L k)) 49 (0, 0))) ∧ Hid (RowIs wr rb (b.drop (8 + 8 * k)) 0) ∧ Hid (wr.heap[w.heap.size]? = some (.cells (rtA 0 (List.replicate 16 0)) 49 (0, 0))) ∧ Hid (BytesAt wr va vc b) ∧ Hid (Below w.heap.size w wr)) (fun vi _ => 16 - (intOf vi).toNat)
    case atStart => exact ⟨0, by omega, rfl, HP4.out, HR4.out, HZ4.out, HB4.out, HE4.out⟩
    case round =>
      clear HP4 HR4 HZ4 HE4 HB4
      obtain ⟨k, hk, rfl, hp, hr, hz, hbb, hbel⟩ := hrel
      by_cases hlt : k < 16
      · have hd : decide ((k : Int) < 16) = true := by simp; omega
        have dl : (k : Int) < 16 := by omega
        have dk0 : ¬ (k : Int) < 0 := by omega
        have HK := Lib.hid hlt
        obtain ⟨e1, e2, e3⟩ := next8 b (8 + 8 * k) (by rw [HLN.out]; omega)
        obtain ⟨q, hq⟩ : ∃ q, q = L.getD k 0 := ⟨_, rfl⟩
        have hqq : leN (nextN 8 (b.drop (8 + 8 * k)) 0) = q := by rw [e1, hq, HL.out.1, hdL_get _ _ hlt]
        have HQ := Lib.hid hq
        have HN8 : Hid (restN 8 (b.drop (8 + 8 * k)) 0 = b.drop (8 + 8 * (k + 1)) ∧ errN 8 (b.drop (8 + 8 * k)) 0 = 0) := ⟨by rw [e2]; congr 1, e3⟩
        have HQQ := Lib.hid hqq
        clear hq hqq hlt e1 e2 e3 hk
        go_wp2_with fail
        refine (num_c rb 8 (by omega) (by omega) 8 rfl (b.drop (8 + 8 * k)) (by rw [List.length_drop, HLN.out]; omega) 0 wr hr.out).mono ?_
        rintro e w5 ⟨rfl, hr5, hs5⟩
        rw [HN8.out.1, HN8.out.2] at hr5
        rw [HQQ.out]
        have hp5 := (hs5.2 _ (lt_of_block hp.out) (by have := HRL.out; omega)).trans hp.out
        have hz5 := (hs5.2 _ (lt_of_block hz.out) (by have := HRB.out; omega)).trans hz.out
        have hb5 : BytesAt w5 va vc b := bytes_keep hbb.out (fun g o h hg => hs5.1.block g (HVB.out g o h))
        have f5 := free_at hp5 (1 + k)
        have c5 := (cells_at hp5 (1 + k)).trans (rtA_get _ _ k (by rw [partB_len _ _ (by rw [HL.out.2.1]; omega), HL.out.2.1]; exact HK.out))
        have nb := block_at hp5 (1 + k) (.int .u64 ((L.getD k 0 : Nat) : Int))
        rw [rt_set n L HL.out.2.1 k HK.out, ← HQ.out] at nb
        have HN1 := Lib.hid nb
        have hbs : Below (rb + 1) w5 (w5.setCell ⟨pb, 1 + k, none⟩ (.int .u64 (q : Int))) := (Below.refl _ _).setCell (by have := HRL.out; show rb + 1 ≤ pb; omega) _
        have HN2 : Hid (RowIs (w5.setCell ⟨pb, 1 + k, none⟩ (.int .u64 (q : Int))) rb (b.drop (8 + 8 * (k + 1))) 0) := RowIs.farG hr5 hbs
        have HN3 := Lib.hid ((hbs.block _ (by have := HRB.out; omega)).trans hz5)
        have HN5 : Hid (BytesAt (w5.setCell ⟨pb, 1 + k, none⟩ (.int .u64 (q : Int))) va vc b) := bytes_keep hb5 (fun g o h hg => hbs.block g (by have := HVB.out g o h; omega))
        have HN4 : Hid (Below w.heap.size w (w5.setCell ⟨pb, 1 + k, none⟩ (.int .u64 (q : Int)))) := (hbel.out.trans (hs5.1.mono (Nat.le_of_lt HRB.out))).trans (hbs.mono (by have := HRB.out; omega))
        clear nb hbs hp5 hz5 hr5 hs5 hb5 hp hr hz hbb hbel
        go_wp2
        go_roundw
        case rel => exact ⟨k + 1, by have := HK.out; omega, by go_num, HN1.out, HN2.out, HN3.out, HN5.out, HN4.out⟩
        case measure => simp [intOf]; have := HK.out; omega
      · have hk16 : k = 16 := by omega
        have hd : decide ((k : Int) < 16) = false := by simp; omega
        have dl : ¬ (k : Int) < 16 := by omega
        have hp6 := hp.out
        rw [hk16, show (16 : Nat) = L.length from HL.out.2.1.symm, partB_full] at hp6
        have HP6 := Lib.hid hp6
        clear hp hp6 hr hk16 hk hlt
        go_wp2_with (first
          | (refine wpList_load_row rfl 49 (.tmp 5) rfl pb rfl _ _ _ _ HP6.out Try.underlying49 rfl (by rw [roots17, rtA_size, HL.out.2.1]) ?_)
          | fail)
        have HPZ : Hid (w.heap.size ≠ pb) := by have := HRB.out; have := HRL.out; show _ ≠ _; omega
        by_cases hrt : rightR n L = true
        · refine (rtbytes_yes n L HL.out.2.1 HL.out.2.2 hrt wr).mono ?_
          rintro e w7 ⟨⟨b7, rfl, hq7, hz7, hblk7⟩, hb7⟩
          have HZ7 := Lib.hid ((hb7.block _ (lt_of_block hz.out)).trans hz.out)
          have HP7 := Lib.hid ((hb7.block _ (lt_of_block HP6.out)).trans HP6.out)
          have HE7 : Hid (Below w.heap.size w w7) := hbel.out.trans (hb7.mono hbel.out.size)
          have hbz := bytesAt_block (rtBytes_lt n L) hblk7
          rw [rtBytes_len] at hbz
          obtain ⟨y, hy⟩ : ∃ y, y = decide (b = rtBytes n L) := ⟨_, rfl⟩
          have HQ7 : Hid (Calls Try.prog 49 #[.slice va m vc, .slice (some ⟨b7, 0, none⟩) 256 256] w7 fun e w' => e = .returned (.bool y) ∧ w7 = w') := by
            show Calls _ _ _ _ _
            rw [hy]
            exact equal2_c va (some ⟨b7, 0, none⟩) vc 256 m 256 b (rtBytes n L) hlm (rtBytes_len n L) w7 (hbb.out.up hb7 (Nat.le_refl _)) hbz
          have HHH : Hid (headN b = if y then some (n, L) else none) := by
            show _ = _
            unfold headN
            rw [← HZZ.out, if_neg (by simp), ← HN.out.1, ← HL.out.1, hrt, Bool.true_and, hy]
          clear hb7 hbel hz HP6 hbb hblk7 hbz hq7 hz7 hrt hy
          go_wp2_with fail
          refine HQ7.out.mono ?_
          rintro e w8 ⟨rfl, rfl⟩
          cases y with
          | true =>
            have HH : Hid (headN b = some (n, L)) := HHH.out
            go_wp2_with (first
              | (refine wpList_load_row rfl 49 (.tmp 5) rfl pb rfl _ _ _ _ HP7.out Try.underlying49 rfl (by rw [roots17, rtA_size, HL.out.2.1]) ?_)
              | (refine wpList_store_row rfl 49 (.tmp 2) (.tmp 46) rfl w.heap.size (rtA n L) rfl rfl 49 _ HZ7.out (by rw [roots17, rtA_size, HL.out.2.1]) (by simp [rtA_size, HL.out.2.1]) (rtA_one _ _) ?_)
              | fail)
            refine bodyPost_ret (results_row_tmp rfl _ _ w.heap.size _ (rtA n L) (0, 0) _ rfl (setRow_heap _ _ _ _ _ _ HZ7.out) Try.underlying49 rfl (by rw [roots17, rtA_size, HL.out.2.1])) rfl ?_
            exact ⟨by rw [HH.out]; rfl, below_setRow HE7.out (Nat.le_refl _) _⟩
          | false =>
            have HH : Hid (headN b = none) := HHH.out
            go_wp2_with (first
              | (refine wpList_store_row rfl 49 (.tmp 2) (.tmp 45) rfl w.heap.size (rtA 0 (List.replicate 16 0)) rfl rfl 49 _ HZ7.out (by rw [roots17]; rfl) rfl (rtA_one _ _) ?_)
              | fail)
            refine bodyPost_ret (results_row_tmp rfl _ _ w.heap.size _ (rtA 0 (List.replicate 16 0)) (0, 0) _ rfl (setRow_heap _ _ _ _ _ _ HZ7.out) Try.underlying49 rfl (by rw [roots17]; rfl)) rfl ?_
            exact ⟨by rw [HH.out]; rfl, below_setRow HE7.out (Nat.le_refl _) _⟩
        · have hrf : rightR n L = false := by simpa using hrt
          have HH : Hid (headN b = none) := by
            show _ = _
            unfold headN
            rw [← HZZ.out, if_neg (by simp), ← HN.out.1, ← HL.out.1, hrf, Bool.false_and, if_neg (by simp)]
          by_cases h0 : n = 0 ∧ L = List.replicate 16 0
          · have hcz := rtbytes_zero wr
            rw [← h0.2] at hcz
            have hn0 := h0.1
            subst hn0
            refine hcz.mono ?_
            rintro e w7 ⟨⟨b7, rfl, hq7, hz7, hblk7⟩, hb7⟩
            have HZ7 := Lib.hid ((hb7.block _ (lt_of_block hz.out)).trans hz.out)
            have HE7 : Hid (Below w.heap.size w w7) := hbel.out.trans (hb7.mono hbel.out.size)
            obtain ⟨Z, hZ⟩ : ∃ Z : List Nat, Z = List.replicate 256 0 := ⟨_, rfl⟩
            rw [← hZ] at hblk7
            have hZl : Z.length = 256 := by rw [hZ]; simp
            have hbz := bytesAt_block (l := Z) (fun x hx => by rw [hZ] at hx; have := (List.mem_replicate.1 hx).2; omega) hblk7
            rw [hZl] at hbz
            have hne : decide (b = Z) = false := by
              rw [decide_eq_false_iff_not]
              intro h
              have h1 := HZZ.out
              rw [h, hZ] at h1
              have h2 := (zeroB_rep (List.replicate 256 0)).2 (by rw [List.length_replicate])
              rw [h2] at h1; cases h1
            have HQ7 : Hid (Calls Try.prog 49 #[.slice va m vc, .slice (some ⟨b7, 0, none⟩) 256 256] w7 fun e w' => e = .returned (.bool false) ∧ w7 = w') := by
              show Calls _ _ _ _ _
              rw [← hne]
              exact equal2_c va (some ⟨b7, 0, none⟩) vc 256 m 256 b Z hlm hZl w7 (hbb.out.up hb7 (Nat.le_refl _)) hbz
            clear hb7 hbel hz HP6 hbb hblk7 hbz hq7 hz7 hrt hrf hcz h0 hZ hZl hne
            go_wp2_with fail
            refine HQ7.out.mono ?_
            rintro e w8 ⟨rfl, rfl⟩
            go_wp2_with (first
              | (refine wpList_store_row rfl 49 (.tmp 2) (.tmp 45) rfl w.heap.size (rtA 0 (List.replicate 16 0)) rfl rfl 49 _ HZ7.out (by rw [roots17]; rfl) rfl (rtA_one _ _) ?_)
              | fail)
            refine bodyPost_ret (results_row_tmp rfl _ _ w.heap.size _ (rtA 0 (List.replicate 16 0)) (0, 0) _ rfl (setRow_heap _ _ _ _ _ _ HZ7.out) Try.underlying49 rfl (by rw [roots17]; rfl)) rfl ?_
            exact ⟨by rw [HH.out]; rfl, below_setRow HE7.out (Nat.le_refl _) _⟩
          · refine (rtbytes_no n L HL.out.2.1 HN.out.2 HL.out.2.2 hrf h0 wr).mono ?_
            rintro e w7 ⟨rfl, hb7⟩
            have HZ7 := Lib.hid ((hb7.block _ (lt_of_block hz.out)).trans hz.out)
            have HE7 : Hid (Below w.heap.size w w7) := hbel.out.trans (hb7.mono hbel.out.size)
            clear hb7 hbel hz HP6 hbb hrt hrf h0
            go_wp2_with (first
              | (refine wpList_store_row rfl 49 (.tmp 2) (.tmp 45) rfl w.heap.size (rtA 0 (List.replicate 16 0)) rfl rfl 49 _ HZ7.out (by rw [roots17]; rfl) rfl (rtA_one _ _) ?_)
              | fail)
            refine bodyPost_ret (results_row_tmp rfl _ _ w.heap.size _ (rtA 0 (List.replicate 16 0)) (0, 0) _ rfl (setRow_heap _ _ _ _ _ _ HZ7.out) Try.underlying49 rfl (by rw [roots17]; rfl)) rfl ?_
            exact ⟨by rw [HH.out]; rfl, below_setRow HE7.out (Nat.le_refl _) _⟩
end Go.Proofs.Ytpbmjfjnmcpieaa
