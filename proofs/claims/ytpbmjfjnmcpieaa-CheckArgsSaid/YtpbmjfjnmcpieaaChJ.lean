/- package handle: Roots.Bytes. -/
import Derived.Test.YtpbmjfjnmcpieaaChI
set_option linter.unusedVariables false
set_option linter.unusedSimpArgs false
namespace Go.Proofs.Ytpbmjfjnmcpieaa
open Go Go.RowKit
def numsH (L : List Nat) : List Nat := L.flatMap fun r => lowB 8 r
def rtBody (n : Nat) (L : List Nat) : List Nat := lowB 8 n ++ numsH L
/-- a head's block -/
def rtBytes (n : Nat) (L : List Nat) : List Nat := padB (rtBody n L) 256
theorem numsH_succ (R : List Nat) (k : Nat) (h : k < R.length) : numsH (R.take (k + 1)) = numsH (R.take k) ++ lowB 8 (R.getD k 0) := by
  unfold numsH
  rw [List.take_succ_eq_append_getElem h, List.flatMap_append, List.getD_eq_getElem?_getD, List.getElem?_eq_getElem h]; simp
theorem numsH_len (R : List Nat) : (numsH R).length = 8 * R.length := by
  unfold numsH
  induction R with
  | nil => rfl
  | cons r R ih => rw [List.flatMap_cons, List.length_append, ih, lowB_len, List.length_cons]; omega
theorem numsH_lt (R : List Nat) : ∀ x ∈ numsH R, x < 256 := flat_lt R _ fun a _ => lowB_lt 8 a
theorem rtBody_lt (n : Nat) (L : List Nat) : ∀ x ∈ rtBody n L, x < 256 := app_lt (lowB_lt 8 n) (numsH_lt L)
theorem rtBytes_len (n : Nat) (L : List Nat) : (rtBytes n L).length = 256 := padB_len _ _
theorem rtBytes_lt (n : Nat) (L : List Nat) : ∀ x ∈ rtBytes n L, x < 256 := padB_lt _ _ (rtBody_lt n L)
theorem zeros16 : ∀ x ∈ List.replicate 16 0, x < 18446744073709551616 := fun x hx => by have := (List.mem_replicate.1 hx).2; omega
theorem own_blk {w : World} {base b n : Nat} {l : List Nat} (h : w.heap[b]? = some (.cells (bA l) 5 (0, 0))) (hn : l.length = n) (hm : n ≤ 1000000) (hb : base ≤ b) : w.ownsRow base 5 1 (.slice (some ⟨b, 0, none⟩) n n) n (bA l).toList := by
  refine ⟨by rw [bA_toList_len, hn, Nat.mul_one], .inr ⟨b, n, bA l, rfl, hb, h, Nat.le_refl _, by unfold maxLen; omega, by rw [bA_size, hn, Nat.mul_one], ?_⟩⟩
  rw [List.take_of_length_le (by rw [bA_toList_len, hn, Nat.mul_one]; exact Nat.le_refl _)]
set_option maxRecDepth 100000 in
set_option maxHeartbeats 4000000 in
theorem rtbytes_yes (n : Nat) (L : List Nat) (h16 : L.length = 16) (hL : ∀ x ∈ L, x < 18446744073709551616) (hr : rightR n L = true) (w : World) :
    Calls Try.prog 48 #[.agg (rtA n L)] w fun e w' => (∃ b, e = .returned (.tuple #[.slice (some ⟨b, 0, none⟩) 256 256, .int .i64 0]) ∧ w.heap.size ≤ b ∧ b < w'.heap.size ∧ w'.heap[b]? = some (.cells (bA (rtBytes n L)) 5 (0, 0))) ∧ Below w.heap.size w w' := by
  have hn1 : 0 < n ∧ n ≤ 281474976710656 := by
    unfold rightR at hr
    simp only [Bool.and_eq_true, decide_eq_true_eq] at hr
    exact ⟨hr.1.2, hr.2⟩
  have hblk := heap_new' w (.cells (rtA n L) 49)
  have HBLK := Lib.hid hblk
  have HBE := Lib.hid (below_box w (.cells (rtA n L) 49))
  have HM := Lib.hid (fun w => rtmay_c n L h16 hL w)
  rw [hr] at HM
  have H16 := Lib.hid h16
  have HU := Lib.hid hL
  have HIX := Lib.hid (index_H L h16)
  have HEQ : Hid (∀ w, (binOp .eql 49 (.agg (rtA n L)) (.agg (rtA 0 (List.replicate 16 0)))).run Try.prog w = .ok (.bool false) w) := fun w => by
    rw [eql_roots n 0 L _ h16 (by simp) (by omega) (by omega) hL zeros16 w]
    rw [show decide (n = 0 ∧ L = List.replicate 16 0) = false by simp; omega]
  have HN := Lib.hid hn1
  clear hblk h16 hL hr hn1
  go_enter Try.func48, Try.ntmps48
  go_wp2_with (first
    | (refine wpList_load_row rfl 49 (.tmp 1) rfl w.heap.size rfl _ _ _ _ HBLK.out Try.underlying49 rfl (by rw [roots17, rtA_size, H16.out]) ?_)
    | (refine wpList_eql_agg rfl 49 _ (.tmp 7) (.tmp 8) rfl (rtA n L) (rtA 0 (List.replicate 16 0)) rfl rfl (by kernel_rfl) false (HEQ.out _) ?_)
    | fail)
  generalize w.alloc (.cells (rtA n L) 49) = w0 at *
  refine (HM.out w0).mono ?_
  rintro e w1 ⟨rfl, hb1⟩
  have HB1 := Lib.hid ((hb1.block _ (lt_of_block HBLK.out)).trans HBLK.out)
  have HE1 : Hid (Below w.heap.size w w1) := HBE.out.trans (hb1.mono HBE.out.size)
  have c0 := (cells_at HB1.out 0).trans (show _ = some (Value.int .u64 (n : Int)) from rfl)
  clear hb1 HBLK HBE HEQ HM
  go_wp2_with fail
  refine (put_c 8 n (by have := HN.out.2; omega) (by omega) (by omega) 8 (n : Int) rfl rfl w1).mono ?_
  rintro e w2 ⟨b2, rfl, hb2, hz2, hblk2, hbel2⟩
  have HB2 := Lib.hid ((hbel2.block _ (lt_of_block HB1.out)).trans HB1.out)
  have HE2 : Hid (Below w.heap.size w w2) := HE1.out.trans (hbel2.mono HE1.out.size)
  have HQ2 : Hid (w.heap.size + 1 ≤ b2) := Nat.le_trans (lt_of_block HB1.out) hb2
  have HO2 : Hid (w2.ownsRow (w.heap.size + 1) 5 1 (.slice (some ⟨b2, 0, none⟩) 8 8) 8 (bA (lowB 8 n ++ numsH (L.take 0))).toList) := by
    show World.ownsRow _ _ _ _ _ _ _
    rw [show lowB 8 n ++ numsH (L.take 0) = lowB 8 n by simp [numsH]]
    exact own_blk hblk2 (lowB_len _ _) (by omega) HQ2.out
  have HRR := Lib.hid (rt_roots HB2.out)
  clear hb2 hz2 hblk2 hbel2 HB1 HE1 c0
  go_wp2_with (first
    | (refine wpList_load_mid rfl 47 (.tmp 17) rfl w.heap.size 1 rfl _ _ HRR.out Try.underlying47 rfl (by rw [handles16, List.length_map, H16.out]) ?_)
    | fail)
  go_loopw [4, 19] (fun v vi wr => ∃ k : Nat, k ≤ 16 ∧ vi = .int .i64 (k : Int) ∧ ∃ a m c, v = .slice a m c ∧ Hid (m = 8 + 8 * k) ∧ Hid (wr.ownsRow (w.heap.size + 1) 5 1 (.slice a m c) m (bA (lowB 8 n ++ numsH (L.take k))).toList) ∧ Hid (w.heap.size < wr.heap.size) ∧ Hid (Below w.heap.size w wr)) (fun _ vi _ => 16 - (intOf vi).toNat)
  case atStart => exact ⟨0, by omega, rfl, _, 8, 8, rfl, rfl, HO2.out, lt_of_block HB2.out, HE2.out⟩
  case round =>
    clear HO2 HB2 HE2 HRR HQ2
    obtain ⟨k, hk, rfl, a, m, c, rfl, hm, hown, hsz, hbel⟩ := hrel
    by_cases hlt : k < 16
    · have hd : decide ((k : Int) < 16) = true := by simp; omega
      have dl : (k : Int) < 16 := by omega
      have hix := HIX.out k hlt
      obtain ⟨q, hq⟩ : ∃ q, q = L.getD k 0 := ⟨_, rfl⟩
      rw [← hq] at hix
      have HNS := Lib.hid (numsH_succ L k (by rw [H16.out]; exact hlt))
      rw [← hq] at HNS
      have HQ : Hid (q < 18446744073709551616) := by show _ < _; rw [hq]; exact getD_u64 HU.out k
      have HK := Lib.hid hlt
      clear hq hlt hk
      go_wp2_with fail
      refine (put_c 8 q HQ.out (by omega) (by omega) 8 (q : Int) rfl rfl wr).mono ?_
      rintro e w3 ⟨b3, rfl, hb3, hz3, hblk3, hbel3⟩
      have HN3 := Lib.hid (bytesAt_block (lowB_lt 8 q) hblk3)
      have HO3 := Lib.hid (own_up hown.out hbel3)
      have HS3 : Hid (w.heap.size < w3.heap.size) := Nat.lt_of_lt_of_le hsz.out hbel3.size
      have HE3 : Hid (Below w.heap.size w w3) := hbel.out.trans (hbel3.mono hbel.out.size)
      have HM3 : Hid (m + 8 ≤ 1000000 ∧ m + 8 = 8 + 8 * (k + 1)) := by have h1 := hm.out; have h2 := HK.out; exact ⟨by omega, by omega⟩
      clear hblk3 hbel3 hb3 hz3 hown hsz hbel hm
      go_wp2_with (first
        | (refine wpList_append_bytes (v := .slice a m c) (base := w.heap.size + 1) (n := m) (m := 8) (l := lowB 8 q) rfl (.tmp 22) (.tmp 24) rfl rfl HO3.out rfl (lowB_len _ _) HN3.out (fun h => by cases h) HM3.out.1 HS3.out ?_; intro v4 w4 hown4 hgr4; rw [bA_app, List.append_assoc, ← HNS.out] at hown4; have HO4 := Lib.hid hown4; have HS4 : Hid (w.heap.size < w4.heap.size) := Nat.lt_of_lt_of_le HS3.out hgr4.size; have HE4 : Hid (Below w.heap.size w w4) := HE3.out.grown hgr4 HE3.out.size (fun k h => by have := (HO3.out.lt k h).1; omega); obtain ⟨a4, c4, hv4⟩ := own_slice hown4; subst hv4; clear hown4 hgr4)
        | fail)
      go_roundw
      case rel => exact ⟨k + 1, by have := HK.out; omega, by go_num, a4, m + 8, c4, rfl, HM3.out.2, HO4.out, HS4.out, HE4.out⟩
      case measure => simp [intOf]; have := HK.out; omega
    · have hk16 : k = 16 := by omega
      have hd : decide ((k : Int) < 16) = false := by simp; omega
      have dl : ¬ (k : Int) < 16 := by omega
      have HM5 : Hid (m = 136) := by show _ = _; have := hm.out; omega
      have hown5 := hown.out
      rw [show L.take k = L from List.take_of_length_le (by rw [H16.out]; omega)] at hown5
      have HLB : Hid ((rtBody n L).length = m) := by show _ = _; unfold rtBody; rw [List.length_append, lowB_len, numsH_len, H16.out, HM5.out]
      rw [show m = (rtBody n L).length from HLB.out.symm] at hown5
      obtain ⟨a', c', hv', hB', _⟩ := own_bytes (rtBody_lt n L) hown5
      rw [HLB.out] at hv'
      cases hv'
      have HB5 := Lib.hid hB'
      have HE5 := hbel
      clear hm hown hown5 hsz hbel hk16 hk hlt hB'
      go_wp2_with fail
      refine (pad_c a m c (rtBody n L) HLB.out (by have := HM5.out; omega) 256 (by omega) (by omega) 256 rfl wr HB5.out).mono ?_
      rintro e w6 ⟨b6, rfl, hb6, hz6, hblk6, hbel6⟩
      have HB6 : Hid (w6.heap[b6]? = some (.cells (bA (rtBytes n L)) 5 (0, 0))) := hblk6
      have HE6 : Hid (Below w.heap.size w w6) := HE5.out.trans (hbel6.mono HE5.out.size)
      have HQ6 : Hid (w.heap.size ≤ b6) := Nat.le_trans HE5.out.size hb6
      clear hblk6 hbel6 hb6
      go_wp2
      go_ret2
      exact ⟨⟨b6, rfl, HQ6.out, hz6, HB6.out⟩, HE6.out⟩
set_option maxRecDepth 100000 in
set_option maxHeartbeats 4000000 in
theorem rtbytes_no (n : Nat) (L : List Nat) (h16 : L.length = 16) (hn : n < 18446744073709551616) (hL : ∀ x ∈ L, x < 18446744073709551616) (hr : rightR n L = false) (hz : ¬ (n = 0 ∧ L = List.replicate 16 0)) (w : World) :
    Calls Try.prog 48 #[.agg (rtA n L)] w fun e w' => e = .returned (.tuple #[.slice none 0 0, .int .i64 1]) ∧ Below w.heap.size w w' := by
  have hblk := heap_new' w (.cells (rtA n L) 49)
  have HBLK := Lib.hid hblk
  have HBE := Lib.hid (below_box w (.cells (rtA n L) 49))
  have HM := Lib.hid (fun w => rtmay_c n L h16 hL w)
  rw [hr] at HM
  have H16 := Lib.hid h16
  have HEQ : Hid (∀ w, (binOp .eql 49 (.agg (rtA n L)) (.agg (rtA 0 (List.replicate 16 0)))).run Try.prog w = .ok (.bool false) w) := fun w => by
    rw [eql_roots n 0 L _ h16 (by simp) hn (by omega) hL zeros16 w]
    rw [show decide (n = 0 ∧ L = List.replicate 16 0) = false by simpa using hz]
  clear hblk h16 hL hr hn hz
  go_enter Try.func48, Try.ntmps48
  go_wp2_with (first
    | (refine wpList_load_row rfl 49 (.tmp 1) rfl w.heap.size rfl _ _ _ _ HBLK.out Try.underlying49 rfl (by rw [roots17, rtA_size, H16.out]) ?_)
    | (refine wpList_eql_agg rfl 49 _ (.tmp 7) (.tmp 8) rfl (rtA n L) (rtA 0 (List.replicate 16 0)) rfl rfl (by kernel_rfl) false (HEQ.out _) ?_)
    | fail)
  generalize w.alloc (.cells (rtA n L) 49) = w0 at *
  refine (HM.out w0).mono ?_
  rintro e w1 ⟨rfl, hb1⟩
  have HE1 : Hid (Below w.heap.size w w1) := HBE.out.trans (hb1.mono HBE.out.size)
  clear hb1 HBLK HBE HEQ HM
  go_wp2
  go_ret2
  exact ⟨rfl, HE1.out⟩
theorem bytes_none (w : World) : BytesAt w none 0 [] := ⟨(fun x h => by cases h), (fun h => by cases h)⟩
theorem pad_nilL : padB [] 256 = List.replicate 256 0 := by unfold padB; rw [List.take_nil, List.nil_append]; rfl
set_option maxRecDepth 100000 in
set_option maxHeartbeats 4000000 in
theorem rtbytes_zero (w : World) :
    Calls Try.prog 48 #[.agg (rtA 0 (List.replicate 16 0))] w fun e w' => (∃ b, e = .returned (.tuple #[.slice (some ⟨b, 0, none⟩) 256 256, .int .i64 0]) ∧ w.heap.size ≤ b ∧ b < w'.heap.size ∧ w'.heap[b]? = some (.cells (bA (List.replicate 256 0)) 5 (0, 0))) ∧ Below w.heap.size w w' := by
  obtain ⟨Z, hZ⟩ : ∃ Z : List Nat, Z = List.replicate 16 0 := ⟨_, rfl⟩
  have H16 : Hid (Z.length = 16) := by show _ = _; rw [hZ]; rfl
  have HBLK := Lib.hid (heap_new' w (.cells (rtA 0 Z) 49))
  have HBE := Lib.hid (below_box w (.cells (rtA 0 Z) 49))
  have HEQ : Hid (∀ w, (binOp .eql 49 (.agg (rtA 0 Z)) (.agg (rtA 0 (List.replicate 16 0)))).run Try.prog w = .ok (.bool true) w) := fun w => by
    rw [hZ, eql_roots 0 0 _ _ (by simp) (by simp) (by omega) (by omega) zeros16 zeros16 w]; rfl
  rw [← hZ]
  clear hZ
  go_enter Try.func48, Try.ntmps48
  go_wp2_with (first
    | (refine wpList_load_row rfl 49 (.tmp 1) rfl w.heap.size rfl _ _ _ _ HBLK.out Try.underlying49 rfl (by rw [roots17, rtA_size, H16.out]) ?_)
    | (refine wpList_eql_agg rfl 49 _ (.tmp 7) (.tmp 8) rfl (rtA 0 Z) (rtA 0 (List.replicate 16 0)) rfl rfl (by kernel_rfl) true (HEQ.out _) ?_)
    | fail)
  generalize w.alloc (.cells (rtA 0 Z) 49) = w0 at *
  refine (pad_c none 0 0 [] rfl (by omega) 256 (by omega) (by omega) 256 rfl w0 (bytes_none _)).mono ?_
  rintro e w1 ⟨b, rfl, hb, hz, hblk, hbel⟩
  rw [pad_nilL] at hblk
  have HB : Hid (w1.heap[b]? = some (.cells (bA (List.replicate 256 0)) 5 (0, 0))) := hblk
  have HE1 : Hid (Below w.heap.size w w1) := HBE.out.trans (hbel.mono HBE.out.size)
  have HQ : Hid (w.heap.size ≤ b) := Nat.le_trans HBE.out.size hb
  clear hblk hbel hb HBLK HBE HEQ
  go_wp2
  go_ret2
  exact ⟨⟨b, rfl, HQ.out, hz, HB.out⟩, HE1.out⟩
end Go.Proofs.Ytpbmjfjnmcpieaa
