/- The reference's Body. -/
import Derived.Test.YthpglpnonecnfaaRPkA
set_option linter.unusedVariables false
set_option linter.unusedSimpArgs false
namespace Go.Proofs.Ythpglpnonecnfaa
open Go Go.RowKit Sha
set_option maxRecDepth 100000 in
set_option maxHeartbeats 4000000 in
theorem rbody_c (a0 : Option Addr) (n cap : Nat) (L : List (List Nat)) (R : List Int) (hn : L.length = n) (hnm : n ≤ 1000000) (hR16 : R.length = 16) (hRR : ∀ r ∈ R, 0 ≤ r ∧ r ≤ 1000000) (hlen : (packBody L R).length ≤ 900000) (w : World) (hR : RowsAt w a0 L) :
    Calls Try.prog 8 #[.agg (packA (.slice a0 n cap) R)] w fun e w' => ∃ v, e = .returned v ∧ w'.ownsRow w.heap.size 5 1 v (packBody L R).length (bA (packBody L R)).toList ∧ Below w.heap.size w w' := by
  have hblk := heap_new' w (.cells (packA (.slice a0 n cap) R) 25)
  have HN := Lib.hid hn
  have HNM := Lib.hid hnm
  have H16 := Lib.hid hR16
  have HRI := Lib.hid hRR
  have HLEN := Lib.hid hlen
  have HIX := Lib.hid (index_R R hR16)
  have HRW := Lib.hid hR
  have hpl : (packBody L R).length = 6 + (numsB R).length + (rowsB L).length := by unfold packBody headB; simp [lowB_len]; omega
  have HPL := Lib.hid hpl
  have HBE0 : Hid (Below w.heap.size w (w.alloc (.cells (packA (.slice a0 n cap) R) 25))) := (Below.refl _ _).alloc (Nat.le_refl _) _
  have HBK0 := Lib.hid hblk
  clear hR hn hnm hR16 hRR hlen hblk hpl
  have eun : IntKind.u64.wrap (n : Int) = (n : Int) := by have := HNM.out; rw [IntKind.wrap_u64]; omega
  have hcv : (convert 27 27 (.slice (some ⟨w.heap.size + 1, 0, none⟩) 4 4)).run Try.prog ((w.alloc (.cells (packA (.slice a0 n cap) R) 25)).alloc (.cells #[.int .u8 80, .int .u8 65, .int .u8 67, .int .u8 75] 5)) = .ok (.slice (some ⟨w.heap.size + 1, 0, none⟩) 4 4) ((w.alloc (.cells (packA (.slice a0 n cap) R) 25)).alloc (.cells #[.int .u8 80, .int .u8 65, .int .u8 67, .int .u8 75] 5 (4, 5))) := by
    have h := Lib.run_convert_bytes_const (P := Try.prog) (w.alloc (.cells (packA (.slice a0 n cap) R) 25)) 27 5 #[.int .u8 80, .int .u8 65, .int .u8 67, .int .u8 75] 4 4 Try.underlying27 Try.underlying5
    rw [show (w.alloc (.cells (packA (.slice a0 n cap) R) 25)).heap.size = w.heap.size + 1 by simp] at h
    exact h
  have HB1 : Hid (BytesAt ((w.alloc (.cells (packA (.slice a0 n cap) R) 25)).alloc (.cells #[.int .u8 80, .int .u8 65, .int .u8 67, .int .u8 75] 5 (4, 5))) (some ⟨w.heap.size + 1, 0, none⟩) 4 [80, 65, 67, 75]) := by
    have h := bytesAt_block (w := (w.alloc (.cells (packA (.slice a0 n cap) R) 25)).alloc (.cells #[.int .u8 80, .int .u8 65, .int .u8 67, .int .u8 75] 5 (4, 5))) (q := w.heap.size + 1) (l := [80, 65, 67, 75]) (z := (4, 5)) (by decide) ((by simp : w.heap.size + 1 = (w.alloc (.cells (packA (.slice a0 n cap) R) 25)).heap.size) ▸ heap_new' _ _)
    exact h
  have HBK1 : Hid (((w.alloc (.cells (packA (.slice a0 n cap) R) 25)).alloc (.cells #[.int .u8 80, .int .u8 65, .int .u8 67, .int .u8 75] 5 (4, 5))).heap[w.heap.size]? = some (.cells (packA (.slice a0 n cap) R) 25 (0, 0))) := (heap_old' _ _ _ (by simp)).trans HBK0.out
  have HBE1 : Hid (Below w.heap.size w ((w.alloc (.cells (packA (.slice a0 n cap) R) 25)).alloc (.cells #[.int .u8 80, .int .u8 65, .int .u8 67, .int .u8 75] 5 (4, 5)))) := HBE0.out.alloc (by simp) _
  have c0 : ∀ o : Obj, ((w.alloc (.cells (packA (.slice a0 n cap) R) 25)).alloc o).cell? ⟨w.heap.size, 0, none⟩ = some (.slice a0 n cap) := fun o => by
    rw [cells_at ((heap_old' _ _ _ (by simp)).trans HBK0.out) 0]; rfl
  go_enter Try.func8, Try.ntmps8
  go_wp2_with fail
  generalize (w.alloc (.cells (packA (.slice a0 n cap) R) 25)).alloc (.cells #[.int .u8 80, .int .u8 65, .int .u8 67, .int .u8 75] 5 (4, 5)) = w0 at *
  clear hcv c0 HBE0 HBK0
  refine (rput_c n (by have := HNM.out; omega) w0).mono ?_
  rintro e w1 ⟨v1, rfl, hown1, hbel1⟩
  obtain ⟨na1, nc1, rfl, hnb1, _, _, _, hnn1, _⟩ := own_bytes (lowB_lt 2 n) hown1
  obtain ⟨ng1, no1, rfl, _⟩ := hnb1.2 (by rw [lowB_len]; decide)
  have HN1 := Lib.hid hnb1
  clear hown1 hnb1 hnn1
  have HP1 := Lib.hid (HB1.out.up hbel1 (Nat.le_refl _))
  have HK1 := Lib.hid ((hbel1.block _ (lt_of_block HBK1.out)).trans HBK1.out)
  have HE1 : Hid (Below w.heap.size w w1) := HBE1.out.trans (hbel1.mono HBE1.out.size)
  clear hbel1 HBK1 HBE1
  go_wp2_with (first
    | (refine wpList_append_full (b := w.heap.size + 1) (n := 4) (l0 := [80, 65, 67, 75]) (m := 2) (l := lowB 2 n) rfl (.tmp 10) (.tmp 15) rfl rfl rfl HP1.out rfl (lowB_len _ _) (by decide) HN1.out (by decide) ?_; intro v2 w2 hown2 hgr2; have HOWN2 := Lib.hid hown2; have HK2 := Lib.hid ((hgr2.block _ (lt_of_block HK1.out) (by simp)).trans HK1.out); have HE2 : Hid (Below w.heap.size w w2) := HE1.out.grown hgr2 HE1.out.size (fun k h => by cases h); have HLT2 : Hid (w.heap.size < w1.heap.size) := lt_of_block HK1.out; have HRR2 := Lib.hid (pack_roots HK2.out); clear hown2 hgr2)
    | (refine wpList_load_mid rfl 23 (.tmp 17) rfl w.heap.size 1 rfl _ _ HRR2.out Try.underlying23 rfl (by rw [sixteen23, List.length_map, H16.out]) ?_)
    | fail)
  have hown6 : w2.ownsRow w1.heap.size 5 1 v2 6 (bA ([80, 65, 67, 75] ++ lowB 2 n)).toList := HOWN2.out
  obtain ⟨a2, c2, rfl⟩ := own_slice hown6
  have HO2 : Hid (w2.ownsRow (w.heap.size + 1) 5 1 (.slice a2 6 c2) 6 (bA (headB n ++ numsB (R.take 0))).toList) := own_mono (by simpa [headB, numsB] using hown6) HLT2.out
  clear hown6 HOWN2 HLT2 HRR2 HK1 HE1 HP1 HN1 HB1
  go_loopw [3, 19] (fun v vi wr => ∃ k : Nat, k ≤ 16 ∧ vi = .int .i64 (k : Int) ∧ ∃ a m c, v = .slice a m c ∧ Hid (m = 6 + (numsB (R.take k)).length) ∧ Hid (wr.ownsRow (w.heap.size + 1) 5 1 (.slice a m c) m (bA (headB n ++ numsB (R.take k))).toList) ∧ Hid (wr.heap[w.heap.size]? = some (.cells (packA (.slice a0 n cap) R) 25 (0, 0))) ∧ Hid (Below w.heap.size w wr)) (fun _ vi _ => 16 - (intOf vi).toNat)
  case atStart => exact ⟨0, by omega, rfl, a2, 6, c2, rfl, rfl, HO2.out, HK2.out, HE2.out⟩
  case round =>
    clear HO2 HK2 HE2
    obtain ⟨k, hk, rfl, a, m, c, rfl, hm, hown, hbk, hbel⟩ := hrel
    by_cases hlt : k < 16
    · have hd : decide ((k : Int) < 16) = true := by simp; omega
      have dl : (k : Int) < 16 := by omega
      have hix := HIX.out k hlt
      have hri : 0 ≤ R.getD k 0 ∧ R.getD k 0 ≤ 1000000 := by
        rw [List.getD_eq_getElem?_getD, List.getElem?_eq_getElem (by rw [H16.out]; exact hlt)]
        exact HRI.out _ (List.getElem_mem _)
      have hns := nums_succ R k (by rw [H16.out]; exact hlt)
      have hle := nums_le R (k + 1)
      obtain ⟨r, hr⟩ : ∃ r, r = R.getD k 0 := ⟨_, rfl⟩
      simp only [← hr] at hix hri hns
      obtain ⟨q, hq⟩ : ∃ q, q = r.toNat := ⟨_, rfl⟩
      have hrq : r = (q : Int) := by omega
      rw [← hq] at hns
      have HNS := Lib.hid hns
      have HQ : Hid (q < 9223372036854775808) := by show _ < _; omega
      have HMM : Hid (m + 2 ≤ 1000000 ∧ m + 2 = 6 + (numsB (R.take (k + 1))).length) := by
        have h1 := hm.out; have h2 := HPL.out; have h3 := HLEN.out
        have h4 : (numsB (R.take (k + 1))).length = (numsB (R.take k)).length + 2 := by rw [hns, List.length_append, lowB_len]
        exact ⟨by omega, by omega⟩
      have HK := Lib.hid hlt
      have HRQ := Lib.hid hrq
      have eur : IntKind.u64.wrap r = (q : Int) := by rw [hrq, IntKind.wrap_u64]; omega
      clear hr hq hri hrq hns hle hlt hk hm
      go_wp2_with fail
      refine (rput_c q (by have := HQ.out; omega) wr).mono ?_
      rintro e w3 ⟨v3, rfl, hown3, hbel3⟩
      obtain ⟨na3, nc3, rfl, hnb3, _, _, _, hnn3, _⟩ := own_bytes (lowB_lt 2 q) hown3
      have HN3 := Lib.hid hnb3
      have HNN3 := Lib.hid hnn3
      clear hown3 hnb3 hnn3
      have HO3 := Lib.hid (own_up hown.out hbel3)
      have HK3 := Lib.hid ((hbel3.block _ (lt_of_block hbk.out)).trans hbk.out)
      have HE3 : Hid (Below w.heap.size w w3) := hbel.out.trans (hbel3.mono hbel.out.size)
      clear hbel3 hown hbk hbel
      go_wp2_with (first
        | (refine wpList_append_bytes (v := .slice a m c) (base := w.heap.size + 1) (n := m) (m := 2) (l := lowB 2 q) rfl (.tmp 22) (.tmp 25) rfl rfl HO3.out rfl (lowB_len _ _) HN3.out HNN3.out HMM.out.1 (lt_of_block HK3.out) ?_; intro v4 w4 hown4 hgr4; rw [bA_app, List.append_assoc, ← HNS.out] at hown4; have HO4 := Lib.hid hown4; have HK4 := Lib.hid ((hgr4.block _ (lt_of_block HK3.out) (fun e => by have := (HO3.out.lt _ e.symm).1; omega)).trans HK3.out); have HE4 : Hid (Below w.heap.size w w4) := HE3.out.grown hgr4 HE3.out.size (fun k h => by have := (HO3.out.lt k h).1; omega); obtain ⟨a4, c4, hv4⟩ := own_slice hown4; subst hv4; clear hown4 hgr4)
        | fail)
      go_roundw
      case rel => exact ⟨k + 1, by have := HK.out; omega, by go_num, a4, m + 2, c4, rfl, HMM.out.2, HO4.out, HK4.out, HE4.out⟩
      case measure => simp [intOf]; have := HK.out; omega
    · have hk16 : k = 16 := by omega
      have hd : decide ((k : Int) < 16) = false := by simp; omega
      have htk : R.take k = R := List.take_of_length_le (by rw [H16.out]; omega)
      rw [htk] at hm hown
      have c0 := (cells_at hbk.out 0).trans (show _ = some (Value.slice a0 n cap) from rfl)
      have HO5 : Hid (wr.ownsRow (w.heap.size + 1) 5 1 (.slice a m c) m (bA (headB n ++ numsB R ++ rowsB (L.take 0))).toList) := by
        show World.ownsRow _ _ _ _ _ _ _
        simpa [rowsB] using hown.out
      have HM5 : Hid (m = 6 + (numsB R).length + (rowsB (L.take 0)).length) := by show _ = _; have := hm.out; simpa [rowsB] using this
      have HK5 := Lib.hid hbk.out
      have HE5 := Lib.hid hbel.out
      clear hm hown hbk hbel htk hk16 hlt hk
      go_wp2
      go_loopw [3, 31] (fun v vi wr => ∃ k : Nat, k ≤ n ∧ vi = .int .i64 (k : Int) ∧ ∃ a m c, v = .slice a m c ∧ Hid (m = 6 + (numsB R).length + (rowsB (L.take k)).length) ∧ Hid (wr.ownsRow (w.heap.size + 1) 5 1 (.slice a m c) m (bA (headB n ++ numsB R ++ rowsB (L.take k))).toList) ∧ Hid (w.heap.size < wr.heap.size) ∧ Hid (Below w.heap.size w wr)) (fun _ vi _ => n - (intOf vi).toNat)
      case atStart => exact ⟨0, by omega, rfl, a, m, c, rfl, HM5.out, HO5.out, lt_of_block HK5.out, HE5.out⟩
      case round =>
        clear HO5 HK5 HE5 HM5 c0
        obtain ⟨k, hk, rfl, a, m, c, rfl, hm, hown, hsz, hbel⟩ := hrel
        by_cases hlt : k < n
        · have hd : decide ((k : Int) < (n : Int)) = true := by simp; omega
          have dl : (k : Int) < (n : Int) := by omega
          have dk0 : ¬ (k : Int) < 0 := by omega
          have hkl : k < L.length := by rw [HN.out]; exact hlt
          have hrs := rows_succ L k hkl
          have hle := rows_le L (k + 1)
          obtain ⟨l, hl⟩ : ∃ l, l = L[k] := ⟨_, rfl⟩
          rw [← hl] at hrs
          obtain ⟨g, o, v, hag, hg, hcell, pa, pc, rfl, hpb, hpn, hpl, hpm⟩ := HRW.out k l (by rw [hl]; exact List.getElem?_eq_getElem hkl)
          subst hag
          obtain ⟨ln, hln⟩ : ∃ ln, ln = l.length := ⟨_, rfl⟩
          rw [← hln] at hcell hrs
          have cl : wr.cell? ⟨g, o + k, none⟩ = some (.slice pa ln pc) := (hbel.out.cell (p := ⟨g, o + k, none⟩) hg).trans hcell
          have HPB := Lib.hid hpb
          have HPN := Lib.hid hpn
          have HLN := Lib.hid hln.symm
          have HRS := Lib.hid hrs
          have HMM : Hid (m + 2 ≤ 1000000 ∧ m + 2 + ln ≤ 1000000 ∧ m + 2 + ln = 6 + (numsB R).length + (rowsB (L.take (k + 1))).length) := by
            have h1 := hm.out; have h2 := HPL.out; have h3 := HLEN.out
            have h4 : (rowsB (L.take (k + 1))).length = (rowsB (L.take k)).length + (2 + ln) := by rw [hrs, List.length_append, List.length_append, lowB_len, hln]
            exact ⟨by omega, by omega, by omega⟩
          have HK := Lib.hid hlt
          have eul : IntKind.u64.wrap (ln : Int) = (ln : Int) := by have := HMM.out.2.1; rw [IntKind.wrap_u64]; omega
          have ek : IntKind.i64.wrap ((k : Int) + 1) = (k : Int) + 1 := by have := HNM.out; exact IntWalk.i64_in _ (by omega)
          clear hl hcell hpb hpn hpl hpm hg hln hrs hle hkl hlt hk hm
          go_wp2_with fail
          refine (rput_c ln (by have := HMM.out.2.1; omega) wr).mono ?_
          rintro e w3 ⟨v3, rfl, hown3, hbel3⟩
          obtain ⟨na3, nc3, rfl, hnb3, _, _, _, hnn3, _⟩ := own_bytes (lowB_lt 2 ln) hown3
          have HN3 := Lib.hid hnb3
          have HNN3 := Lib.hid hnn3
          clear hown3 hnb3 hnn3
          have HO3 := Lib.hid (own_up hown.out hbel3)
          have HE3 : Hid (Below w.heap.size w w3) := hbel.out.trans (hbel3.mono hbel.out.size)
          have HS3 : Hid (w.heap.size < w3.heap.size) := Nat.lt_of_lt_of_le hsz.out hbel3.size
          clear hbel3 hown hbel hsz
          go_wp2_with (first
            | (refine wpList_append_bytes (v := .slice a m c) (base := w.heap.size + 1) (n := m) (m := 2) (l := lowB 2 ln) rfl (.tmp 35) (.tmp 39) rfl rfl HO3.out rfl (lowB_len _ _) HN3.out HNN3.out HMM.out.1 HS3.out ?_; intro v4 w4 hown4 hgr4; rw [bA_app] at hown4; have HO4 := Lib.hid hown4; have HE4 : Hid (Below w.heap.size w w4) := HE3.out.grown hgr4 HE3.out.size (fun k h => by have := (HO3.out.lt k h).1; omega); have HS4 : Hid (w.heap.size < w4.heap.size) := Nat.lt_of_lt_of_le HS3.out hgr4.size; have HP4 : Hid (BytesAt w4 pa pc l) := HPB.out.up HE4.out (Nat.le_refl _); obtain ⟨a4, c4, hv4⟩ := own_slice hown4; subst hv4; clear hown4 hgr4)
            | (refine wpList_append_bytes (v := .slice a4 (m + 2) c4) (base := w.heap.size + 1) (n := m + 2) (m := ln) (l := l) rfl (.tmp 41) (.tmp 42) rfl rfl HO4.out rfl HLN.out HP4.out HPN.out HMM.out.2.1 HS4.out ?_; intro v5 w5 hown5 hgr5; rw [bA_app] at hown5; have HO5 := Lib.hid hown5; have HE5 : Hid (Below w.heap.size w w5) := HE4.out.grown hgr5 HE4.out.size (fun k h => by have := (HO4.out.lt k h).1; omega); have HS5 : Hid (w.heap.size < w5.heap.size) := Nat.lt_of_lt_of_le HS4.out hgr5.size; obtain ⟨a5, c5, hv5⟩ := own_slice hown5; subst hv5; clear hown5 hgr5)
            | fail)
          go_roundw
          case rel =>
            have h := HO5.out
            rw [List.append_assoc (headB n ++ numsB R ++ rowsB (L.take k)), List.append_assoc (headB n ++ numsB R), ← HRS.out] at h
            exact ⟨k + 1, by have := HK.out; omega, by go_num, a5, m + 2 + ln, c5, rfl, HMM.out.2.2, h, HS5.out, HE5.out⟩
          case measure => simp [intOf]; have := HK.out; omega
        · have hkn : k = n := by omega
          have hd : decide ((k : Int) < (n : Int)) = false := by simp; omega
          have HFO : Hid (wr.ownsRow w.heap.size 5 1 (.slice a m c) (packBody L R).length (bA (packBody L R)).toList) := by
            have h := own_mono hown.out (Nat.le_succ _)
            have h1 := hm.out
            have e : L.take k = L := List.take_of_length_le (by rw [HN.out]; omega)
            rw [e] at h h1
            show World.ownsRow _ _ _ _ _ _ _
            rw [HPL.out, ← h1]
            unfold packBody
            rw [HN.out]
            exact h
          clear hown hm hkn hk
          go_wp2
          go_ret
          exact ⟨_, rfl, HFO.out, hbel.out⟩
end Go.Proofs.Ythpglpnonecnfaa
