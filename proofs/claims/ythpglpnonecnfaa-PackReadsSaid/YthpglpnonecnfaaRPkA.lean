/- The reference's Put, May. -/
import Derived.Test.YthpglpnonecnfaaPkG
set_option linter.unusedVariables false
set_option linter.unusedSimpArgs false
namespace Go.Proofs.Ythpglpnonecnfaa
open Go Go.RowKit Sha
theorem low2 (V : Nat) : lowB 2 V = [V % 256, V / 256 % 256] := by simp [lowB, upB, List.range, List.range.loop]
def lowK (V : Nat) : Nat → List Nat
  | 0 => []
  | k + 1 => lowK V k ++ [V / 256 ^ k % 256]
set_option maxRecDepth 100000 in
set_option maxHeartbeats 2000000 in
theorem rput_c (V : Nat) (hV : V < 18446744073709551616) (w : World) :
    Calls Try.prog 20 #[.int .i64 2, .int .u64 (V : Int)] w fun e w' => ∃ v, e = .returned v ∧ w'.ownsRow w.heap.size 5 1 v 2 (bA (lowB 2 V)).toList ∧ Below w.heap.size w w' := by
  have HV := Lib.hid hV
  clear hV
  go_enter Try.func20, Try.ntmps20
  go_wp2
  go_loopw [1, 5, 6] (fun vv vb vi wr => ∃ k : Nat, k ≤ 2 ∧ vi = .int .i64 (k : Int) ∧ ∃ q : Nat, vv = .int .u64 (q : Int) ∧ Hid (q = V / 256 ^ k) ∧ ∃ a c, vb = .slice a k c ∧ Hid (wr.ownsRow w.heap.size 5 1 (.slice a k c) k (bA (lowK V k)).toList) ∧ Hid (Below w.heap.size w wr)) (fun _ _ vi _ => 2 - (intOf vi).toNat)
  case atStart => exact ⟨0, by omega, rfl, V, rfl, by simp [Hid], none, 0, rfl, World.ownsRow_nil _ _ _ _, Below.refl _ _⟩
  case round =>
    obtain ⟨k, hk, rfl, q, rfl, hq, a, c, rfl, hown, hbel⟩ := hrel
    by_cases hlt : k < 2
    · have hd : decide ((k : Int) < 2) = true := by simp; omega
      have dl : (k : Int) < 2 := by omega
      have hqV : q < 18446744073709551616 := by have h1 := HV.out; have h2 := Nat.div_le_self V (256 ^ k); rw [hq.out]; omega
      obtain ⟨x, hx⟩ : ∃ x, x = q % 256 := ⟨_, rfl⟩
      obtain ⟨q2, hq2⟩ : ∃ x, x = q / 256 := ⟨_, rfl⟩
      have e1 : (q : Int) % 256 = (x : Int) := by omega
      have e2 : IntKind.u8.wrap (x : Int) = (x : Int) := by rw [IntKind.wrap_u8]; omega
      have e3 : (q : Int) / 256 = (q2 : Int) := by omega
      have e4 : IntKind.u64.wrap (q2 : Int) = (q2 : Int) := by rw [IntKind.wrap_u64]; omega
      have ek : IntKind.i64.wrap ((k : Int) + 1) = (k : Int) + 1 := IntWalk.i64_in _ (by omega)
      have HQ2 : Hid (q2 = V / 256 ^ (k + 1)) := by show _ = _; rw [hq2, hq.out, Nat.div_div_eq_div_mul, Nat.pow_succ]
      have HLK : Hid (lowK V (k + 1) = lowK V k ++ [x]) := by show _ = _; rw [hx, hq.out]; rfl
      have HBS : Hid (BytesAt (wr.alloc (.cells #[.int .u8 (x : Int)] 5)) (some ⟨wr.heap.size, 0, none⟩) 1 [x]) := bytesAt_block (l := [x]) (by simp; omega) (heap_new' _ _)
      have HOA : Hid ((wr.alloc (.cells #[.int .u8 (x : Int)] 5)).ownsRow w.heap.size 5 1 (.slice a k c) k (bA (lowK V k)).toList) := World.ownsRow.alloc hown.out _
      have HEA : Hid (Below w.heap.size w (wr.alloc (.cells #[.int .u8 (x : Int)] 5))) := hbel.out.alloc hbel.out.size _
      have HK := Lib.hid hlt
      clear hx hq2 hqV hq hown hk
      go_wp2_with (first
        | (refine wpList_append_bytes (v := .slice a k c) (base := w.heap.size) (n := k) (m := 1) (l := [x]) rfl (.tmp 16) (.tmp 20) rfl rfl HOA.out rfl rfl HBS.out (fun h => by cases h) (by have := HK.out; omega) HEA.out.size ?_; intro v3 w3 hown3 hgr3; rw [bA_app, ← HLK.out] at hown3; have HO3 := Lib.hid hown3; have HE3 : Hid (Below w.heap.size w w3) := HEA.out.grown hgr3 HEA.out.size (fun q h => (HOA.out.lt q h).1); obtain ⟨a3, c3, hv3⟩ := own_slice hown3; subst hv3; clear hown3 hgr3)
        | fail)
      go_roundw
      case rel => exact ⟨k + 1, by have := HK.out; omega, by go_num, q2, rfl, HQ2.out, a3, c3, rfl, HO3.out, HE3.out⟩
      case measure => simp [intOf]; have := HK.out; omega
    · have hk2 : k = 2 := by omega
      have hd : decide ((k : Int) < 2) = false := by simp; omega
      have HO : Hid (wr.ownsRow w.heap.size 5 1 (.slice a k c) 2 (bA (lowB 2 V)).toList) := by
        have h := hown.out
        rw [hk2] at h ⊢
        rw [low2]
        have e : lowK V 2 = [V % 256, V / 256 % 256] := by simp [lowK]
        rw [e] at h
        exact h
      clear hown hk2 hk
      go_wp2
      go_ret
      exact ⟨_, rfl, HO.out, hbel.out⟩
set_option maxRecDepth 100000 in
set_option maxHeartbeats 4000000 in
theorem rmay_c (a0 : Option Addr) (n cap : Nat) (L : List (List Nat)) (R : List Int) (hn : L.length = n) (hnm : n ≤ 1000000) (hR16 : R.length = 16) (w : World) (hR : RowsAt w a0 L) :
    Calls Try.prog 7 #[.agg (packA (.slice a0 n cap) R)] w fun e w' => e = .returned (.bool (mayP L R)) ∧ Below w.heap.size w w' := by
  have hblk := heap_new' w (.cells (packA (.slice a0 n cap) R) 25)
  have c0 := (cells_at hblk 0).trans (show _ = some (Value.slice a0 n cap) from rfl)
  have HRR := Lib.hid (pack_roots hblk)
  have HBE : Hid (Below w.heap.size w (w.alloc (.cells (packA (.slice a0 n cap) R) 25))) := (Below.refl _ _).alloc (Nat.le_refl _) _
  have HN := Lib.hid hn
  have HNM := Lib.hid hnm
  have H16 := Lib.hid hR16
  have HIX := Lib.hid (index_R R hR16)
  have HRW := Lib.hid hR
  clear hblk hR hnm hR16
  by_cases hbig : n > 1024
  · have d1 : decide ((n : Int) > 1024) = true := by simp; omega
    have HM : Hid (mayP L R = false) := by show _ = _; unfold mayP; rw [hn, show decide (n ≤ 1024) = false by simp; omega]; rfl
    clear hn
    go_enter Try.func7, Try.ntmps7
    go_wp2
    go_ret
    exact ⟨by rw [HM.out]; rfl, HBE.out⟩
  · have d1 : decide ((n : Int) > 1024) = false := by simp; omega
    have HBG : Hid (n ≤ 1024) := by show _ ≤ _; omega
    clear hn
    go_enter Try.func7, Try.ntmps7
    go_wp2
    generalize w.alloc (.cells (packA (.slice a0 n cap) R) 25) = w0 at *
    go_loop [14] (fun vi => ∃ k : Nat, k ≤ n ∧ vi = .int .i64 (k : Int) ∧ Hid (∀ (j : Nat) l, j < k → L[j]? = some l → decide (1 ≤ l.length ∧ l.length ≤ 4096) = true)) (fun vi => n - (intOf vi).toNat)
    case atStart => exact ⟨0, by omega, rfl, fun j l h => by omega⟩
    case round =>
      obtain ⟨k, hk, rfl, hall⟩ := hrel
      by_cases hlt : k < n
      · have hd : decide ((k : Int) < (n : Int)) = true := by simp; omega
        have dl : (k : Int) < (n : Int) := by omega
        have d0 : ¬ (k : Int) < 0 := by omega
        have hkl : k < L.length := by rw [HN.out]; exact hlt
        have hget := List.getElem?_eq_getElem hkl
        obtain ⟨l, hl⟩ : ∃ l, l = L[k] := ⟨_, rfl⟩
        rw [← hl] at hget
        obtain ⟨g, o, v, rfl, hg, hcell, pa, pc, rfl, hpb, hpn, hpl, hpm⟩ := HRW.out k l hget
        obtain ⟨ln, hln⟩ : ∃ ln, ln = l.length := ⟨_, rfl⟩
        rw [← hln] at hcell
        have cl : w0.cell? ⟨g, o + k, none⟩ = some (.slice pa ln pc) := (HBE.out.cell (p := ⟨g, o + k, none⟩) hg).trans hcell
        have HG := Lib.hid hget
        have HLN := Lib.hid hln
        have HK := Lib.hid hlt
        have ek : IntKind.i64.wrap ((k : Int) + 1) = (k : Int) + 1 := by have := HNM.out; exact IntWalk.i64_in _ (by omega)
        clear hget hl hkl hpb hpn hpl hpm hg hln hk hcell
        by_cases h0 : ln = 0
        · have z0 : decide ((ln : Int) = 0) = true := by simp; omega
          have HF : Hid (mayP L R = false) := by
            show _ = _; unfold mayP
            rw [mayB_bad HG.out (by rw [← HLN.out, h0]; decide)]; simp
          go_wp2
          go_ret
          exact ⟨by rw [HF.out]; rfl, HBE.out⟩
        · have z0 : decide ((ln : Int) = 0) = false := by simp; omega
          by_cases h4 : ln > 4096
          · have z4 : decide ((ln : Int) > 4096) = true := by simp; omega
            have HF : Hid (mayP L R = false) := by
              show _ = _; unfold mayP
              rw [mayB_bad HG.out (by rw [← HLN.out]; simp; omega)]; simp
            go_wp2
            go_ret
            exact ⟨by rw [HF.out]; rfl, HBE.out⟩
          · have z4 : decide ((ln : Int) > 4096) = false := by simp; omega
            have HOK : Hid (decide (1 ≤ ln ∧ ln ≤ 4096) = true) := by show _ = _; simp; omega
            go_wp2
            go_round
            case rel =>
              refine ⟨k + 1, by have := HK.out; omega, by go_num, fun j l' hj hjl => ?_⟩
              rcases Nat.lt_or_eq_of_le (Nat.le_of_lt_succ hj) with h | h
              · exact hall.out j l' h hjl
              · subst h
                rw [HG.out] at hjl
                cases hjl
                rw [← HLN.out]; exact HOK.out
            case measure => simp [intOf]; have := HK.out; omega
      · have hkn : k = n := by omega
        have hd : decide ((k : Int) < (n : Int)) = false := by simp; omega
        have HMB : Hid (mayB L = true) := mayB_all fun j l hj => hall.out j l (by have := (List.getElem?_eq_some_iff.1 hj).1; rw [HN.out] at this; omega) hj
        have HM : Hid (mayP L R = mayR n R) := by show _ = _; unfold mayP; rw [HN.out, HMB.out, show decide (n ≤ 1024) = true by have := HBG.out; simp; omega]; simp
        go_wp2_with (first
          | (refine wpList_load_mid rfl 23 (.tmp 27) rfl w.heap.size 1 rfl _ _ HRR.out Try.underlying23 rfl (by rw [sixteen23, List.length_map, H16.out]) ?_)
          | fail)
        go_loop [29] (fun vi => ∃ k : Nat, k ≤ 16 ∧ vi = .int .i64 (k : Int) ∧ Hid (∀ j, j < k → 0 ≤ R.getD j 0 ∧ R.getD j 0 ≤ (n : Int))) (fun vi => 16 - (intOf vi).toNat)
        case atStart => exact ⟨0, by omega, rfl, fun j h => by omega⟩
        case round =>
          obtain ⟨j, hj, rfl, hall2⟩ := hrel
          by_cases hlj : j < 16
          · have hd2 : decide ((j : Int) < 16) = true := by simp; omega
            have dl2 : (j : Int) < 16 := by omega
            have hix := HIX.out j hlj
            obtain ⟨r, hr⟩ : ∃ r, r = R.getD j 0 := ⟨_, rfl⟩
            simp only [← hr] at hix
            have HR := Lib.hid hr
            have HJ := Lib.hid hlj
            by_cases hr0 : r < 0
            · have d2 : decide (r < 0) = true := by simpa using hr0
              have HF : Hid (mayR n R = false) := mayR_bad (by rw [H16.out]; exact hlj) (by rw [← hr]; omega)
              clear hr
              go_wp2
              go_ret
              exact ⟨by rw [HM.out, HF.out]; rfl, HBE.out⟩
            · have d2 : decide (r < 0) = false := by simpa using hr0
              by_cases hrn : r > (n : Int)
              · have d3 : decide (r > (n : Int)) = true := by simpa using hrn
                have HF : Hid (mayR n R = false) := mayR_bad (by rw [H16.out]; exact hlj) (by rw [← hr]; omega)
                clear hr
                go_wp2
                go_ret
                exact ⟨by rw [HM.out, HF.out]; rfl, HBE.out⟩
              · have d3 : decide (r > (n : Int)) = false := by simpa using hrn
                have HG : Hid (0 ≤ r ∧ r ≤ (n : Int)) := ⟨by omega, by omega⟩
                clear hr
                go_wp2
                go_round
                case rel =>
                  refine ⟨j + 1, by have := HJ.out; omega, by go_num, fun i hi => ?_⟩
                  rcases Nat.lt_or_eq_of_le (Nat.le_of_lt_succ hi) with h | h
                  · exact hall2.out i h
                  · subst h
                    rw [← HR.out]; exact HG.out
                case measure => simp [intOf]; have := HJ.out; omega
          · have hd2 : decide ((j : Int) < 16) = false := by simp; omega
            have HF : Hid (mayR n R = true) := mayR_all fun i hi => hall2.out i (by rw [H16.out] at hi; omega)
            go_wp2
            go_ret
            exact ⟨by rw [HM.out, HF.out]; rfl, HBE.out⟩
end Go.Proofs.Ythpglpnonecnfaa
