/- slices.ContainsFunc over blocks: is one of another length than 256. -/
import Derived.Test.YtpbmjfjnmcpieaaChLd
set_option linter.unusedVariables false
set_option linter.unusedSimpArgs false
namespace Go.Proofs.Ytpbmjfjnmcpieaa
open Go Go.RowKit
set_option maxRecDepth 100000 in
theorem blk1_c (a : Option Addr) (n cap : Nat) (w : World) :
    Calls Try.prog 13 #[.slice a n cap] w fun e w' => e = .returned (.bool (!(n == 256))) ∧ w = w' := by
  by_cases h : n = 256
  · subst h
    go_enter Try.func13, Try.ntmps13
    go_wp2
    go_ret
    exact ⟨by first | rfl | simp, rfl⟩
  · have h1 : (n == 256) = false := by simp [h]
    have h2 : ((n : Int) == 256) = false := by simp; omega
    rw [h1]
    go_enter Try.func13, Try.ntmps13
    go_wp2
    go_ret
    exact ⟨by first | rfl | (rw [h2]; rfl) | (simp [h2]; done) | (simp; omega), rfl⟩
set_option maxRecDepth 100000 in
set_option maxHeartbeats 2000000 in
theorem ix_long_c (a : Option Addr) (n cap : Nat) (L : List (List Nat)) (hn : L.length = n) (hnm : n ≤ 1000000)  (w : World) (hR : RowsAt w a L) :
    Calls Try.prog 25 #[.slice a n cap, .func (.func 13) #[] #[]] w fun e w' => (∃ r : Int, e = .returned (.int .i64 r) ∧ decide (r ≥ 0) = L.any (fun l => !(l.length == 256))) ∧ Below w.heap.size w w' := by
  have HR := Lib.hid hR
  have HN := Lib.hid hn
  have HNM := Lib.hid hnm
  clear hR hn hnm
  go_enter Try.func25, Try.ntmps25
  go_wp2
  go_loopw [8] (fun vi wr => ∃ k : Nat, k ≤ n ∧ vi = .int .i64 (k : Int) ∧ Hid ((L.take k).any (fun l => !(l.length == 256)) = false) ∧ Hid (Below w.heap.size w wr)) (fun vi _ => n - (intOf vi).toNat)
  case atStart => exact ⟨0, by omega, rfl, rfl, Below.refl _ _⟩
  case round =>
    obtain ⟨k, hk, rfl, hall, hbel⟩ := hrel
    by_cases hlt : k < n
    · have hd : decide ((k : Int) < (n : Int)) = true := by simp; omega
      have dl : (k : Int) < (n : Int) := by omega
      have d0 : ¬ (k : Int) < 0 := by omega
      have hkl : k < L.length := by rw [HN.out]; exact hlt
      have hget := List.getElem?_eq_getElem hkl
      obtain ⟨p, hp⟩ : ∃ p, p = L[k] := ⟨_, rfl⟩
      rw [← hp] at hget
      obtain ⟨g, o, v0, rfl, hg, hcell, hs⟩ := HR.out k p hget
      obtain ⟨a0, c0, rfl, _⟩ := hs
      have hc0 := (hbel.out.cell (p := ⟨g, o + k, none⟩) hg).trans hcell
      have HG := Lib.hid hget
      have HK := Lib.hid hlt
      have ek : IntKind.i64.wrap ((k : Int) + 1) = (k : Int) + 1 := by have := HNM.out; exact IntWalk.i64_in _ (by omega)
      have HB := Lib.hid (blk1_c a0 p.length c0 wr)
      clear hget hp hkl hg hcell hk hlt
      cases ht : (fun l => !(l.length == 256)) p with
      | false =>
        have HT : Hid ((L.take (k + 1)).any (fun l => !(l.length == 256)) = false) := any_snoc L _ k p HG.out hall.out ht
        simp only [] at ht
        rw [ht] at HB
        obtain ⟨m9, hm9⟩ : ∃ m9, m9 = p.length := ⟨_, rfl⟩
        rw [← hm9] at HB hc0
        clear hm9
        clear ht hall
        go_wp2_with fail
        refine HB.out.mono ?_
        rintro e w1 ⟨rfl, rfl⟩
        have HE1 : Hid (Below w.heap.size w wr) := hbel.out
        clear hbel
        go_wp2
        go_roundw
        case rel => exact ⟨k + 1, by have := HK.out; omega, by go_num, HT.out, HE1.out⟩
        case measure => simp [intOf]; have := HK.out; omega
      | true =>
        have HT : Hid (L.any (fun l => !(l.length == 256)) = true) := any_at L _ k p HG.out ht
        simp only [] at ht
        rw [ht] at HB
        obtain ⟨m9, hm9⟩ : ∃ m9, m9 = p.length := ⟨_, rfl⟩
        rw [← hm9] at HB hc0
        clear hm9
        clear ht hall
        go_wp2_with fail
        refine HB.out.mono ?_
        rintro e w1 ⟨rfl, rfl⟩
        have HE1 : Hid (Below w.heap.size w wr) := hbel.out
        clear hbel
        go_wp2
        go_ret
        exact ⟨⟨_, rfl, by rw [HT.out]; simp⟩, HE1.out⟩
    · have hkn : k = n := by omega
      have hd : decide ((k : Int) < (n : Int)) = false := by simp; omega
      have dl : ¬ (k : Int) < (n : Int) := by omega
      have HT : Hid (L.any (fun l => !(l.length == 256)) = false) := by
        have h := hall.out
        rw [List.take_of_length_le (by rw [HN.out]; omega)] at h; exact h
      clear hall hkn hk hlt
      go_wp2
      go_ret
      exact ⟨⟨_, rfl, by rw [HT.out]; decide⟩, hbel.out⟩
set_option maxRecDepth 100000 in
theorem cf_long_c (a : Option Addr) (n cap : Nat) (L : List (List Nat)) (hn : L.length = n) (hnm : n ≤ 1000000)  (w : World) (hR : RowsAt w a L) :
    Calls Try.prog 14 #[.slice a n cap, .func (.func 13) #[] #[]] w fun e w' => e = .returned (.bool (L.any (fun l => !(l.length == 256)))) ∧ Below w.heap.size w w' := by
  have HC := Lib.hid (ix_long_c a n cap L hn hnm  w hR)
  clear hR hn hnm
  go_enter Try.func14, Try.ntmps14
  go_wp2_with fail
  refine HC.out.mono ?_
  rintro e w1 ⟨⟨r, rfl, hr⟩, hb1⟩
  have HE1 := Lib.hid hb1
  clear hb1
  go_wp2
  go_ret
  first
    | exact ⟨by rw [← hr]; rfl, HE1.out⟩
    | (simp only [ge_iff_le] at hr; exact ⟨by rw [← hr]; rfl, HE1.out⟩)
end Go.Proofs.Ytpbmjfjnmcpieaa
