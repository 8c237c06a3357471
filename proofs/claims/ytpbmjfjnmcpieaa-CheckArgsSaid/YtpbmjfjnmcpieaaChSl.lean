/- package slot: window, Check, object, Get. -/
import Derived.Test.YtpbmjfjnmcpieaaChMb
set_option linter.unusedVariables false
set_option linter.unusedSimpArgs false
namespace Go.Proofs.Ytpbmjfjnmcpieaa
open Go Go.RowKit
def wdN (c : Nat) : Nat := sz c + 8
/-- a slot's bytes -/
def winL (b : List Nat) (c k : Nat) : List Nat := (b.drop (k * wdN c)).take (wdN c)
/-- may a page of a class be -/
def pageOk (b : List Nat) (c : Nat) : Bool := decide (c < 8) && (List.range (slotsN c)).all (fun k => okW (winL b c k)) && zeroB (b.drop (slotsN c * wdN c))
def chkS (b : List Nat) (c : Nat) : Int := if pageOk b c then 0 else 4
theorem slots_lt {c k : Nat} (hk : k < slotsN c) : c < 8 := by
  rcases Nat.lt_or_ge c 8 with h | h
  · exact h
  · have : slotsN c = 0 := by unfold slotsN; rw [if_pos (sz_big c h)]
    omega
theorem win_bounds {c k : Nat} (hk : k < slotsN c) : k * wdN c + wdN c ≤ 256 ∧ 16 ≤ wdN c ∧ wdN c ≤ 128 := by
  have hc := slots_lt hk
  have h1 := sz_le_all c hc
  have h2 := slots_all c hc
  unfold wdN
  refine ⟨?_, by omega, by omega⟩
  have : (k + 1) * (sz c + 8) ≤ slotsN c * (sz c + 8) := Nat.mul_le_mul_right _ hk
  rw [Nat.succ_mul] at this
  omega
theorem winL_len {b : List Nat} (hb : b.length = 256) {c k : Nat} (hk : k < slotsN c) : (winL b c k).length = wdN c := by
  have := (win_bounds hk).1
  unfold winL; rw [List.length_take, List.length_drop, hb]; omega
set_option maxRecDepth 100000 in
set_option maxHeartbeats 1000000 in
theorem window_yes (g o n cap c k : Nat) (hk : k < slotsN c) (hcap : 256 ≤ cap) (w : World) :
    Calls Try.prog 57 #[.slice (some ⟨g, o, none⟩) n cap, .int .i64 (c : Int), .int .i64 (k : Int)] w fun e w' => e = .returned (.slice (some ⟨g, o + k * wdN c, none⟩) (wdN c) (wdN c)) ∧ w = w' := by
  have hb := win_bounds hk
  have HP := Lib.hid (fun w => place_yes c k hk w)
  obtain ⟨y, hy⟩ : ∃ y, y = wdN c := ⟨_, rfl⟩
  have hy2 : sz c + 8 = y := hy.symm
  rw [hy2] at HP
  rw [← hy] at hb ⊢
  obtain ⟨x, hx⟩ : ∃ x, x = k * y := ⟨_, rfl⟩
  rw [← hx] at HP hb ⊢
  obtain ⟨z, hz⟩ : ∃ z, z = x + y := ⟨_, rfl⟩
  have e1 : IntKind.i64.wrap ((x : Int) + (y : Int)) = (z : Int) := by rw [show (x : Int) + (y : Int) = (z : Int) by omega]; exact IntWalk.i64_in _ (by omega)
  have hs := run_subM g o n cap x z (by omega) (by omega)
  have HZ : Hid (z - x = y) := by show _ = _; omega
  clear hk hcap hb hy hy2 hx hz
  go_enter Try.func57, Try.ntmps57
  go_wp2_with fail
  refine (HP.out w).mono ?_
  rintro e w1 ⟨rfl, rfl⟩
  rw [HZ.out] at hs
  go_wp2
  go_ret
  exact ⟨rfl, rfl⟩
set_option maxRecDepth 100000 in
set_option maxHeartbeats 1000000 in
theorem window_no (v : Value) (c k : Nat) (hk : slotsN c ≤ k) (w : World) :
    Calls Try.prog 57 #[v, .int .i64 (c : Int), .int .i64 (k : Int)] w fun e w' => e = .returned (.slice none 0 0) ∧ w = w' := by
  have HP := Lib.hid (fun w => place_no c k hk w)
  clear hk
  go_enter Try.func57, Try.ntmps57
  go_wp2_with fail
  refine (HP.out w).mono ?_
  rintro e w1 ⟨rfl, rfl⟩
  go_wp2
  go_ret
  exact ⟨rfl, rfl⟩
theorem win_at {w : World} {g o cap : Nat} {b : List Nat} (hb : b.length = 256) (h : BytesAt w (some ⟨g, o, none⟩) cap b) {c k : Nat} (hk : k < slotsN c) : BytesAt w (some ⟨g, o + k * wdN c, none⟩) (wdN c) (winL b c k) := by
  have hl := winL_len hb hk
  have hbd := win_bounds hk
  refine ⟨fun x hx => h.1 x (List.mem_of_mem_drop (List.mem_of_mem_take hx)), fun h0 => ?_⟩
  obtain ⟨g', o', e1, h2, h3, h4⟩ := h.2 (by omega)
  cases e1
  refine ⟨g, _, rfl, by rw [hl]; exact Nat.le_refl _, h3, fun j hj => ?_⟩
  rw [hl] at hj
  rw [Nat.add_assoc, h4 (k * wdN c + j) (by omega), List.getD_eq_getElem?_getD, List.getD_eq_getElem?_getD]
  unfold winL
  rw [List.getElem?_take_of_lt hj, List.getElem?_drop]
theorem all_range_succ (f : Nat → Bool) (k : Nat) : (List.range (k + 1)).all f = ((List.range k).all f && f k) := by
  rw [List.range_succ, List.all_append]; simp
theorem all_range_bad (f : Nat → Bool) (n k : Nat) (h : k < n) (hf : f k = false) : (List.range n).all f = false := by
  rw [List.all_eq_false]; exact ⟨k, List.mem_range.2 h, by simp [hf]⟩
set_option maxRecDepth 100000 in
set_option maxHeartbeats 4000000 in
theorem scheck_c (g o n cap : Nat) (b : List Nat) (hb : b.length = 256) (hn : n = 256) (hcap : 256 ≤ cap) (c : Nat) (w : World) (h : BytesAt w (some ⟨g, o, none⟩) cap b) :
    Calls Try.prog 34 #[.slice (some ⟨g, o, none⟩) n cap, .int .i64 (c : Int)] w fun e w' => e = .returned (.int .i64 (chkS b c)) ∧ w = w' := by
  have HB := Lib.hid hb
  have HN := Lib.hid hn
  have HC := Lib.hid hcap
  have HH := Lib.hid h
  have dn : ((n : Int) == 256) = true := by rw [hn]; rfl
  have inn : (n : Int) = 256 := by rw [hn]; rfl
  have HS := Lib.hid (fun w => size_c c w)
  have HL := Lib.hid (fun w => slots_c c w)
  by_cases hc : c < 8
  · have h1 := sz_le_all c hc
    have h2 := slots_all c hc
    obtain ⟨z, hz⟩ : ∃ z, z = sz c := ⟨_, rfl⟩
    obtain ⟨s, hs⟩ : ∃ s, s = slotsN c := ⟨_, rfl⟩
    have hz0 : ((z : Int) == 0) = false := by rw [beq_eq_false_iff_ne]; omega
    have hzi : ¬ (z : Int) = 0 := by omega
    rw [← hz] at HS
    rw [← hs] at HL
    have HCS : Hid (c < 8 ∧ s = slotsN c ∧ s ≤ 16) := ⟨hc, hs, by omega⟩
    clear hb hn hcap h h1 h2 hz hs hc
    go_enter Try.func34, Try.ntmps34
    go_wp2_with fail
    refine (HS.out w).mono ?_
    rintro e w1 ⟨rfl, rfl⟩
    go_wp2_with fail
    refine (HL.out w).mono ?_
    rintro e w1 ⟨rfl, rfl⟩
    go_wp2
    go_loop [5, 18] (fun ve vi => ∃ k en : Nat, k ≤ s ∧ vi = .int .i64 (k : Int) ∧ ve = .int .i64 (en : Int) ∧ Hid (en = k * wdN c) ∧ Hid ((List.range k).all (fun k => okW (winL b c k)) = true)) (fun _ vi => s - (RowKit.intOf vi).toNat)
    case atStart => exact ⟨0, 0, by omega, rfl, rfl, by show _ = _; simp, rfl⟩
    case round =>
      obtain ⟨k, en, hk, rfl, rfl, hen, hall⟩ := hrel
      have hs16 := HCS.out.2.2
      by_cases hlt : k < s
      · have hd : decide ((k : Int) < (s : Int)) = true := by simp; omega
        have dl : (k : Int) < (s : Int) := by omega
        have hks : k < slotsN c := by rw [← HCS.out.2.1]; exact hlt
        have HW := Lib.hid (window_yes g o n cap c k hks HC.out w)
        have hwb := win_bounds hks
        have HM := Lib.hid (slmay_c g (o + k * wdN c) (wdN c) (wdN c) (winL b c k) (winL_len HB.out hks) (by omega) (by omega) w (win_at HB.out HH.out hks))
        obtain ⟨y, hy⟩ : ∃ y, y = wdN c := ⟨_, rfl⟩
        obtain ⟨a, ha⟩ : ∃ a, a = o + k * wdN c := ⟨_, rfl⟩
        rw [← ha, ← hy] at HW HM
        rw [← hy] at hwb
        have hey : en + y ≤ 256 := by rw [hen.out, ← hy] at *; omega
        have HK := Lib.hid hlt
        have HEN : Hid (en + y = (k + 1) * wdN c) := by show _ = _; rw [hen.out, ← hy, Nat.succ_mul]
        cases hok : okW (winL b c k) with
        | true =>
          rw [hok] at HM
          have HA : Hid ((List.range (k + 1)).all (fun k => okW (winL b c k)) = true) := by show _ = _; rw [all_range_succ, hall.out, hok]; rfl
          clear hok hen hall ha hy hks hk hlt hwb
          go_wp2_with fail
          refine HW.out.mono ?_
          rintro e w1 ⟨rfl, rfl⟩
          go_wp2_with fail
          refine HM.out.mono ?_
          rintro e w1 ⟨rfl, rfl⟩
          go_wp2
          go_round
          case rel => exact ⟨k + 1, en + y, by have := HK.out; omega, by go_num, by go_num, HEN.out, HA.out⟩
          case measure => simp [RowKit.intOf]; have := HK.out; omega
        | false =>
          rw [hok] at HM
          have HR : Hid (chkS b c = 4) := by
            show _ = _; unfold chkS pageOk
            rw [all_range_bad (fun k => okW (winL b c k)) (slotsN c) k hks hok]; simp
          clear hok hen hall ha hy hks hk hlt hwb
          go_wp2_with fail
          refine HW.out.mono ?_
          rintro e w1 ⟨rfl, rfl⟩
          go_wp2_with fail
          refine HM.out.mono ?_
          rintro e w1 ⟨rfl, rfl⟩
          go_wp2
          go_ret
          exact ⟨by rw [HR.out]; rfl, rfl⟩
      · have hks : k = s := by omega
        have hd : decide ((k : Int) < (s : Int)) = false := by simp; omega
        have dl : ¬ (k : Int) < (s : Int) := by omega
        have hen2 : en = slotsN c * wdN c := by rw [hen.out, hks, HCS.out.2.1]
        have hle : en ≤ 256 := by
          rw [hen2]
          have := slots_all c HCS.out.1
          exact this.1
        have hall2 := hall.out
        rw [hks, HCS.out.2.1] at hall2
        have HZ : Hid (Calls Try.prog 36 #[.slice (some ⟨g, subO o cap en, none⟩) (n - en) (cap - en)] w fun e w' => e = .returned (.bool (zeroB (b.drop en))) ∧ w = w') := by
          have hbs := HH.out.sub (lo := en) (hi := 256) hle (by rw [HB.out]; exact Nat.le_refl _)
          rw [List.take_of_length_le (by rw [List.length_drop, HB.out]; exact Nat.le_refl _)] at hbs
          exact zero_c _ _ _ _ (by rw [List.length_drop, HB.out, HN.out]) (by have := HN.out; omega) w hbs
        have HR : Hid (chkS b c = if zeroB (b.drop en) then 0 else 4) := by
          show _ = _; unfold chkS pageOk
          rw [hall2, decide_eq_true HCS.out.1, ← hen2]; rfl
        have HEL : Hid (en ≤ n) := by have := HN.out; show _ ≤ _; omega
        clear hen2 hle hall2 hen hall hks hk hlt
        generalize zeroB (b.drop en) = r at *
        go_wp2_with (first
          | (refine wpList_subF_g (by rfl) (.tmp 33) (.tmp 34) (l := en) rfl rfl rfl HEL.out ?_)
          | fail)
        refine HZ.out.mono ?_
        rintro e w1 ⟨rfl, rfl⟩
        cases r with
        | true =>
          go_wp2
          go_ret
          exact ⟨by rw [HR.out]; rfl, rfl⟩
        | false =>
          go_wp2
          go_ret
          exact ⟨by rw [HR.out]; rfl, rfl⟩
  · have hz := sz_big c (by omega)
    rw [hz] at HS
    have HR : Hid (chkS b c = 4) := by show _ = _; unfold chkS pageOk; rw [decide_eq_false hc]; rfl
    clear hb hn hcap h hz hc
    go_enter Try.func34, Try.ntmps34
    go_wp2_with fail
    refine (HS.out w).mono ?_
    rintro e w1 ⟨rfl, rfl⟩
    go_wp2
    go_ret
    exact ⟨by rw [HR.out]; rfl, rfl⟩
end Go.Proofs.Ytpbmjfjnmcpieaa
