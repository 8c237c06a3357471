/- package slot: object, Get. -/
import Derived.Test.YtpbmjfjnmcpieaaChSl
set_option linter.unusedVariables false
set_option linter.unusedSimpArgs false
namespace Go.Proofs.Ytpbmjfjnmcpieaa
open Go Go.RowKit
/-- is there an object in slot k -/
def thereS (b : List Nat) (c k : Nat) : Bool := decide (k < slotsN c) && !zeroB ((winL b c k).take 8)
set_option maxRecDepth 100000 in
set_option maxHeartbeats 1000000 in
theorem sobj_bad (g o n cap : Nat) (b : List Nat) (hb : b.length = 256) (hn : n = 256) (hcap : 256 ≤ cap) (c k : Nat) (hp : pageOk b c = false) (w : World) (h : BytesAt w (some ⟨g, o, none⟩) cap b) :
    Calls Try.prog 59 #[.slice (some ⟨g, o, none⟩) n cap, .int .i64 (c : Int), .int .i64 (k : Int)] w fun e w' => e = .returned (.tuple #[.slice none 0 0, .slice none 0 0, .int .i64 4]) ∧ w = w' := by
  have HC := Lib.hid (scheck_c g o n cap b hb hn hcap c w h)
  rw [show chkS b c = 4 by unfold chkS; rw [hp]; rfl] at HC
  clear hb hn hcap hp h
  go_enter Try.func59, Try.ntmps59
  go_wp2_with fail
  refine HC.out.mono ?_
  rintro e w1 ⟨rfl, rfl⟩
  go_wp2
  go_ret3
  exact ⟨rfl, rfl⟩
set_option maxRecDepth 100000 in
set_option maxHeartbeats 1000000 in
theorem sobj_ok (g o n cap : Nat) (b : List Nat) (hb : b.length = 256) (hn : n = 256) (hcap : 256 ≤ cap) (hm : cap ≤ maxLen) (c k : Nat) (hp : pageOk b c = true) (w : World) (h : BytesAt w (some ⟨g, o, none⟩) cap b) :
    Calls Try.prog 59 #[.slice (some ⟨g, o, none⟩) n cap, .int .i64 (c : Int), .int .i64 (k : Int)] w fun e w' =>
      (thereS b c k = false ∧ e = .returned (.tuple #[.slice none 0 0, .slice none 0 0, .int .i64 6]) ∨ thereS b c k = true ∧ ∃ q cp, e = .returned (.tuple #[.slice (some ⟨q, 0, none⟩) 256 cp, .slice (some ⟨q, k * wdN c, none⟩) (wdN c) (wdN c), .int .i64 0]) ∧ w'.ownsRow w.heap.size 5 1 (.slice (some ⟨q, 0, none⟩) 256 cp) 256 (bA b).toList) ∧ Below w.heap.size w w' := by
  have HC := Lib.hid (scheck_c g o n cap b hb hn hcap c w h)
  rw [show chkS b c = 0 by unfold chkS; rw [hp]; rfl] at HC
  have HCL := Lib.hid (clone2_c (.slice (some ⟨g, o, none⟩) n cap) b (by omega) w ⟨_, cap, by rw [hb, hn], h, fun h => (by cases h), by omega, hm⟩)
  have HLT : Hid (∀ x ∈ b, x < 256) := h.1
  have HBL := Lib.hid hb
  clear hn hcap hp h hb hm
  go_enter Try.func59, Try.ntmps59
  go_wp2_with fail
  refine HC.out.mono ?_
  rintro e w1 ⟨rfl, rfl⟩
  go_wp2_with fail
  refine HCL.out.mono ?_
  rintro e w2 ⟨v2, rfl, hown2, hb2⟩
  obtain ⟨q, cp, rfl, _, _⟩ := own_some hown2 (by rw [HBL.out]; omega)
  have HE2 := Lib.hid hb2
  have hcp : 256 ≤ cp := by
    rcases hown2.2 with ⟨h9, _⟩ | ⟨g9, cap9, cur9, e1, e2, e3, e4, _⟩
    · cases h9
    · cases e1; rw [HBL.out] at e4; exact e4
  have HBA := Lib.hid (own_bytes HLT.out hown2)
  rw [HBL.out] at hown2 HBA ⊢
  have HO2 := Lib.hid hown2
  have HB2 : Hid (BytesAt w2 (some ⟨q, 0, none⟩) cp b) := by
    obtain ⟨a9, c9, e9, h9, _⟩ := HBA.out
    cases e9; exact h9
  clear hown2 hb2 HBA HCL HC
  by_cases hk : k < slotsN c
  · have HW := Lib.hid (window_yes q 0 256 cp c k hk hcp w2)
    rw [Nat.zero_add] at HW
    have hwb := win_bounds hk
    have hwa := win_at HBL.out HB2.out hk
    rw [Nat.zero_add] at hwa
    have HF := Lib.hid (free_c q (k * wdN c) (wdN c) (wdN c) (winL b c k) (winL_len HBL.out hk) (by omega) w2 hwa)
    have HT : Hid (thereS b c k = !zeroB ((winL b c k).take 8)) := by show _ = _; unfold thereS; rw [decide_eq_true hk, Bool.true_and]
    generalize zeroB ((winL b c k).take 8) = r at *
    have hnn : ∀ w : World, (binOp .eql 34 (.slice (some ⟨q, k * wdN c, none⟩) (wdN c) (wdN c)) (.slice none 0 0)).run Try.prog w = .ok (.bool false) w := fun w => by first | rfl | kernel_rfl | (simp [binOp, Op.equal]; done)
    obtain ⟨y, hy⟩ : ∃ y, y = wdN c := ⟨_, rfl⟩
    obtain ⟨x, hx⟩ : ∃ x, x = k * wdN c := ⟨_, rfl⟩
    rw [← hx, ← hy] at HW HF
    rw [← hx, ← hy] at hnn
    have HXY : Hid (x = k * wdN c ∧ y = wdN c) := ⟨hx, hy⟩
    clear hx hy
    clear hk hcp hwb hwa
    go_wp2_with fail
    refine HW.out.mono ?_
    rintro e w3 ⟨rfl, rfl⟩
    go_wp2_with fail
    refine HF.out.mono ?_
    rintro e w3 ⟨rfl, rfl⟩
    cases r with
    | true =>
      go_wp2
      go_ret3
      exact ⟨.inl ⟨HT.out, rfl⟩, HE2.out⟩
    | false =>
      go_wp2
      go_ret3
      exact ⟨.inr ⟨HT.out, q, cp, by rw [← HXY.out.1, ← HXY.out.2]; rfl, HO2.out⟩, HE2.out⟩
  · have HW := Lib.hid (window_no (.slice (some ⟨q, 0, none⟩) 256 cp) c k (by omega) w2)
    have HT : Hid (thereS b c k = false) := by show _ = _; unfold thereS; rw [decide_eq_false hk, Bool.false_and]
    have hnn : ∀ w : World, (binOp .eql 34 (.slice none 0 0) (.slice none 0 0)).run Try.prog w = .ok (.bool true) w := fun w => by first | rfl | kernel_rfl | (simp [binOp, Op.equal]; done)
    clear hk hcp
    go_wp2_with fail
    refine HW.out.mono ?_
    rintro e w3 ⟨rfl, rfl⟩
    go_wp2
    go_ret3
    exact ⟨.inl ⟨HT.out, rfl⟩, HE2.out⟩
set_option maxRecDepth 100000 in
set_option maxHeartbeats 1000000 in
theorem sget_c (g o n cap : Nat) (b : List Nat) (hb : b.length = 256) (hn : n = 256) (hcap : 256 ≤ cap) (hm : cap ≤ maxLen) (c k : Nat) (w : World) (h : BytesAt w (some ⟨g, o, none⟩) cap b) :
    Calls Try.prog 38 #[.slice (some ⟨g, o, none⟩) n cap, .int .i64 (c : Int), .int .i64 (k : Int)] w fun e w' =>
      ((pageOk b c && thereS b c k) = false ∧ (∃ er : Int, er ≠ 0 ∧ e = .returned (.tuple #[.int .u64 0, .slice none 0 0, .int .i64 er])) ∨ (pageOk b c && thereS b c k) = true ∧ ∃ v, e = .returned (.tuple #[.int .u64 (serW (winL b c k) : Int), v, .int .i64 0])) ∧ Below w.heap.size w w' := by
  cases hp : pageOk b c with
  | false =>
    have HO := Lib.hid (sobj_bad g o n cap b hb hn hcap c k hp w h)
    clear hb hn hcap hm hp h
    go_enter Try.func38, Try.ntmps38
    go_wp2_with fail
    refine HO.out.mono ?_
    rintro e w1 ⟨rfl, rfl⟩
    go_wp2
    go_ret3
    exact ⟨.inl ⟨rfl, 4, by decide, rfl⟩, Below.refl _ _⟩
  | true =>
    have HO := Lib.hid (sobj_ok g o n cap b hb hn hcap hm c k hp w h)
    have HLT : Hid (∀ x ∈ b, x < 256) := h.1
    have HBL := Lib.hid hb
    have HPK : Hid (∀ j, j < slotsN c → okW (winL b c j) = true) := by
      unfold pageOk at hp
      simp only [Bool.and_eq_true, List.all_eq_true] at hp
      exact fun j hj => hp.1.2 j (List.mem_range.2 hj)
    clear hb hn hcap hm hp h
    go_enter Try.func38, Try.ntmps38
    go_wp2_with fail
    refine HO.out.mono ?_
    rintro e w1 ⟨⟨ht, rfl⟩ | ⟨ht, q, cp, rfl, hown⟩, hb1⟩
    · have HE1 := Lib.hid hb1
      have HT := Lib.hid ht
      clear hb1 ht HO
      go_wp2
      go_ret3
      exact ⟨.inl ⟨by rw [HT.out]; rfl, 6, by decide, rfl⟩, HE1.out⟩
    · have HE1 := Lib.hid hb1
      have HT := Lib.hid ht
      have hk : k < slotsN c := by unfold thereS at ht; simp only [Bool.and_eq_true, decide_eq_true_eq] at ht; exact ht.1
      have hfree : zeroB ((winL b c k).take 8) = false := by unfold thereS at ht; simp only [Bool.and_eq_true, Bool.not_eq_true'] at ht; exact ht.2
      have hwb := win_bounds hk
      have hba : BytesAt w1 (some ⟨q, 0, none⟩) cp b := by
        rw [show (256 : Nat) = b.length from HBL.out.symm] at hown
        obtain ⟨a9, c9, e9, h9, _⟩ := own_bytes HLT.out hown
        cases e9; exact h9
      have hwa := win_at HBL.out hba hk
      rw [Nat.zero_add] at hwa
      have hsr := fun w' (hw : BytesAt w' (some ⟨q, k * wdN c, none⟩) (wdN c) (winL b c k)) => serial_c q (k * wdN c) (wdN c) (wdN c) (winL b c k) (winL_len HBL.out hk) (by omega) w' hw
      have hsz := fun w' (hw : BytesAt w' (some ⟨q, k * wdN c, none⟩) (wdN c) (winL b c k)) => ssize_c q (k * wdN c) (wdN c) (wdN c) (winL b c k) (winL_len HBL.out hk) (by omega) w' hw
      have hok := HPK.out k hk
      have hszb : sizeW (winL b c k) ≤ wdN c - 8 ∧ 0 < sizeW (winL b c k) := by
        unfold okW at hok
        rw [hfree, if_neg (by simp)] at hok
        simp only [Bool.and_eq_true, decide_eq_true_eq] at hok
        rw [winL_len HBL.out hk] at hok
        exact ⟨hok.1.1.2, hok.1.1.1⟩
      obtain ⟨W, hW⟩ : ∃ W : List Nat, W = winL b c k := ⟨_, rfl⟩
      rw [← hW] at hwa hsr hsz hszb
      obtain ⟨y, hy⟩ : ∃ y, y = wdN c := ⟨_, rfl⟩
      obtain ⟨x, hx⟩ : ∃ x, x = k * wdN c := ⟨_, rfl⟩
      rw [← hx, ← hy] at hwa hsr hsz
      rw [← hy] at hszb
      rw [← hx, ← hy] at hwb
      simp only [← hx]
      simp only [← hy]
      obtain ⟨m, hm⟩ : ∃ m, m = sizeW W := ⟨_, rfl⟩
      obtain ⟨s, hs⟩ : ∃ s, s = serW W := ⟨_, rfl⟩
      rw [← hm] at hsz hszb
      rw [← hs] at hsr
      have HS9 : Hid (s = serW (winL b c k)) := by show _ = _; rw [hs, hW]
      have hm8 : m < 4096 := by omega
      have e1 : IntKind.i64.wrap (8 + (m : Int)) = ((8 + m : Nat) : Int) := by rw [show 8 + (m : Int) = ((8 + m : Nat) : Int) by omega]; exact IntWalk.i64_in _ (by omega)
      have hsl := run_subM q x y y 8 (8 + m) (by omega) (by omega)
      have hsl2 : ∀ w : World, (Instr.sliceAt 34 (.slice (some ⟨q, x, none⟩) y y) (some (.int .i64 8)) (some (.int .i64 (8 + (m : Int)))) (some (.int .i64 (8 + (m : Int))))).run Try.prog w = .ok (.slice (some ⟨q, x + 8, none⟩) (8 + m - 8) (8 + m - 8)) w := by
        intro w; have h := hsl w; rw [show ((8 + m : Nat) : Int) = 8 + (m : Int) by omega] at h; exact h
      clear hsl
      have HSR : Hid (∀ n, Calls Try.prog 60 #[.slice (some ⟨q, x, none⟩) y y] (w1.drewN n) fun e w' => e = .returned (.int .u64 (s : Int)) ∧ w1.drewN n = w') := fun n => hsr _ hwa
      have HSZ : Hid (∀ n, Calls Try.prog 61 #[.slice (some ⟨q, x, none⟩) y y] (w1.drewN n) fun e w' => e = .returned (.int .i64 (m : Int)) ∧ w1.drewN n = w') := fun n => hsz _ hwa
      clear hb1 ht HO hk hfree hba hwa hsr hsz hok hszb hm hs hown hW hx hy HLT HBL HPK
      go_wp2
      refine wp_region_quiet_lit (by kernel_rfl) (by kernel_rfl) ?_
      go_big_quiet_want
      go_big_quiet_op
      go_big_quiet_on
      go_big_quiet_want
      go_big_quiet_op
      apply Exists.intro
      refine ⟨fun _ => ?_, ?_⟩
      go_at_call 60
      exact Calls.quiet_of_same ((HSR.out _).mono fun _ _ h => ⟨h.1, h.2.symm⟩)
      go_big_quiet_on
      go_big_quiet_want
      go_big_quiet_op
      go_big_quiet_on
      go_big_quiet_want
      go_big_quiet_op
      go_big_quiet_on
      go_big_quiet_want
      go_big_quiet_op
      apply Exists.intro
      refine ⟨fun _ => ?_, ?_⟩
      go_at_call 61
      exact Calls.quiet_of_same ((HSZ.out _).mono fun _ _ h => ⟨h.1, h.2.symm⟩)
      go_big_quiet_on
      repeat (go_big_quiet_step ((go_at_call 61; exact Calls.quiet_of_same ((HSZ.out _).mono fun _ _ h => ⟨h.1, h.2.symm⟩))))
      refine wpQuiet_nil ?_
      rintro _ ⟨nq, rfl⟩
      go_wp2
      go_ret3
      exact ⟨.inr ⟨by rw [HT.out]; rfl, _, by rw [← HS9.out]; rfl⟩, below_drewG HE1.out _⟩
end Go.Proofs.Ytpbmjfjnmcpieaa
