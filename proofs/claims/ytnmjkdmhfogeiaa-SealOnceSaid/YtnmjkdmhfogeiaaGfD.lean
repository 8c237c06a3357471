/- Contracts of the reference's Mul and Inv. -/
import Derived.Test.YtnmjkdmhfogeiaaGfC
set_option linter.unusedVariables false
namespace Go.Proofs.Ytnmjkdmhfogeiaa
open Go Go.RowKit GfM
theorem refP_step (n p w a b : Nat) : refP (n + 1) p w a b = refP n (p ^^^ a * w * (b / w % 2)) (2 * w) a b := rfl
theorem refR_step (k p : Nat) : refR (k + 1) p = refR k (p ^^^ 283 * 2 ^ k * (p / 2 ^ (k + 8) % 2)) := rfl
theorem bitT (q m : Nat) (h : q / 2 ^ m % 2 = 1) : ((((q : Int) / 2 ^ m).tmod 2) == 1) = true := by
  have e : ((q : Int) / 2 ^ m) = ((q / 2 ^ m : Nat) : Int) := by simp
  rw [e, Int.tmod_eq_emod_of_nonneg (Int.natCast_nonneg _), beq_iff_eq]; omega
theorem bitF (q m : Nat) (h : ¬ q / 2 ^ m % 2 = 1) : ((((q : Int) / 2 ^ m).tmod 2) == 1) = false := by
  have e : ((q : Int) / 2 ^ m) = ((q / 2 ^ m : Nat) : Int) := by simp
  rw [e, Int.tmod_eq_emod_of_nonneg (Int.natCast_nonneg _), beq_eq_false_iff_ne]; omega
theorem n283 (j : Nat) (h : j ≤ 7) : 283 * 2 ^ j < 65536 := by
  have := Nat.pow_le_pow_right (n := 2) (by decide) h
  omega
theorem w283 (j : Nat) (h : j ≤ 7) : wrap64 (283 * 2 ^ j) = ((283 * 2 ^ j : Nat) : Int) := by
  have h1 := n283 j h
  have e : (283 * 2 ^ j : Int) = ((283 * 2 ^ j : Nat) : Int) := by simp
  rw [e]; exact IntWalk.wrap64_in _ (by omega)
set_option maxRecDepth 100000 in
set_option maxHeartbeats 1000000 in
theorem refmul_c (a b : Nat) (ha : a < 256) (hb : b < 256) (w : World) :
    Calls Try.prog 29 #[.int .u8 (a : Int), .int .u8 (b : Int)] w fun e w' => e = .returned (.int .u8 ((refMul a b : Nat) : Int)) ∧ w = w' := by
  go_enter Try.func29, Try.ntmps29
  go_wp2
  go_loop [5, 6, 7] (fun vp vw vk => ∃ (k p c : Nat), k ≤ 8 ∧ p < 65536 ∧ c ≤ 256 ∧ 1 ≤ c ∧ (k < 8 → c ≤ 128) ∧ vp = .int .i64 p ∧ vw = .int .i64 c ∧ vk = .int .i64 k ∧ Hid (c = 2 ^ k) ∧ Hid (refP (8 - k) p c a b = refP 8 0 1 a b)) (fun _ _ vk => 8 - (intOf vk).toNat)
  case atStart => exact ⟨0, 0, 1, by omega, by omega, by omega, by omega, by omega, rfl, rfl, rfl, rfl, rfl⟩
  case round =>
    obtain ⟨k, p, c, hk, hp, hc, hc1, hc8, rfl, rfl, rfl, hck, hm⟩ := hrel
    by_cases hlt : k < 8
    · have hc2 := hc8 hlt
      clear hc8
      have q0 : (0 : Int) ≤ (b : Int) / (c : Int) := by rw [← Int.natCast_ediv]; exact Int.natCast_nonneg _
      have q1 : (b : Int) / (c : Int) ≤ 255 := by rw [← Int.natCast_ediv]; have := Nat.div_le_self b c; omega
      have m0 : (0 : Int) ≤ (a : Int) * (c : Int) := by rw [← Int.natCast_mul]; omega
      have m2 : a * c ≤ 255 * 128 := Nat.mul_le_mul (by omega) hc2
      have m1 : (a : Int) * (c : Int) ≤ 32640 := by rw [← Int.natCast_mul]; omega
      have hp8 : a * c < 65536 := by omega
      have hst := refP_step (8 - (k + 1)) p c a b
      have hck2 : 2 * c = 2 ^ (k + 1) := by rw [Nat.pow_succ, ← hck.out]; omega
      have HCK2 := Lib.hid hck2
      have h128 : k + 1 < 8 → 2 * c ≤ 128 := fun h => by
        have := Nat.pow_le_pow_right (n := 2) (by decide) (show k + 1 ≤ 7 by omega)
        omega
      have H128 := Lib.hid h128
      clear hck2 h128 hck
      by_cases h1 : b / c % 2 = 1
      · have hT : ((b : Int) / (c : Int) % 2 == 1) = true := by
          rw [beq_iff_eq, ← Int.natCast_ediv]; omega
        have HM : Hid (refP (8 - (k + 1)) (p ^^^ a * c) (2 * c) a b = refP 8 0 1 a b) := by
          rw [h1, Nat.mul_one] at hst
          have := hm.out
          rw [show 8 - k = (8 - (k + 1)) + 1 by omega, hst] at this; exact this
        clear h1 hst hm m2
        go_wp2
        go_round
        case rel => exact ⟨k + 1, p ^^^ a * c, 2 * c, by omega, Nat.xor_lt_two_pow (n := 16) hp hp8, by omega, by omega, H128.out, vint (i64x rfl (by simp) (by omega) (by omega)), by go_num, by go_num, HCK2, HM⟩
        case measure => simp [intOf]; omega
      · have hT : ((b : Int) / (c : Int) % 2 == 1) = false := by
          rw [beq_eq_false_iff_ne, ← Int.natCast_ediv]; omega
        have HM : Hid (refP (8 - (k + 1)) p (2 * c) a b = refP 8 0 1 a b) := by
          rw [show b / c % 2 = 0 by omega, Nat.mul_zero, Nat.xor_zero] at hst
          have := hm.out
          rw [show 8 - k = (8 - (k + 1)) + 1 by omega, hst] at this; exact this
        clear h1 hst hm m2
        go_wp2
        go_round
        case rel => exact ⟨k + 1, p, 2 * c, by omega, hp, by omega, by omega, H128.out, rfl, by go_num, by go_num, HCK2, HM⟩
        case measure => simp [intOf]; omega
    · have HP : Hid (p = refP 8 0 1 a b) := by have := hm.out; rw [show 8 - k = 0 by omega] at this; exact this
      clear hm hck hc8
      go_wp2
      go_loop [5, 8] (fun vp vk => ∃ (j q : Nat), j ≤ 7 ∧ q < 65536 ∧ vp = .int .i64 q ∧ vk = .int .i64 ((j : Int) + 7) ∧ Hid (refR j q = refR 7 (refP 8 0 1 a b))) (fun _ vk => (intOf vk).toNat)
      case atStart => exact ⟨7, p, by omega, hp, rfl, rfl, by rw [HP.out]; exact rfl⟩
      case round =>
        obtain ⟨j, q, hj, hq, rfl, rfl, hm⟩ := hrel
        clear HP
        by_cases hj0 : 0 < j
        · obtain ⟨j, rfl⟩ : ∃ i, j = i + 1 := ⟨j - 1, by omega⟩
          have hst := refR_step j q
          have e283 := w283 j (by omega)
          have n28 := n283 j (by omega)
          by_cases h1 : q / 2 ^ (j + 8) % 2 = 1
          · have hT := bitT q (j + 1 + 7) h1
            have HM : Hid (refR j (q ^^^ 283 * 2 ^ j) = refR 7 (refP 8 0 1 a b)) := by
              rw [h1, Nat.mul_one] at hst
              rw [← hst]; exact hm.out
            clear h1 hst hm
            go_wp2
            go_round
            case rel => exact ⟨j, q ^^^ 283 * 2 ^ j, by omega, Nat.xor_lt_two_pow (n := 16) hq n28, vint (i64x rfl rfl (by omega) (by omega)), vint (by omega), HM⟩
            case measure => simp [intOf]; omega
          · have hT := bitF q (j + 1 + 7) h1
            have HM : Hid (refR j q = refR 7 (refP 8 0 1 a b)) := by
              rw [show q / 2 ^ (j + 8) % 2 = 0 by omega, Nat.mul_zero, Nat.xor_zero] at hst
              rw [← hst]; exact hm.out
            clear h1 hst hm
            go_wp2
            go_round
            case rel => exact ⟨j, q, by omega, hq, rfl, vint (by omega), HM⟩
            case measure => simp [intOf]; omega
        · obtain rfl : j = 0 := by omega
          have HQ : Hid (q = refR 7 (refP 8 0 1 a b)) := hm
          clear hm
          go_wp2
          go_ret
          exact ⟨ret_i (by unfold refMul; rw [← HQ.out]; simp), rfl⟩
end Go.Proofs.Ytnmjkdmhfogeiaa
