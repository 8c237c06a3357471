/- Contracts of the reference's bit and Sub. -/
import Derived.Test.YtnmjkdmhfogeiaaGfE
set_option linter.unusedVariables false
namespace Go.Proofs.Ytnmjkdmhfogeiaa
open Go Go.RowKit GfM
def bitx (c k : Nat) : Nat := c / 2 ^ (k % 8) % 2
theorem bitx_lt (c k : Nat) : bitx c k ≤ 1 := by unfold bitx; omega
theorem bit_int (c k : Nat) : ((c : Int) / 2 ^ (k % 8)).tmod 2 = ((bitx c k : Nat) : Int) := by
  have e : ((c : Int) / 2 ^ (k % 8)) = ((c / 2 ^ (k % 8) : Nat) : Int) := by simp
  rw [e, Int.tmod_eq_emod_of_nonneg (Int.natCast_nonneg _)]; unfold bitx; omega
theorem bit_c (c : Nat) (K : Int) (k : Nat) (hK : K = k) (hc : c < 256) (hk : k < 1000) (w : World) :
    Calls Try.prog 69 #[.int .u8 (c : Int), .int .i64 K] w fun e w' => e = .returned (.int .i64 ((bitx c k : Nat) : Int)) ∧ w = w' := by
  subst hK
  go_enter Try.func69, Try.ntmps69
  go_wp2
  go_ret
  exact ⟨ret_i (bit_int c k), rfl⟩
theorem bit99_c (K : Int) (k : Nat) (hK : K = k) (hk : k < 1000) (w : World) :
    Calls Try.prog 69 #[.int .u8 99, .int .i64 K] w fun e w' => e = .returned (.int .i64 ((bitx 99 k : Nat) : Int)) ∧ w = w' := bit_c 99 K k hK (by omega) hk w
def subN (i k : Nat) : Nat := (bitx i k + bitx i (k + 4) + bitx i (k + 5) + bitx i (k + 6) + bitx i (k + 7) + bitx 99 k) % 2
def subGo : Nat → Nat → Nat → Nat
  | 0, o, _ => o
  | k + 1, o, i => subGo k (2 * o + subN i k) i
theorem refsub_all : ∀ c, c < 256 → subGo 8 0 (ginv c) = sbx c := by decide +kernel
theorem subN_le (i k : Nat) : subN i k ≤ 1 := by unfold subN; omega
set_option maxRecDepth 100000 in
set_option maxHeartbeats 1000000 in
theorem refsub_c (c : Nat) (hc : c < 256) (w : World) :
    Calls Try.prog 36 #[.int .u8 (c : Int)] w fun e w' => e = .returned (.int .u8 ((sbx c : Nat) : Int)) ∧ w = w' := by
  have HR := Lib.hid (refsub_all c hc)
  have hi := ginv_lt c hc
  go_enter Try.func36, Try.ntmps36
  go_wp2_with fail
  refine (refinv_c c hc _).mono ?_
  rintro e w' ⟨rfl, rfl⟩
  generalize ginv c = i at *
  go_wp2_with fail
  go_loop [4, 5, 6] (fun vo vk vn => ∃ (j o : Nat), j ≤ 8 ∧ o < 256 ∧ vo = .int .i64 o ∧ vk = .int .i64 ((j : Int) - 1) ∧ Hid (o < 2 ^ (8 - j)) ∧ Hid (subGo j o i = subGo 8 0 i)) (fun _ vk _ => (intOf vk + 1).toNat)
  case atStart => exact ⟨8, 0, by omega, by omega, rfl, rfl, Nat.one_pos, rfl⟩
  case round =>
    obtain ⟨j, o, hj, ho, rfl, rfl, ho2, hm⟩ := hrel
    by_cases hj0 : 0 < j
    · obtain ⟨k, rfl⟩ : ∃ i, j = i + 1 := ⟨j - 1, by omega⟩
      have hk : ((k + 1 : Nat) : Int) - 1 = (k : Int) := by omega
      rw [hk]
      clear hk
      have ho3 : 2 * o + 1 < 2 ^ (8 - k) := by
        have := ho2.out
        rw [show 8 - k = (8 - (k + 1)) + 1 by omega, Nat.pow_succ]; omega
      have ho4 : 2 * o + 1 < 256 := by
        have := Nat.pow_le_pow_right (n := 2) (by decide) (show 8 - k ≤ 8 by omega)
        omega
      have HO3 := Lib.hid ho3
      clear ho3 ho2
      have b0 := bitx_lt i k
      have b1 := bitx_lt i (k + 4)
      have b2 := bitx_lt i (k + 5)
      have b3 := bitx_lt i (k + 6)
      have b4 := bitx_lt i (k + 7)
      have b5 := bitx_lt 99 k
      go_wp2_with (go_at_call 69; first | ((with_reducible refine (bit99_c _ k rfl (by omega) _).mono ?_); rintro e w' ⟨rfl, rfl⟩) | ((with_reducible refine (bit_c i _ k rfl hi (by omega) _).mono ?_); rintro e w' ⟨rfl, rfl⟩) | ((with_reducible refine (bit_c i _ (k + 4) (by omega) hi (by omega) _).mono ?_); rintro e w' ⟨rfl, rfl⟩) | ((with_reducible refine (bit_c i _ (k + 5) (by omega) hi (by omega) _).mono ?_); rintro e w' ⟨rfl, rfl⟩) | ((with_reducible refine (bit_c i _ (k + 6) (by omega) hi (by omega) _).mono ?_); rintro e w' ⟨rfl, rfl⟩) | ((with_reducible refine (bit_c i _ (k + 7) (by omega) hi (by omega) _).mono ?_); rintro e w' ⟨rfl, rfl⟩))
      have hs := subN_le i k
      go_round
      case rel => exact ⟨k, 2 * o + subN i k, by omega, by omega, vint (by unfold subN; omega), rfl, by have := HO3.out; exact (show 2 * o + subN i k < 2 ^ (8 - k) by omega), hm⟩
      case measure => simp [intOf]
    · obtain rfl : j = 0 := by omega
      have HO : Hid (o = sbx c) := by have h1 := hm.out; have h2 := HR.out; rw [← h2, ← h1]; rfl
      clear hm ho2 HR
      go_wp2
      go_ret
      exact ⟨ret_i (by rw [← HO.out]), rfl⟩
end Go.Proofs.Ytnmjkdmhfogeiaa
