/- Contracts of the reference's Inv; the chapter's example. -/
import Derived.Test.YtnmjkdmhfogeiaaGfD
set_option linter.unusedVariables false
namespace Go.Proofs.Ytnmjkdmhfogeiaa
open Go Go.RowKit GfM
theorem mulref_c (a b : Nat) (ha : a < 256) (hb : b < 256) (w : World) :
    Calls Try.prog 29 #[.int .u8 (a : Int), .int .u8 (b : Int)] w fun e w' => e = .returned (.int .u8 ((gmul a b : Nat) : Int)) ∧ w = w' := by
  have := refmul_c a b ha hb w
  rw [refMul_eq a b ha hb] at this; exact this
set_option maxRecDepth 100000 in
set_option maxHeartbeats 1000000 in
theorem refinv_c (a : Nat) (ha : a < 256) (w : World) :
    Calls Try.prog 32 #[.int .u8 (a : Int)] w fun e w' => e = .returned (.int .u8 ((ginv a : Nat) : Int)) ∧ w = w' := by
  go_enter Try.func32, Try.ntmps32
  go_wp2
  go_loop [3] (fun vk => ∃ (k : Nat), k ≤ 256 ∧ vk = .int .i64 k ∧ Hid (∀ j, j < k → gmul a j ≠ 1)) (fun vk => 256 - (intOf vk).toNat)
  case atStart => exact ⟨0, by omega, rfl, fun j hj => absurd hj (by omega)⟩
  case round =>
    obtain ⟨k, hk, rfl, hno⟩ := hrel
    by_cases hlt : k < 256
    · by_cases h1 : gmul a k = 1
      · have hT : (((gmul a k : Nat) : Int) == 1) = true := by rw [h1]; rfl
        have HI := Lib.hid (inv_unique a k ha hlt h1)
        clear h1 hno
        go_wp2_with (go_at_call 29; (with_reducible refine (mulref_c a k ha hlt _).mono ?_); rintro e w' ⟨rfl, rfl⟩)
        go_ret
        exact ⟨ret_i (by rw [← HI.out]), rfl⟩
      · have hT : (((gmul a k : Nat) : Int) == 1) = false := by rw [beq_eq_false_iff_ne]; omega
        have HN : Hid (∀ j, j < k + 1 → gmul a j ≠ 1) := fun j hj => by
          by_cases e : j = k
          · rw [e]; exact h1
          · exact hno.out j (by omega)
        clear h1 hno
        go_wp2_with (go_at_call 29; (with_reducible refine (mulref_c a k ha hlt _).mono ?_); rintro e w' ⟨rfl, rfl⟩)
        go_round
        case rel => exact ⟨k + 1, by omega, by go_num, HN⟩
        case measure => simp [intOf]; omega
    · have HZ : Hid (ginv a = 0) := by
        rcases inv_all a ha with rfl | h
        · exact ginv_zero
        · exact absurd h (hno.out _ (by have := ginv_lt a ha; omega))
      clear hno
      go_wp2
      go_ret
      exact ⟨ret_i (by rw [HZ.out]; rfl), rfl⟩
theorem ex1 : gmul 87 131 = 193 := by decide +kernel
theorem ex2 : sbx 0 = 99 := by decide +kernel
theorem ex3 : sbx 83 = 237 := by decide +kernel
theorem mul_ex (w : World) : Calls Try.prog 28 #[.int .u8 87, .int .u8 131] w fun e w' => e = .returned (.int .u8 193) ∧ w = w' := by
  have := mul_c 87 131 (by omega) (by omega) w
  rw [ex1] at this; exact this
theorem sub_ex0 (w : World) (b : Nat) (h : IsBox w b) : Calls Try.prog 35 #[.pointer (some ⟨b, 0, none⟩), .int .u8 0] w fun e w' => e = .returned (.int .u8 99) ∧ w = w' := by
  have := sub_c w b 0 (by omega) h
  rw [ex2] at this; exact this
theorem sub_ex1 (w : World) (b : Nat) (h : IsBox w b) : Calls Try.prog 35 #[.pointer (some ⟨b, 0, none⟩), .int .u8 83] w fun e w' => e = .returned (.int .u8 237) ∧ w = w' := by
  have := sub_c w b 83 (by omega) h
  rw [ex3] at this; exact this
set_option maxRecDepth 100000 in
theorem awake02_c (w : World) : Calls Try.prog 30 #[] w fun e w' => e = .returned (.bool true) ∧ Below w.heap.size w w' := by
  go_enter Try.func30, Try.ntmps30
  go_wp2_with fail
  refine (newbox_c _).mono ?_
  rintro e w1 ⟨rfl, hbox, hz, hbel⟩
  go_wp2_with fail
  refine (mul_ex _).mono ?_
  rintro e w' ⟨rfl, rfl⟩
  go_wp2_with fail
  refine (sub_ex0 _ _ hbox).mono ?_
  rintro e w' ⟨rfl, rfl⟩
  go_wp2_with fail
  refine (sub_ex1 _ _ hbox).mono ?_
  rintro e w' ⟨rfl, rfl⟩
  go_wp2
  go_ret
  exact ⟨rfl, hbel⟩
end Go.Proofs.Ytnmjkdmhfogeiaa
