/- Contracts of package class, and of the reference's, for sizes. -/
import Derived.Test.YtjclofkkpgdjnaaReg
import Derived.Test.YtjclofkkpgdjnaaProg
set_option linter.unusedVariables false
namespace Go.Proofs.Ytjclofkkpgdjnaa
open Go Go.RowKit
def szT : List Nat := [8, 16, 24, 32, 48, 64, 96, 120]
def sz (c : Nat) : Nat := szT.getD c 0
def clsN (n : Nat) : Nat := szT.findIdx (fun s => decide (n ≤ s))
theorem cls_all : ∀ n, n < 121 → 1 ≤ n → clsN n < 8 ∧ n ≤ sz (clsN n) ∧ ∀ j, j < clsN n → sz j < n := by decide +kernel
theorem sz_le_all : ∀ c, c < 8 → 8 ≤ sz c ∧ sz c ≤ 120 := by decide +kernel
def szA : Array Value := #[.int .i64 8, .int .i64 16, .int .i64 24, .int .i64 32, .int .i64 48, .int .i64 64, .int .i64 96, .int .i64 120]
theorem idx_sz (c : Nat) (h : c < 8) (w : World) : (Instr.index 22 (.agg szA) (.int .i64 (c : Int))).run Try.prog w = .ok (.int .i64 (sz c : Int)) w := by
  have hc : c = 0 ∨ c = 1 ∨ c = 2 ∨ c = 3 ∨ c = 4 ∨ c = 5 ∨ c = 6 ∨ c = 7 := by omega
  rcases hc with rfl | rfl | rfl | rfl | rfl | rfl | rfl | rfl
  all_goals (show _ = _; kernel_rfl)
theorem ret_ib {a b : Int} {t : Bool} (h : a = b) : Ending.returned (.tuple #[.int .i64 a, .bool t]) = .returned (.tuple #[.int .i64 b, .bool t]) := by rw [h]
set_option maxRecDepth 100000 in
set_option maxHeartbeats 1000000 in
theorem size_c (c : Nat) (hc : c < 8) (w : World) :
    Calls Try.prog 38 #[.int .i64 (c : Int)] w fun e w' => e = .returned (.int .i64 (sz c : Int)) ∧ w = w' := by
  go_enter Try.func38, Try.ntmps38
  go_wp2
  go_loop [6] (fun vi => ∃ k : Nat, k ≤ c ∧ vi = .int .i64 k) (fun vi => c - (intOf vi).toNat)
  case atStart => exact ⟨0, by omega, rfl⟩
  case round =>
    obtain ⟨k, hk, rfl⟩ := hrel
    have hi : ∀ w, (Instr.index 22 (.agg #[.int .i64 8, .int .i64 16, .int .i64 24, .int .i64 32, .int .i64 48, .int .i64 64, .int .i64 96, .int .i64 120]) (.int .i64 (k : Int))).run Try.prog w = .ok (.int .i64 (sz k : Int)) w := fun w => idx_sz k (by omega) w
    by_cases he : k = c
    · subst he
      have hT : ((k : Int) == (k : Int)) = true := beq_self_eq_true _
      go_wp2
      go_ret
      exact ⟨rfl, rfl⟩
    · have hT : ((k : Int) == (c : Int)) = false := by rw [beq_eq_false_iff_ne]; omega
      go_wp2
      go_round
      case rel => exact ⟨k + 1, by omega, by go_num⟩
      case measure => simp [intOf]; omega
set_option maxRecDepth 100000 in
set_option maxHeartbeats 1000000 in
theorem of_yes (n : Nat) (h1 : 1 ≤ n) (h2 : n ≤ 120) (w : World) :
    Calls Try.prog 22 #[.int .i64 (n : Int)] w fun e w' => e = .returned (.tuple #[.int .i64 (clsN n : Int), .bool true]) ∧ w = w' := by
  obtain ⟨c8, hle, hlt⟩ := cls_all n (by omega) h1
  have HL := Lib.hid hlt
  clear hlt
  have hp : (0 : Int) < n := by omega
  have hpd : decide ((0 : Int) < n) = true := by simp; omega
  go_enter Try.func22, Try.ntmps22
  go_wp2
  go_loop [5] (fun vi => ∃ k : Nat, k ≤ clsN n ∧ vi = .int .i64 k) (fun vi => clsN n - (intOf vi).toNat)
  case atStart => exact ⟨0, by omega, rfl⟩
  case round =>
    obtain ⟨k, hk, rfl⟩ := hrel
    have hs := sz_le_all k (by omega)
    by_cases he : k = clsN n
    · have hT : (n : Int) ≤ (sz k : Int) := by rw [he]; omega
      have HE := Lib.hid he
      clear he
      go_wp2_with (go_at_call 38; (with_reducible refine (size_c k (by omega) _).mono ?_); rintro e w' ⟨rfl, rfl⟩)
      go_ret2
      exact ⟨by rw [← HE.out]; rfl, rfl⟩
    · have hT : ¬ (n : Int) ≤ (sz k : Int) := by have := HL.out k (by omega); omega
      go_wp2_with (go_at_call 38; (with_reducible refine (size_c k (by omega) _).mono ?_); rintro e w' ⟨rfl, rfl⟩)
      go_round
      case rel => exact ⟨k + 1, by omega, by go_num⟩
      case measure => simp [intOf]; omega
set_option maxRecDepth 100000 in
set_option maxHeartbeats 1000000 in
theorem of_no (n : Int) (h : n < 1 ∨ 120 < n) (w : World) :
    Calls Try.prog 22 #[.int .i64 n] w fun e w' => e = .returned (.tuple #[.int .i64 0, .bool false]) ∧ w = w' := by
  rcases h with h | h
  · have hp : ¬ (0 : Int) < n := by omega
    go_enter Try.func22, Try.ntmps22
    go_wp2
    go_loop [5] (fun vi => ∃ k : Nat, k ≤ 8 ∧ vi = .int .i64 k) (fun vi => 8 - (intOf vi).toNat)
    case atStart => exact ⟨0, by omega, rfl⟩
    case round =>
      obtain ⟨k, hk, rfl⟩ := hrel
      by_cases he : k < 8
      · go_wp2
        go_round
        case rel => exact ⟨k + 1, by omega, by go_num⟩
        case measure => simp [intOf]; omega
      · go_wp2
        go_ret2
        exact ⟨rfl, rfl⟩
  · have hp : (0 : Int) < n := by omega
    go_enter Try.func22, Try.ntmps22
    go_wp2
    go_loop [5] (fun vi => ∃ k : Nat, k ≤ 8 ∧ vi = .int .i64 k) (fun vi => 8 - (intOf vi).toNat)
    case atStart => exact ⟨0, by omega, rfl⟩
    case round =>
      obtain ⟨k, hk, rfl⟩ := hrel
      by_cases he : k < 8
      · have hs := sz_le_all k he
        have hT : ¬ n ≤ (sz k : Int) := by omega
        go_wp2_with (go_at_call 38; (with_reducible refine (size_c k he _).mono ?_); rintro e w' ⟨rfl, rfl⟩)
        go_round
        case rel => exact ⟨k + 1, by omega, by go_num⟩
        case measure => simp [intOf]; omega
      · go_wp2
        go_ret2
        exact ⟨rfl, rfl⟩
theorem pages_yes (n : Nat) (h1 : 120 < n) (h2 : n ≤ 4096) (w : World) :
    Calls Try.prog 23 #[.int .i64 (n : Int)] w fun e w' => e = .returned (.tuple #[.int .i64 (((n + 255) / 256 : Nat) : Int), .bool true]) ∧ w = w' := by
  have a1 : ¬ (n : Int) ≤ 120 := by omega
  have a2 : ¬ (4096 : Int) < n := by omega
  go_enter Try.func23, Try.ntmps23
  go_wp2
  go_ret2
  exact ⟨ret_ib (by omega), rfl⟩
theorem pages_no (n : Int) (h : n ≤ 120 ∨ 4096 < n) (w : World) :
    Calls Try.prog 23 #[.int .i64 n] w fun e w' => e = .returned (.tuple #[.int .i64 0, .bool false]) ∧ w = w' := by
  by_cases a1 : n ≤ 120
  · go_enter Try.func23, Try.ntmps23
    go_wp2
    go_ret2
    exact ⟨rfl, rfl⟩
  · have a2 : (4096 : Int) < n := by omega
    go_enter Try.func23, Try.ntmps23
    go_wp2
    go_ret2
    exact ⟨rfl, rfl⟩
end Go.Proofs.Ytjclofkkpgdjnaa
