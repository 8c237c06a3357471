/- Contracts of package class for Check: Size, Slots, Place (a slot that is there). -/
import Derived.Test.YtpbmjfjnmcpieaaChA
set_option linter.unusedVariables false
set_option linter.unusedSimpArgs false
namespace Go.Proofs.Ytpbmjfjnmcpieaa
open Go Go.RowKit Go.Lib
def szT : List Nat := [8, 16, 24, 32, 48, 64, 96, 120]
def sz (c : Nat) : Nat := szT.getD c 0
theorem sz_le_all : ∀ c, c < 8 → 8 ≤ sz c ∧ sz c ≤ 120 := by decide +kernel
theorem sz_big (c : Nat) (h : 8 ≤ c) : sz c = 0 := by
  unfold sz
  rw [List.getD_eq_getElem?_getD, List.getElem?_eq_none (by simpa [szT] using h)]; rfl
theorem sz_zero (c : Nat) : sz c = 0 ↔ 8 ≤ c := ⟨fun h => by
  rcases Nat.lt_or_ge c 8 with h' | h'
  · have := sz_le_all c h'; omega
  · exact h', sz_big c⟩
def slotsN (c : Nat) : Nat := if sz c = 0 then 0 else 256 / (sz c + 8)
def szA : Array Value := #[.int .i64 8, .int .i64 16, .int .i64 24, .int .i64 32, .int .i64 48, .int .i64 64, .int .i64 96, .int .i64 120]
theorem idx_sz (c : Nat) (h : c < 8) (w : World) : (Instr.index 122 (.agg szA) (.int .i64 (c : Int))).run Try.prog w = .ok (.int .i64 (sz c : Int)) w := by
  have hc : c = 0 ∨ c = 1 ∨ c = 2 ∨ c = 3 ∨ c = 4 ∨ c = 5 ∨ c = 6 ∨ c = 7 := by omega
  rcases hc with rfl | rfl | rfl | rfl | rfl | rfl | rfl | rfl
  all_goals (show _ = _; kernel_rfl)
set_option maxRecDepth 100000 in
set_option maxHeartbeats 1000000 in
theorem size_c (c : Nat) (w : World) :
    Calls Try.prog 56 #[.int .i64 (c : Int)] w fun e w' => e = .returned (.int .i64 (sz c : Int)) ∧ w = w' := by
  go_enter Try.func56, Try.ntmps56
  go_wp2
  go_loop [6] (fun vi => ∃ k : Nat, k ≤ c ∧ k ≤ 8 ∧ vi = .int .i64 k) (fun vi => 8 - (RowKit.intOf vi).toNat)
  case atStart => exact ⟨0, by omega, by omega, rfl⟩
  case round =>
    obtain ⟨k, hk, h8, rfl⟩ := hrel
    by_cases hlt : k < 8
    · have dk : decide ((k : Int) < 8) = true := by simp; omega
      have ik : (k : Int) < 8 := by omega
      have hi : ∀ w, (Instr.index 122 (.agg #[.int .i64 8, .int .i64 16, .int .i64 24, .int .i64 32, .int .i64 48, .int .i64 64, .int .i64 96, .int .i64 120]) (.int .i64 (k : Int))).run Try.prog w = .ok (.int .i64 (sz k : Int)) w := fun w => idx_sz k hlt w
      by_cases he : k = c
      · subst he
        have hT : ((k : Int) == (k : Int)) = true := beq_self_eq_true _
        go_wp2
        go_ret
        exact ⟨rfl, rfl⟩
      · have hT : ((k : Int) == (c : Int)) = false := by rw [beq_eq_false_iff_ne]; omega
        have HK : Hid (k < 8 ∧ k < c) := ⟨hlt, by omega⟩
        clear hlt he hk h8
        go_wp2
        go_round
        case rel => exact ⟨k + 1, by have := HK.out; omega, by have := HK.out; omega, by go_num⟩
        case measure => simp [RowKit.intOf]; have := HK.out; omega
    · have dk : decide ((k : Int) < 8) = false := by simp; omega
      have ik : ¬ (k : Int) < 8 := by omega
      have HZ : Hid (sz c = 0) := sz_big c (by omega)
      clear hlt
      go_wp2
      go_ret
      exact ⟨by rw [HZ.out]; rfl, rfl⟩
theorem slots_all : ∀ c, c < 8 → slotsN c * (sz c + 8) ≤ 256 ∧ 2 ≤ slotsN c ∧ slotsN c ≤ 16 := by decide +kernel
set_option maxRecDepth 100000 in
set_option maxHeartbeats 1000000 in
theorem slots_c (c : Nat) (w : World) :
    Calls Try.prog 37 #[.int .i64 (c : Int)] w fun e w' => e = .returned (.int .i64 (slotsN c : Int)) ∧ w = w' := by
  by_cases hc : c < 8
  · have HS := Lib.hid (fun w => size_c c w)
    obtain ⟨z, s, hzs, hsz, hsn⟩ : ∃ z s : Nat, (z, s) ∈ [(8, 16), (16, 10), (24, 8), (32, 6), (48, 4), (64, 3), (96, 2), (120, 2)] ∧ sz c = z ∧ slotsN c = s := by
      have h9 : c = 0 ∨ c = 1 ∨ c = 2 ∨ c = 3 ∨ c = 4 ∨ c = 5 ∨ c = 6 ∨ c = 7 := by omega
      rcases h9 with rfl | rfl | rfl | rfl | rfl | rfl | rfl | rfl <;> exact ⟨_, _, by decide +kernel, rfl, rfl⟩
    rw [hsz] at HS
    have HR : Hid (slotsN c = s) := hsn
    clear hsn hsz hc
    simp only [List.mem_cons, Prod.mk.injEq, List.not_mem_nil, or_false] at hzs
    rcases hzs with ⟨rfl, rfl⟩ | ⟨rfl, rfl⟩ | ⟨rfl, rfl⟩ | ⟨rfl, rfl⟩ | ⟨rfl, rfl⟩ | ⟨rfl, rfl⟩ | ⟨rfl, rfl⟩ | ⟨rfl, rfl⟩
    all_goals
      go_enter Try.func37, Try.ntmps37
      go_wp2_with fail
      refine (HS.out _).mono ?_
      rintro e w1 ⟨rfl, rfl⟩
      go_wp2_with fail
      refine (HS.out _).mono ?_
      rintro e w1 ⟨rfl, rfl⟩
      go_wp2
      go_ret
      exact ⟨by rw [HR.out]; rfl, rfl⟩
  · have HS := Lib.hid (fun w => size_c c w)
    have hz := sz_big c (by omega)
    rw [hz] at HS
    have HR : Hid (slotsN c = 0) := by show _ = _; unfold slotsN; rw [if_pos hz]
    clear hz hc
    go_enter Try.func37, Try.ntmps37
    go_wp2_with fail
    refine (HS.out _).mono ?_
    rintro e w1 ⟨rfl, rfl⟩
    go_wp2
    go_ret
    exact ⟨by rw [HR.out]; rfl, rfl⟩
set_option maxRecDepth 100000 in
set_option maxHeartbeats 1000000 in
theorem place_yes (c k : Nat) (hk : k < slotsN c) (w : World) :
    Calls Try.prog 74 #[.int .i64 (c : Int), .int .i64 (k : Int)] w fun e w' => e = .returned (.tuple #[.int .i64 ((k * (sz c + 8) : Nat) : Int), .int .i64 ((sz c + 8 : Nat) : Int), .bool true]) ∧ w = w' := by
  have hc : c < 8 := by
    rcases Nat.lt_or_ge c 8 with h | h
    · exact h
    · have : slotsN c = 0 := by unfold slotsN; rw [if_pos (sz_big c h)]
      omega
  have hz := sz_le_all c hc
  have hs := slots_all c hc
  have HS := Lib.hid (fun w => size_c c w)
  have HL := Lib.hid (fun w => slots_c c w)
  obtain ⟨z, hz9⟩ : ∃ z, z = sz c := ⟨_, rfl⟩
  obtain ⟨s, hs9⟩ : ∃ s, s = slotsN c := ⟨_, rfl⟩
  rw [← hz9] at HS hz ⊢
  rw [← hs9] at HL hk hs
  obtain ⟨y, hy⟩ : ∃ y, y = z + 8 := ⟨_, rfl⟩
  obtain ⟨x, hx⟩ : ∃ x, x = k * y := ⟨_, rfl⟩
  have hx2 : x ≤ 15 * 128 := by rw [hx]; exact Nat.mul_le_mul (by omega) (by omega)
  have e1 : IntKind.i64.wrap ((z : Int) + 8) = (y : Int) := by rw [hy]; exact IntWalk.i64_in _ (by omega)
  have e2 : IntKind.i64.wrap ((k : Int) * (y : Int)) = (x : Int) := by
    rw [show (k : Int) * (y : Int) = ((k * y : Nat) : Int) by simp, ← hx]; exact IntWalk.i64_in _ (by omega)
  have k0 : ¬ (k : Int) < 0 := by omega
  have k0d : decide ((k : Int) < 0) = false := by simp
  have k1 : ¬ (s : Int) ≤ (k : Int) := by omega
  have k1d : decide ((s : Int) ≤ (k : Int)) = false := by simp; omega
  have k2 : (k : Int) < (s : Int) := by omega
  rw [← hy, ← hx]
  clear hz9 hs9 hy hx hx2 hz hs hc
  go_enter Try.func74, Try.ntmps74
  go_wp2_with fail
  refine (HL.out _).mono ?_
  rintro e w1 ⟨rfl, rfl⟩
  go_wp2_with fail
  refine (HS.out _).mono ?_
  rintro e w1 ⟨rfl, rfl⟩
  go_wp2
  go_ret3
  exact ⟨rfl, rfl⟩
end Go.Proofs.Ytpbmjfjnmcpieaa
