/- The walks of the laws of chapter 2 that return one bool on bytes: GfMul, GfField, GfInv. -/
import Derived.Test.YtnmjkdmhfogeiaaGfF
namespace Go.Proofs.Ytnmjkdmhfogeiaa
open Go Go.RowKit GfM
set_option maxRecDepth 100000 in
theorem walkGfMul (a : Int) (wa : (Lit.int .u8 a).wf = true) (b : Int) (wb : (Lit.int .u8 b).wf = true) (w : World) :
    Calls Try.prog 4 #[.int .u8 a, .int .u8 b] w fun e w' => e = .returned (.bool true) ∧ Below w.heap.size w w' := by
  obtain ⟨a, ha, rfl⟩ := wf_nat8 wa
  obtain ⟨b, hb, rfl⟩ := wf_nat8 wb
  clear wa wb
  go_enter Try.func4, Try.ntmps4
  go_wp2_with fail
  refine (mul_c a b ha hb _).mono ?_
  rintro e w' ⟨rfl, rfl⟩
  go_wp2_with fail
  refine (mulref_c a b ha hb _).mono ?_
  rintro e w' ⟨rfl, rfl⟩
  go_wp2_with fail
  refine (awake02_c _).mono ?_
  rintro e w1 ⟨rfl, hb1⟩
  go_wp2
  go_ret
  exact ⟨rfl, hb1⟩
set_option maxRecDepth 100000 in
theorem walkGfInv (a : Int) (wa : (Lit.int .u8 a).wf = true) (w : World) :
    Calls Try.prog 6 #[.int .u8 a] w fun e w' => e = .returned (.bool true) ∧ Below w.heap.size w w' := by
  obtain ⟨a, ha, rfl⟩ := wf_nat8 wa
  clear wa
  have hl := ginv_lt a ha
  by_cases h0 : a = 0
  · subst h0
    have h0c : ∀ w, Calls Try.prog 31 #[.int .u8 0] w fun e w' => e = .returned (.int .u8 0) ∧ w = w' := fun w => by
      have := inv_c 0 (by omega) w
      rw [ginv_zero] at this; exact this
    have H0 := Lib.hid h0c
    clear h0c hl
    go_enter Try.func6, Try.ntmps6
    go_wp2_with fail
    refine (H0.out _).mono ?_
    rintro e w' ⟨rfl, rfl⟩
    go_wp2_with fail
    refine (awake02_c _).mono ?_
    rintro e w1 ⟨rfl, hb1⟩
    go_wp2
    go_ret
    exact ⟨rfl, hb1⟩
  · have hT : ((a : Int) == 0) = false := by rw [beq_eq_false_iff_ne]; omega
    have h1c : ∀ w, Calls Try.prog 28 #[.int .u8 (a : Int), .int .u8 ((ginv a : Nat) : Int)] w fun e w' => e = .returned (.int .u8 1) ∧ w = w' := fun w => by
      have := mul_c a (ginv a) ha (ginv_lt a ha) w
      rw [(inv_all a ha).resolve_left h0] at this; exact this
    have H1 := Lib.hid h1c
    clear h1c h0
    go_enter Try.func6, Try.ntmps6
    go_wp2_with fail
    refine (inv_c a ha _).mono ?_
    rintro e w' ⟨rfl, rfl⟩
    go_wp2_with fail
    refine (H1.out _).mono ?_
    rintro e w' ⟨rfl, rfl⟩
    go_wp2_with fail
    refine (inv_c a ha _).mono ?_
    rintro e w' ⟨rfl, rfl⟩
    go_wp2_with fail
    refine (refinv_c a ha _).mono ?_
    rintro e w' ⟨rfl, rfl⟩
    go_wp2_with fail
    refine (awake02_c _).mono ?_
    rintro e w1 ⟨rfl, hb1⟩
    go_wp2
    go_ret
    exact ⟨rfl, hb1⟩
end Go.Proofs.Ytnmjkdmhfogeiaa
