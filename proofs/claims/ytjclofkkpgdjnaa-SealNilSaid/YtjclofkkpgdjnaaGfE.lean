/- Contracts of the reference's Inv; the chapter's example. -/
import Derived.Test.YtjclofkkpgdjnaaGfD
set_option linter.unusedVariables false
namespace Go.Proofs.Ytjclofkkpgdjnaa
open Go Go.RowKit GfM
theorem ex1 : gmul 87 131 = 193 := by decide +kernel
theorem ex2 : sbx 0 = 99 := by decide +kernel
theorem ex3 : sbx 83 = 237 := by decide +kernel
theorem mul_ex (w : World) : Calls Try.prog 111 #[.int .u8 87, .int .u8 131] w fun e w' => e = .returned (.int .u8 193) ∧ w = w' := by
  have := mul_c 87 131 (by omega) (by omega) w
  rw [ex1] at this; exact this
theorem sub_ex0 (w : World) (b : Nat) (h : IsBox w b) : Calls Try.prog 100 #[.pointer (some ⟨b, 0, none⟩), .int .u8 0] w fun e w' => e = .returned (.int .u8 99) ∧ w = w' := by
  have := sub_c w b 0 (by omega) h
  rw [ex2] at this; exact this
theorem sub_ex1 (w : World) (b : Nat) (h : IsBox w b) : Calls Try.prog 100 #[.pointer (some ⟨b, 0, none⟩), .int .u8 83] w fun e w' => e = .returned (.int .u8 237) ∧ w = w' := by
  have := sub_c w b 83 (by omega) h
  rw [ex3] at this; exact this
end Go.Proofs.Ytjclofkkpgdjnaa
