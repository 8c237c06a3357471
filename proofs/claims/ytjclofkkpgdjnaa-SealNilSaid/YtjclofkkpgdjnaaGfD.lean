/- Contracts of the reference's Mul and Inv. -/
import Derived.Test.YtjclofkkpgdjnaaGfC
set_option linter.unusedVariables false
namespace Go.Proofs.Ytjclofkkpgdjnaa
open Go Go.RowKit GfM
theorem refP_step (n p w a b : Nat) : refP (n + 1) p w a b = refP n (p ^^^ a * w * (b / w % 2)) (2 * w) a b := rfl
theorem refR_step (k p : Nat) : refR (k + 1) p = refR k (p ^^^ 283 * 2 ^ k * (p / 2 ^ (k + 8) % 2)) := rfl
theorem bitT (q m : Nat) (h : q / 2 ^ m % 2 = 1) : ((((q : Int) / 2 ^ m).tmod 2) == 1) = true := by
  have e : ((q : Int) / 2 ^ m) = ((q / 2 ^ m : Nat) : Int) := by simp
  rw [e, Int.tmod_eq_emod_of_nonneg (Int.natCast_nonneg _), beq_iff_eq]; omega
theorem bitF (q m : Nat) (h : ¬ q / 2 ^ m % 2 = 1) : ((((q : Int) / 2 ^ m).tmod 2) == 1) = false := by
  have e : ((q : Int) / 2 ^ m) = ((q / 2 ^ m : Nat) : Int) := by simp
  rw [e, Int.tmod_eq_emod_of_nonneg (Int.natCast_nonneg _), beq_eq_false_iff_ne]; omega
theorem n283 (j : Nat) (h : j ≤ 7) : 283 * 2 ^ j < 65536 := by
  have := Nat.pow_le_pow_right (n := 2) (by decide) h
  omega
theorem w283 (j : Nat) (h : j ≤ 7) : wrap64 (283 * 2 ^ j) = ((283 * 2 ^ j : Nat) : Int) := by
  have h1 := n283 j h
  have e : (283 * 2 ^ j : Int) = ((283 * 2 ^ j : Nat) : Int) := by simp
  rw [e]; exact IntWalk.wrap64_in _ (by omega)
end Go.Proofs.Ytjclofkkpgdjnaa
