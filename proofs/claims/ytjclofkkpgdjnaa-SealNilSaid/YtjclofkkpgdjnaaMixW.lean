/- The walk of the law GfMix. -/
import Derived.Test.YtjclofkkpgdjnaaMixD
import Derived.Test.YtjclofkkpgdjnaaArrEq
import Derived.Test.YtjclofkkpgdjnaaReg
set_option linter.unusedVariables false
namespace Go.Proofs.Ytjclofkkpgdjnaa
open Go Go.RowKit GfM
theorem u8some : ∃ i, Try.prog.info? 5 = some i := by
  have h : (Try.prog.info? 5).isSome = true := by kernel_rfl
  exact Option.isSome_iff_exists.1 h
theorem u8plain : Try.prog.plainKey 5 = true := by kernel_rfl
theorem u8cells : Try.prog.cellsOf 5 = 1 := by kernel_rfl
theorem eq4 (g : Nat → Nat) (w : World) : (binOp .eql 133 (.agg (v4 g)) (.agg (v4 g))).run Try.prog w = .ok (.bool true) w := by
  obtain ⟨i, hi⟩ := u8some
  have := eql_bytes Try.prog 4 133 5 i Try.underlying133 Try.underlying5 u8plain hi u8cells [g 0, g 1, g 2, g 3] [g 0, g 1, g 2, g 3] rfl rfl w
  rw [show Value.agg (v4 g) = .agg (bA [g 0, g 1, g 2, g 3]) from rfl, this]
  simp
theorem v4_lit (g : Nat → Nat) : #[.int .u8 (g 0 : Int), .int .u8 (g 1 : Int), .int .u8 (g 2 : Int), .int .u8 (g 3 : Int)] = v4 g := rfl
theorem vec2311 : #[.int .u8 2, .int .u8 3, .int .u8 1, .int .u8 1] = v4 (vec 2 3 1 1) := rfl
theorem vecebd9 : #[.int .u8 14, .int .u8 11, .int .u8 13, .int .u8 9] = v4 (vec 14 11 13 9) := rfl
theorem vec_lt (a b c d : Nat) (ha : a < 256) (hb : b < 256) (hc : c < 256) (hd : d < 256) : ∀ j, j < 4 → vec a b c d j < 256 := fun j hj => by
  match j, hj with
  | 0, _ => exact ha
  | 1, _ => exact hb
  | 2, _ => exact hc
  | 3, _ => exact hd
theorem mix_as (A : Array Value) (c g : Nat → Nat) (hc : ∀ j, j < 4 → c j < 256) (hA : A = v4 c) (hg : ∀ j, j < 4 → mixN c j = g j) (w : World) :
    Calls Try.prog 102 #[.agg A] w fun e w' => e = .returned (.agg (v4 g)) ∧ Below w.heap.size w w' := by
  subst hA; rw [← v4_ext hg]; exact mix_c c hc w
end Go.Proofs.Ytjclofkkpgdjnaa
