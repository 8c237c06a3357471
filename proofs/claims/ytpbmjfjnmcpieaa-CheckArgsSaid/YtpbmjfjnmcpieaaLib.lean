/- Small lemmas for walks: any program. -/
import Derived.WalkKit
import Derived.WalkLawsBesides
import Derived.WalkSpells
import Derived.BigQuiet
import Derived.Deep.QuietTactic
import Derived.Lib.Hide
set_option linter.unusedVariables false
namespace Go.Proofs.Ytpbmjfjnmcpieaa
open Go Go.RowKit
theorem ret_i {k : IntKind} {a b : Int} (h : a = b) : Ending.returned (.int k a) = .returned (.int k b) := by rw [h]
theorem vint {k : IntKind} {a b : Int} (h : a = b) : Value.int k a = .int k b := by rw [h]
theorem u8x {x y : Int} {a b : Nat} (hx : x = a) (hy : y = b) (ha : a < 256) (hb : b < 256) : bits .xor .u8 x y = ((a ^^^ b : Nat) : Int) := by
  subst hx; subst hy; exact u8_xor_nat a b ha hb
theorem u8o {x y : Int} {a b : Nat} (hx : x = a) (hy : y = b) (ha : a < 256) (hb : b < 256) : bits .or .u8 x y = ((a ||| b : Nat) : Int) := by
  subst hx; subst hy; exact u8_or_nat a b ha hb
theorem u8a1 (y : Nat) (hy : y < 256) : bits .and .u8 (y : Int) 1 = ((y % 2 : Nat) : Int) := by
  have h := u8_and_nat y 1 hy (by omega)
  rw [Nat.and_one_is_mod] at h; exact h
theorem i64a1 (y : Nat) (hy : y < 9223372036854775808) : bits .and .i64 (y : Int) 1 = ((y % 2 : Nat) : Int) := by
  have h := bits_nat .i64 63 (by decide) (fun n h0 h1 => by rw [IntKind.wrap_i64]; omega) y 1 hy (by decide)
  have h1 := h.1
  rw [Nat.and_one_is_mod] at h1; exact h1
theorem i64_odd (m : Nat) (hm : m < 9223372036854775808) (h : m % 2 = 1) : (bits BinOp.and IntKind.i64 (m : Int) 1 == 1) = true := by
  have e := i64a1 m hm
  rw [h] at e; rw [e]; decide
theorem i64_even (m : Nat) (hm : m < 9223372036854775808) (h : ¬ m % 2 = 1) : (bits BinOp.and IntKind.i64 (m : Int) 1 == 1) = false := by
  have e := i64a1 m hm
  rw [show m % 2 = 0 by omega] at e; rw [e]; decide
theorem i64_nat (a b : Nat) (ha : a < 2 ^ 63) (hb : b < 2 ^ 63) :
    bits .and .i64 a b = ((a &&& b : Nat) : Int) ∧ bits .or .i64 a b = ((a ||| b : Nat) : Int) ∧ bits .xor .i64 a b = ((a ^^^ b : Nat) : Int) := by
  have ha' : a % 2 ^ 64 = a := Nat.mod_eq_of_lt (by omega)
  have hb' : b % 2 ^ 64 = b := Nat.mod_eq_of_lt (by omega)
  have wr : ∀ n : Nat, n < 2 ^ 63 → IntKind.i64.wrap (n : Int) = n := fun n h => by rw [IntKind.wrap_i64]; omega
  have e : IntKind.i64.bits = 64 := rfl
  refine ⟨?_, ?_, ?_⟩
  · simp only [bits, e, BitVec.ofInt_natCast, BitVec.toNat_and, BitVec.toNat_ofNat, ha', hb']
    exact wr _ (Nat.and_lt_two_pow _ hb)
  · simp only [bits, e, BitVec.ofInt_natCast, BitVec.toNat_or, BitVec.toNat_ofNat, ha', hb']
    exact wr _ (Nat.or_lt_two_pow ha hb)
  · simp only [bits, e, BitVec.ofInt_natCast, BitVec.toNat_xor, BitVec.toNat_ofNat, ha', hb']
    exact wr _ (Nat.xor_lt_two_pow ha hb)
theorem i64x {x y : Int} {a b : Nat} (hx : x = a) (hy : y = b) (ha : a < 9223372036854775808) (hb : b < 9223372036854775808) : bits .xor .i64 x y = ((a ^^^ b : Nat) : Int) := by
  subst hx; subst hy; exact (i64_nat a b ha hb).2.2
theorem i64o {x y : Int} {a b : Nat} (hx : x = a) (hy : y = b) (ha : a < 9223372036854775808) (hb : b < 9223372036854775808) : bits .or .i64 x y = ((a ||| b : Nat) : Int) := by
  subst hx; subst hy; exact (i64_nat a b ha hb).2.1
theorem i64n {x y : Int} {a b : Nat} (hx : x = a) (hy : y = b) (ha : a < 9223372036854775808) (hb : b < 9223372036854775808) : bits .and .i64 x y = ((a &&& b : Nat) : Int) := by
  subst hx; subst hy; exact (i64_nat a b ha hb).1
theorem wf_nat8 {a : Int} (h : (Lit.int .u8 a).wf = true) : ∃ n : Nat, n < 256 ∧ a = n := by
  have hmin : IntKind.u8.min = 0 := rfl
  have hmax : IntKind.u8.max = 255 := rfl
  simp only [Lit.wf, Bool.and_eq_true, decide_eq_true_eq] at h
  exact ⟨a.toNat, by omega, by omega⟩
theorem wf_nat16 {a : Int} (h : (Lit.int .u16 a).wf = true) : ∃ n : Nat, n < 65536 ∧ a = n := by
  have hmin : IntKind.u16.min = 0 := rfl
  have hmax : IntKind.u16.max = 65535 := rfl
  simp only [Lit.wf, Bool.and_eq_true, decide_eq_true_eq] at h
  exact ⟨a.toNat, by omega, by omega⟩
theorem wf_nat32 {a : Int} (h : (Lit.int .u32 a).wf = true) : ∃ n : Nat, n < 4294967296 ∧ a = n := by
  have hmin : IntKind.u32.min = 0 := rfl
  have hmax : IntKind.u32.max = 4294967295 := rfl
  simp only [Lit.wf, Bool.and_eq_true, decide_eq_true_eq] at h
  exact ⟨a.toNat, by omega, by omega⟩
theorem wf_nat64 {a : Int} (h : (Lit.int .u64 a).wf = true) : ∃ n : Nat, n < 18446744073709551616 ∧ a = n := by
  have hmin : IntKind.u64.min = 0 := rfl
  have hmax : IntKind.u64.max = 18446744073709551615 := rfl
  simp only [Lit.wf, Bool.and_eq_true, decide_eq_true_eq] at h
  exact ⟨a.toNat, by omega, by omega⟩
theorem wf_i64 {a : Int} (h : (Lit.int .i64 a).wf = true) : -9223372036854775808 ≤ a ∧ a ≤ 9223372036854775807 := by
  have hmin : IntKind.i64.min = -9223372036854775808 := rfl
  have hmax : IntKind.i64.max = 9223372036854775807 := rfl
  simp only [Lit.wf, Bool.and_eq_true, decide_eq_true_eq] at h
  omega
end Go.Proofs.Ytpbmjfjnmcpieaa
