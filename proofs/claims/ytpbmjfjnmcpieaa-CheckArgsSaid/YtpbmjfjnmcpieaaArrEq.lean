/- '==' between two arrays of bytes: any program. -/
import Derived.Test.YtpbmjfjnmcpieaaLib
import Derived.ChangeKeysEq
set_option linter.unusedVariables false
namespace Go.Proofs.Ytpbmjfjnmcpieaa
open Go Go.RowKit
/-- bytes as an array's cells -/
def bA (l : List Nat) : Array Value := (l.map fun (n : Nat) => Value.int .u8 (n : Int)).toArray
theorem bA_get (l : List Nat) (k : Nat) (h : k < l.length) : (bA l)[k]? = some (.int .u8 ((l.getD k 0 : Nat) : Int)) := by
  unfold bA; simp [h]
theorem bA_size (l : List Nat) : (bA l).size = l.length := by simp [bA]
theorem bA_set (l : List Nat) (k n : Nat) : (bA l).setIfInBounds k (.int .u8 (n : Int)) = bA (l.set k n) := by
  unfold bA; simp [List.map_set]
theorem equalIn_bytes (P : Program) (d n : Nat) (t e : TypeId) (i0 : TypeInfo) (ht : P.underlying t = some (.array n e)) (he : P.underlying e = some (.int .u8)) (hp : P.plainKey e = true) (hi : P.info? e = some i0) (hs : P.cellsOf e = 1)
    (xs ys : List Nat) (hx : xs.length = n) (hy : ys.length = n) (w : World) :
    (Op.equalIn (d + 2) t (.agg (bA xs)) (.agg (bA ys))).run P w = .ok (decide (xs = ys)) w := by
  have hE : ∀ (a b : Int) (w : World), (Op.equalIn (d + 1) e (.int .u8 a) (.int .u8 b)).run P w = .ok (a == b) w := fun a b w => run_equalIn_int w d e .u8 .u8 a b he
  show (Op.equalIn ((d + 1) + 1) t _ _).run P w = _
  generalize d + 1 = D at *
  simp only [Op.equalIn, Sem.run_bind, run_underlying ht, Result.andThen_ok]
  rw [run_sizeOf (w := w) hi, hs]
  simp only [Result.andThen_ok]
  rw [Std.Legacy.Range.forIn_eq_forIn_range']
  simp only [Std.Legacy.Range.size, Nat.sub_zero, Nat.add_one_sub_one, Nat.div_one]
  have key : ∀ (m k : Nat), k + m = n → xs.take k = ys.take k →
      ((forIn (List.range' k m) ((none : Option Bool), ()) fun i _ => do
        let a ← part e (bA xs) (i * 1)
        let b ← part e (bA ys) (i * 1)
        let c ← Op.equalIn D e a b
        if (!c) = true then pure (ForInStep.done (some false, ())) else pure (ForInStep.yield ((none : Option Bool), ())) : Sem (Option Bool × Unit)).run P w)
        = .ok (if xs = ys then none else some false, ()) w := by
    intro m
    induction m with
    | zero =>
      intro k hk ht
      have : xs = ys := by rw [List.take_of_length_le (by omega), List.take_of_length_le (by omega)] at ht; exact ht
      simp [this]
    | succ m ih =>
      intro k hk ht
      have hkx : k < xs.length := by omega
      have hky : k < ys.length := by omega
      have h1 := run_part_plain (w := w) hp (bA_get xs k hkx)
      have h2 := run_part_plain (w := w) hp (bA_get ys k hky)
      simp only [List.range'_succ, List.forIn_cons, Nat.mul_one] at *
      simp only [Sem.run_bind, h1, h2, Result.andThen_ok, hE]
      by_cases hh : xs.getD k 0 = ys.getD k 0
      · have := ih (k + 1) (by omega) (by
          rw [List.take_succ_eq_append_getElem hkx, List.take_succ_eq_append_getElem hky, ht]
          simp [hkx, hky] at hh
          rw [hh])
        rw [hh]
        simpa using this
      · have hne : xs ≠ ys := fun h => hh (by rw [h])
        have hb : (((xs.getD k 0 : Nat) : Int) == ((ys.getD k 0 : Nat) : Int)) = false := by rw [beq_eq_false_iff_ne]; omega
        rw [hb]
        simp [hne]
  have := key n 0 (by omega) rfl
  rw [this]
  by_cases h : xs = ys <;> simp [h]
theorem eql_bytes (P : Program) (n : Nat) (t e : TypeId) (i0 : TypeInfo) (ht : P.underlying t = some (.array n e)) (he : P.underlying e = some (.int .u8)) (hp : P.plainKey e = true) (hi : P.info? e = some i0) (hs : P.cellsOf e = 1)
    (xs ys : List Nat) (hx : xs.length = n) (hy : ys.length = n) (w : World) :
    (binOp .eql t (.agg (bA xs)) (.agg (bA ys))).run P w = .ok (.bool (decide (xs = ys))) w := by
  rw [run_eql_struct, equalIn_bytes P 9998 n t e i0 ht he hp hi hs xs ys hx hy]; rfl
end Go.Proofs.Ytpbmjfjnmcpieaa
