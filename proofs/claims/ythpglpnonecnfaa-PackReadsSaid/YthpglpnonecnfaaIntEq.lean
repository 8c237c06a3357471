/- '==' and '!=' between two arrays of sixteen ints. -/
import Derived.Test.YthpglpnonecnfaaPkA
import Derived.ChangeKeysEq
set_option linter.unusedVariables false
namespace Go.Proofs.Ythpglpnonecnfaa
open Go Go.RowKit
/-- ints as an array's cells -/
def iA (l : List Int) : Array Value := (l.map fun (n : Int) => Value.int .i64 n).toArray
theorem iA_get (l : List Int) (k : Nat) (h : k < l.length) : (iA l)[k]? = some (.int .i64 (l.getD k 0)) := by
  unfold iA; simp [h]
theorem equalIn_ints (P : Program) (d n : Nat) (t e : TypeId) (i0 : TypeInfo) (ht : P.underlying t = some (.array n e)) (he : P.underlying e = some (.int .i64)) (hp : P.plainKey e = true) (hi : P.info? e = some i0) (hs : P.cellsOf e = 1)
    (xs ys : List Int) (hx : xs.length = n) (hy : ys.length = n) (w : World) :
    (Op.equalIn (d + 2) t (.agg (iA xs)) (.agg (iA ys))).run P w = .ok (decide (xs = ys)) w := by
  have hE : ∀ (a b : Int) (w : World), (Op.equalIn (d + 1) e (.int .i64 a) (.int .i64 b)).run P w = .ok (a == b) w := fun a b w => run_equalIn_int w d e .i64 .i64 a b he
  show (Op.equalIn ((d + 1) + 1) t _ _).run P w = _
  generalize d + 1 = D at *
  simp only [Op.equalIn, Sem.run_bind, run_underlying ht, Result.andThen_ok]
  rw [run_sizeOf (w := w) hi, hs]
  simp only [Result.andThen_ok]
  rw [Std.Legacy.Range.forIn_eq_forIn_range']
  simp only [Std.Legacy.Range.size, Nat.sub_zero, Nat.add_one_sub_one, Nat.div_one]
  have key : ∀ (m k : Nat), k + m = n → xs.take k = ys.take k →
      ((forIn (List.range' k m) ((none : Option Bool), ()) fun i _ => do
        let a ← part e (iA xs) (i * 1)
        let b ← part e (iA ys) (i * 1)
        let c ← Op.equalIn D e a b
        if (!c) = true then pure (ForInStep.done (some false, ())) else pure (ForInStep.yield ((none : Option Bool), ())) : Sem (Option Bool × Unit)).run P w)
        = .ok (if xs = ys then none else some false, ()) w := by
    intro m
    induction m with
    | zero =>
      intro k hk ht
      have : xs = ys := by rw [List.take_of_length_le (by omega), List.take_of_length_le (by omega)] at ht; exact ht
      simp [this]
    | succ m ih =>
      intro k hk ht
      have hkx : k < xs.length := by omega
      have hky : k < ys.length := by omega
      have h1 := run_part_plain (w := w) hp (iA_get xs k hkx)
      have h2 := run_part_plain (w := w) hp (iA_get ys k hky)
      simp only [List.range'_succ, List.forIn_cons, Nat.mul_one] at *
      simp only [Sem.run_bind, h1, h2, Result.andThen_ok, hE]
      by_cases hh : xs.getD k 0 = ys.getD k 0
      · have := ih (k + 1) (by omega) (by
          rw [List.take_succ_eq_append_getElem hkx, List.take_succ_eq_append_getElem hky, ht]
          simp [hkx, hky] at hh
          rw [hh])
        rw [hh]
        simpa using this
      · have hne : xs ≠ ys := fun h => hh (by rw [h])
        have hb : (xs.getD k 0 == ys.getD k 0) = false := by rw [beq_eq_false_iff_ne]; exact hh
        rw [hb]
        simp [hne]
  have := key n 0 (by omega) rfl
  rw [this]
  by_cases h : xs = ys <;> simp [h]
theorem eql_ints (P : Program) (n : Nat) (t e : TypeId) (i0 : TypeInfo) (ht : P.underlying t = some (.array n e)) (he : P.underlying e = some (.int .i64)) (hp : P.plainKey e = true) (hi : P.info? e = some i0) (hs : P.cellsOf e = 1)
    (xs ys : List Int) (hx : xs.length = n) (hy : ys.length = n) (w : World) :
    (binOp .eql t (.agg (iA xs)) (.agg (iA ys))).run P w = .ok (.bool (decide (xs = ys))) w := by
  rw [run_eql_struct, equalIn_ints P 9998 n t e i0 ht he hp hi hs xs ys hx hy]; rfl
theorem neq_ints (P : Program) (n : Nat) (t e : TypeId) (i0 : TypeInfo) (ht : P.underlying t = some (.array n e)) (he : P.underlying e = some (.int .i64)) (hp : P.plainKey e = true) (hi : P.info? e = some i0) (hs : P.cellsOf e = 1)
    (xs ys : List Int) (hx : xs.length = n) (hy : ys.length = n) (w : World) :
    (binOp .neq t (.agg (iA xs)) (.agg (iA ys))).run P w = .ok (.bool (!decide (xs = ys))) w := by
  rw [run_neq_struct, equalIn_ints P 9998 n t e i0 ht he hp hi hs xs ys hx hy]; rfl
theorem intplainP : Try.prog.plainKey 3 = true := by kernel_rfl
theorem intcellsP : Try.prog.cellsOf 3 = 1 := by kernel_rfl
theorem intinfoP : (Try.prog.info? 3).map (fun i => i.size) = some 1 := by kernel_rfl
theorem roots_eql (R R' : List Int) (h : R.length = 16) (h' : R'.length = 16) (w : World) : (binOp .eql 23 (.agg (R.map fun (n : Int) => Value.int .i64 n).toArray) (.agg (R'.map fun (n : Int) => Value.int .i64 n).toArray)).run Try.prog w = .ok (.bool (decide (R = R'))) w := by
  obtain ⟨i0, hi, _⟩ := Option.map_eq_some_iff.1 intinfoP
  exact eql_ints Try.prog 16 23 3 i0 Try.underlying23 Try.underlying3 intplainP hi intcellsP R R' h h' w
theorem roots_neq (R R' : List Int) (h : R.length = 16) (h' : R'.length = 16) (w : World) : (binOp .neq 23 (.agg (R.map fun (n : Int) => Value.int .i64 n).toArray) (.agg (R'.map fun (n : Int) => Value.int .i64 n).toArray)).run Try.prog w = .ok (.bool (!decide (R = R'))) w := by
  obtain ⟨i0, hi, _⟩ := Option.map_eq_some_iff.1 intinfoP
  exact neq_ints Try.prog 16 23 3 i0 Try.underlying23 Try.underlying3 intplainP hi intcellsP R R' h h' w
end Go.Proofs.Ythpglpnonecnfaa
