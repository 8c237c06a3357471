/- Strings as lists of bytes: how the model's operations answer; strings.Split, Cut, FieldsFunc at the seat. -/
import Derived.Test.YteennbdakjjcfaaDoorLnM
import Derived.Test.YteennbdakjjcfaaDoorLnShelf
set_option linter.unusedVariables false
set_option linter.unusedSimpArgs false
namespace Go.Proofs.YteennbdakjjcfaaDoor
open Go Go.RowKit Go.Lib
/-- bytes as a string's value -/
def sV (l : List UInt8) : Value := .string ⟨l.toArray⟩
theorem sV_eq (b : ByteArray) : Value.string b = sV b.data.toList := rfl
@[go_sem] theorem run_len_sV {P : Program} (w : World) (t ty : TypeId) (l : List UInt8) (h : P.underlying t = some .string) : (Builtin.len_ #[t] ty #[sV l]).run P w = .ok (.int .i64 (l.length : Int)) w := by
  unfold sV
  rw [run_len_string w t ty _ h]
  rfl
theorem size_sV (l : List UInt8) : (ByteArray.mk l.toArray).size = l.length := rfl
theorem run_index_sV {P : Program} (w : World) (t : TypeId) (l : List UInt8) (i : Nat) (h : P.underlying t = some .string) (hi : i < l.length) : (Instr.index t (sV l) (.int .i64 (i : Int))).run P w = .ok (.int .u8 ((l.getD i 0).toNat : Int)) w := by
  unfold sV
  rw [run_index_string w t _ .i64 _ h, dif_pos ⟨by omega, by rw [size_sV]; omega⟩]
  congr 3
  show ((l.toArray)[(i : Int).toNat]'_).toNat = _
  rw [List.getD_eq_getElem?_getD, List.getElem?_eq_getElem hi]
  rfl
@[go_sem] theorem eqGuard_sV (op : BinOp) (t : TypeId) (x y : Operand) (a : List UInt8) (v : Value) : eqGuard op t x y (sV a) v = pure () := by cases op <;> rfl
theorem beq_dec (a b : List UInt8) : (a == b) = decide (a = b) := by
  by_cases h : a = b
  · rw [h, beq_self_eq_true]; simp
  · rw [beq_eq_false_iff_ne.2 h]; simp [h]
@[go_sem] theorem run_eql_sV {P : Program} (w : World) (t : TypeId) (a b : List UInt8) : (binOp .eql t (sV a) (sV b)).run P w = .ok (.bool (decide (a = b))) w := by
  unfold sV
  rw [binOp_string_eql, ByteArray.toList_mk, ByteArray.toList_mk, beq_dec]
  rfl
@[go_sem] theorem run_neq_sV {P : Program} (w : World) (t : TypeId) (a b : List UInt8) : (binOp .neq t (sV a) (sV b)).run P w = .ok (.bool (!decide (a = b))) w := by
  unfold sV
  rw [binOp_string_neq, ByteArray.toList_mk, ByteArray.toList_mk, beq_dec]
  rfl
@[go_sem] theorem run_eql_sVc {P : Program} (w : World) (t : TypeId) (a : List UInt8) (b : Array UInt8) : (binOp .eql t (sV a) (.string ⟨b⟩)).run P w = .ok (.bool (decide (a = b.toList))) w := run_eql_sV w t a b.toList
@[go_sem] theorem run_neq_sVc {P : Program} (w : World) (t : TypeId) (a : List UInt8) (b : Array UInt8) : (binOp .neq t (sV a) (.string ⟨b⟩)).run P w = .ok (.bool (!decide (a = b.toList))) w := run_neq_sV w t a b.toList
@[go_sem] theorem run_add_sV {P : Program} (w : World) (t : TypeId) (a b : List UInt8) (h : a.length + b.length ≤ 9223372036854775807) : (binOp .add t (sV a) (sV b)).run P w = .ok (sV (a ++ b)) w := by
  unfold sV
  rw [binOp_string_add, run_string_add_sum w _ _ (by rw [size_sV, size_sV]; exact h), ByteArray.mk_append_mk]
@[go_sem] theorem run_add_sVc {P : Program} (w : World) (t : TypeId) (a : List UInt8) (b : Array UInt8) (h : a.length + b.size ≤ 9223372036854775807) : (binOp .add t (sV a) (.string ⟨b⟩)).run P w = .ok (sV (a ++ b.toList)) w :=
  run_add_sV w t a b.toList (by rw [Array.length_toList]; exact h)
@[go_sem] theorem run_add_csV {P : Program} (w : World) (t : TypeId) (a : Array UInt8) (b : List UInt8) (h : a.size + b.length ≤ 9223372036854775807) : (binOp .add t (.string ⟨a⟩) (sV b)).run P w = .ok (sV (a.toList ++ b)) w :=
  run_add_sV w t a.toList b (by rw [Array.length_toList]; exact h)
theorem run_slice_sV {P : Program} (w : World) (t : TypeId) (l : List UInt8) (i j : Nat) (h : P.underlying t = some .string) (hi : i ≤ j) (hj : j ≤ l.length) :
    (Instr.sliceAt t (sV l) (some (.int .i64 (i : Int))) (some (.int .i64 (j : Int))) none).run P w = .ok (sV ((l.drop i).take (j - i))) w := by
  unfold sV
  rw [run_sliceAt_string (h := h), run_slice_string w t _ .i64 .i64 _ _ h (by omega) (by omega) (by rw [size_sV]; omega), Int.toNat_natCast, Int.toNat_natCast, ByteArray.extract_mk]
theorem run_slice_op {l : List UInt8} {i j : Nat} (hi : i ≤ j) (hj : j ≤ l.length) (E : Operand → Value) (x y z : Operand) (op : Oper) (ho : op.op = .slice 9 x (some y) (some z) none) (hx : E x = sV l) (hy : E y = .int .i64 (i : Int)) (hz : E z = .int .i64 (j : Int)) (w : World) :
    (execOp E op).run Tryd.prog w = .ok (.value (sV ((l.drop i).take (j - i)))) w := by
  unfold execOp
  simp only [ho, Option.map_some, Option.map_none, hx, hy, hz, Sem.run_bind, run_slice_sV w 9 l i j Tryd.underlying9 hi hj, Result.andThen_ok]
  rfl
theorem wpList_slice_s {w : World} {ops : Array Oper} {rest : List Oper} {op : Oper} {A : Act} {Q : Exit → Act → World → Prop} (hgd : op.guard = none) {l : List UInt8} {i j : Nat} (x y z : Operand) (ho : op.op = .slice 9 x (some y) (some z) none) (hx : A.eval x = sV l) (hy : A.eval y = .int .i64 (i : Int)) (hz : A.eval z = .int .i64 (j : Int))
    (hi : i ≤ j) (hj : j ≤ l.length) (hK : wpList Tryd.prog ops Q rest (A.put op.dst (sV ((l.drop i).take (j - i)))) w) : wpList Tryd.prog ops Q (op :: rest) A w :=
  wpList_plain hgd fun _ hk => by
    unfold Oper.wp
    rw [run_slice_op hi hj A.eval x y z op ho hx hy hz w]
    exact hk _ _ hK
theorem strinfo : (Tryd.prog.info? 9).map (fun i => (i.zero, i.size, i.bytes)) = some (some (.string ByteArray.empty), 1, 16) := by kernel_rfl
theorem lines_count (s : List UInt8) : countB ⟨s.toArray⟩ sepN = s.count 10 := by
  unfold countB
  exact count_one _ _
theorem linesL_len : ∀ (s : List UInt8), (linesL s).length = s.count 10 + 1
  | [] => rfl
  | c :: s => by
    have ih := linesL_len s
    by_cases hc : c = 10
    · subst hc
      unfold linesL
      rw [if_pos rfl, List.length_cons, ih, List.count_cons_self]
    · have hb : (c == 10) = false := beq_eq_false_iff_ne.2 hc
      unfold linesL
      rw [if_neg hc, List.count_cons, hb]
      cases h : linesL s with
      | nil => exact absurd h (linesL_ne s)
      | cons l ls => rw [h] at ih; simpa using ih
set_option maxRecDepth 100000 in
theorem split_c (s : List UInt8) (hs : s.length ≤ 1000000) (w : World) :
    Calls Tryd.prog 22 #[sV s, sV [10]] w fun e w' => e = .returned (.slice (some ⟨w.heap.size, 0, none⟩) (linesL s).length (linesL s).length) ∧ w' = w.alloc (.cells ((linesL s).map sV).toArray 9) := by
  have hn : sepN.size = 1 := rfl
  have hll := linesL_len s
  have hcb := lines_count s
  have hle : s.count 10 ≤ s.length := List.count_le_length
  have hsz : (ByteArray.mk s.toArray).size = s.length := rfl
  have c := Any.strings_genSplit_core { lays146 with } strinfo ⟨s.toArray⟩ sepN 0 (-1) (countB ⟨s.toArray⟩ sepN + 1) w (by rw [hsz]; omega) (by rw [hn]; exact Nat.le_refl _) (Nat.zero_le _)
    (fun x cc _ => by
      have := Any.strings_Index_one { lays146 with } x 10 (w.alloc (.cells cc (lays146_ren.t 9)))
      rw [indexN]
      exact this)
    (by
      have := Any.strings_Count_one { lays146 with } ⟨s.toArray⟩ 10 w
      rw [hcb]
      exact this)
    (by decide) (by decide) (by rw [if_pos (by decide), hcb, hsz]; omega)
  rw [Nat.add_sub_cancel] at c
  have hsp := split_lines (countB ⟨s.toArray⟩ sepN) ⟨s.toArray⟩ (by rw [hcb]; exact Nat.le_refl _)
  have hmap : (splitB sepN 0 (countB ⟨s.toArray⟩ sepN) ⟨s.toArray⟩).map Value.string = (linesL s).map sV := by
    rw [← hsp, List.map_map]
    rfl
  have hlen : (splitB sepN 0 (countB ⟨s.toArray⟩ sepN) ⟨s.toArray⟩).length = (linesL s).length := by
    have := congrArg List.length hsp
    rw [List.length_map] at this
    exact this
  have hlc : countB ⟨s.toArray⟩ sepN + 1 = (linesL s).length := by rw [hcb, hll]
  have hfull : cellsOf (splitB sepN 0 (countB ⟨s.toArray⟩ sepN) ⟨s.toArray⟩) (countB ⟨s.toArray⟩ sepN + 1) = ((linesL s).map sV).toArray := by
    rw [hlc, ← hlen, cellsOf_full, hmap]
  rw [hfull, hlen, hlc] at c
  have c2 : Calls Tryd.prog 38 #[sV s, sV [10], .int .i64 0, .int .i64 (-1)] w fun e w' => e = .returned (.slice (some ⟨w.heap.size, 0, none⟩) (linesL s).length (linesL s).length) ∧ w' = w.alloc (.cells ((linesL s).map sV).toArray 9) := c
  have C := Lib.hid c2
  clear c c2 hfull hlc hlen hmap hsp hsz hle hcb hll hn hs
  go_enter Tryd.func22, Tryd.ntmps22
  go_wp2_with fail
  refine C.out.mono ?_
  rintro e w' ⟨rfl, rfl⟩
  go_wp2
  go_ret
  exact ⟨rfl, rfl⟩
end Go.Proofs.YteennbdakjjcfaaDoor
