/- The walk of the law CtrMost. Printed by gen_most.py. -/
import Derived.Test.YtjclofkkpgdjnaaStr
import Derived.Test.YtjclofkkpgdjnaaAesY
set_option linter.unusedVariables false
set_option linter.unusedSimpArgs false
namespace Go.Proofs.Ytjclofkkpgdjnaa
open Go Go.RowKit GfM
theorem stream_bad (v : Value) (e b : Int) (n : Int) (h : n < 1 ∨ n > 65536) (w : World) : Calls Try.prog 40 #[v, .int .u64 e, .int .u32 b, .int .i64 n] w fun r w' => r = .returned (.slice none 0 0) ∧ w = w' := by
  by_cases h1 : n < 1
  · have d1 : decide (n < 1) = true := by simp; omega
    go_enter Try.func40, Try.ntmps40
    go_wp2
    go_ret
    exact ⟨rfl, rfl⟩
  · have d1 : decide (n < 1) = false := by simp; omega
    have d2 : decide (n > 65536) = true := by simp; omega
    go_enter Try.func40, Try.ntmps40
    go_wp2
    go_ret
    exact ⟨rfl, rfl⟩
/-- how long the stream is -/
def wantN (n : Int) : Nat := if n < 1 ∨ n > 65536 then 0 else n.toNat
theorem stream_len {c bx g n0 cp : Nat} {key : List Nat} (hkl : key.length = 16 ∨ key.length = 32) (n : Int) (w : World) (hC : Cip w c bx g n0 cp (roundsK key) (wordsK key)) :
    Calls Try.prog 40 #[.pointer (some ⟨c, 0, none⟩), .int .u64 1, .int .u32 2, .int .i64 n] w fun r w' => ∃ a cap, r = .returned (.slice a (wantN n) cap) ∧ Below w.heap.size w w' := by
  by_cases h : n < 1 ∨ n > 65536
  · have hw : wantN n = 0 := by unfold wantN; rw [if_pos h]
    rw [hw]
    refine (stream_bad _ 1 2 n h w).mono ?_
    rintro r w' ⟨rfl, rfl⟩
    exact ⟨none, 0, rfl, Below.refl _ _⟩
  · obtain ⟨k, rfl⟩ : ∃ k : Nat, n = k := ⟨n.toNat, by omega⟩
    have hw : wantN (k : Int) = k := by unfold wantN; rw [if_neg h]; omega
    rw [hw]
    refine (stream_c hkl 1 2 k (by omega) (by omega) (by omega) (by omega) w hC).mono ?_
    rintro r w' ⟨q, rfl, _, _, _, hb⟩
    exact ⟨_, _, rfl, hb⟩
theorem and511 (c : Int) : ∃ m : Nat, m < 512 ∧ bits BinOp.and IntKind.i64 c 511 = (m : Int) := by
  have h : (BitVec.ofInt 64 c &&& BitVec.ofInt 64 511).toNat ≤ 511 := by
    rw [BitVec.toNat_and]
    exact Nat.and_le_right
  refine ⟨(BitVec.ofInt 64 c &&& BitVec.ofInt 64 511).toNat, by omega, ?_⟩
  show IntKind.i64.wrap (((BitVec.ofInt 64 c &&& BitVec.ofInt 64 511).toNat : Nat) : Int) = _
  rw [IntKind.wrap_i64]; omega
theorem mk_key (n : Nat) (hn : n ≤ 140737488355328) (w : World) :
    (Instr.makeSlice 126 (.int .i64 (n : Int)) (.int .i64 (n : Int))).run Try.prog w = .ok (.slice (some ⟨w.heap.size, 0, none⟩) n n) (w.alloc (.cells (bA (List.replicate n 0)) 5)) := by
  have h := run_make_row' (P := Try.prog) 126 5 (.int .u8 0) 1 Try.underlying126 u8info rfl .i64 .i64 n (by omega) (by omega) w
  rw [h]
  have e : madeCells #[Value.int .u8 0] n = bA (List.replicate n 0) := by
    apply Array.toList_inj.1
    rw [toList_madeCells_one]; simp [bA]
  rw [e]
theorem wp_mk {o : Oper} {a : Act} {w : World} {K : Act → World → Prop} {Q : Exit → Act → World → Prop} (x y : Operand) (n : Nat) (hn : n ≤ 140737488355328) (ho : o.op = .makeSlice 126 x y)
    (hx : a.eval x = .int .i64 (n : Int)) (hy : a.eval y = .int .i64 (n : Int)) (h : K (a.put o.dst (.slice (some ⟨w.heap.size, 0, none⟩) n n)) (w.alloc (.cells (bA (List.replicate n 0)) 5))) : o.wp Try.prog a w K Q := by
  unfold Oper.wp execOp
  simp only [ho, hx, hy]
  have := mk_key n hn w
  simp only [Sem.run_bind, this, Result.andThen_ok]
  exact h
def zk16 : List Nat := List.replicate 16 0
end Go.Proofs.Ytjclofkkpgdjnaa
