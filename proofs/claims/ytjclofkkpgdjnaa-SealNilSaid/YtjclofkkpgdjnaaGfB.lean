/- Contracts of gf.affine, gf.NewBox, Sub, Back. -/
import Derived.Test.YtjclofkkpgdjnaaGfA
set_option linter.unusedVariables false
namespace Go.Proofs.Ytjclofkkpgdjnaa
open Go Go.RowKit GfM

def rot (i k : Nat) : Nat := (i * 2 ^ k % 256) ||| (i / 2 ^ (8 - k))
def aff (i : Nat) : Nat := i ^^^ rot i 1 ^^^ rot i 2 ^^^ rot i 3 ^^^ rot i 4 ^^^ 99
theorem rot_lt (i k : Nat) (hi : i < 256) : rot i k < 256 := by
  refine Nat.or_lt_two_pow (n := 8) (by omega) ?_
  exact Nat.lt_of_le_of_lt (Nat.div_le_self _ _) hi
theorem aff_lt (i : Nat) (hi : i < 256) : aff i < 256 := by
  unfold aff
  exact xor_lt _ _ (xor_lt _ _ (xor_lt _ _ (xor_lt _ _ (xor_lt _ _ hi (rot_lt i 1 hi)) (rot_lt i 2 hi)) (rot_lt i 3 hi)) (rot_lt i 4 hi)) (by omega)
theorem rot_int (i k : Nat) (hi : i < 256) : bits BinOp.or IntKind.u8 ((i : Int) * 2 ^ k % 256) ((i : Int) / 2 ^ (8 - k)) = ((rot i k : Nat) : Int) :=
  u8o (by simp) (by simp) (by omega) (Nat.lt_of_le_of_lt (Nat.div_le_self _ _) hi)
set_option maxHeartbeats 400000 in
theorem turned_c (i k : Nat) (hi : i < 256) (hk : k ≤ 8) (p : Addr) (w : World) (hc : w.cell? p = some (.int .u8 i)) :
    Calls Try.prog 94 #[.int .i64 (k : Int), .pointer (some p)] w fun e w' => e = .returned (.int .u8 ((rot i k : Nat) : Int)) ∧ ∃ n, w' = w.drewN n := by
  have h8 : (0 : Int) ≤ 8 - (k : Int) := by omega
  go_enter Try.func94, Try.ntmps94
  go_wp2
  go_quiet (fail)
  go_wp2
  go_ret
  exact ⟨ret_i (rot_int i k hi), _, rfl⟩
theorem turned_q (i k : Nat) (K : Int) (hK : K = (k : Int)) (hi : i < 256) (hk : k ≤ 8) (p : Addr) (w : World) (n : Nat) (hc : w.cell? p = some (.int .u8 i)) :
    Calls Try.prog 94 #[.int .i64 K, .pointer (some p)] (w.drewN n) fun e w' => e = .returned (.int .u8 ((rot i k : Nat) : Int)) ∧ ∃ m, w' = w.drewN m :=
  hK ▸ Calls.quiet_of (turned_c i k hi hk p _ (by simpa using hc))
theorem aff_int (i : Nat) (hi : i < 256) :
  bits BinOp.xor IntKind.u8 (bits BinOp.xor IntKind.u8 (bits BinOp.xor IntKind.u8 (bits BinOp.xor IntKind.u8 (bits BinOp.xor IntKind.u8 (i : Int) ((rot i 1 : Nat) : Int)) ((rot i 2 : Nat) : Int)) ((rot i 3 : Nat) : Int)) ((rot i 4 : Nat) : Int)) 99 = ((aff i : Nat) : Int) := by
  have h1 := rot_lt i 1 hi
  have h2 := rot_lt i 2 hi
  have h3 := rot_lt i 3 hi
  have h4 := rot_lt i 4 hi
  exact u8x (u8x (u8x (u8x (u8x rfl rfl hi h1) rfl (xor_lt _ _ hi h1) h2) rfl (xor_lt _ _ (xor_lt _ _ hi h1) h2) h3) rfl (xor_lt _ _ (xor_lt _ _ (xor_lt _ _ hi h1) h2) h3) h4) rfl (xor_lt _ _ (xor_lt _ _ (xor_lt _ _ (xor_lt _ _ hi h1) h2) h3) h4) (by omega)
set_option maxHeartbeats 1000000 in
theorem affine_c (i : Nat) (hi : i < 256) (w : World) :
    Calls Try.prog 64 #[.int .u8 (i : Int)] w fun e w' => e = .returned (.int .u8 ((aff i : Nat) : Int)) ∧ Below w.heap.size w w' := by
  have hc : (w.alloc (.cells #[.int .u8 (i : Int)] 5)).cell? ⟨w.heap.size, 0, none⟩ = some (.int .u8 i) := by simp
  go_enter Try.func64, Try.ntmps64
  go_wp2
  go_quiet ((go_at_call 94; (with_reducible first | exact turned_q i 1 1 rfl hi (by omega) _ _ _ hc | exact turned_q i 2 2 rfl hi (by omega) _ _ _ hc | exact turned_q i 3 3 rfl hi (by omega) _ _ _ hc | exact turned_q i 4 4 rfl hi (by omega) _ _ _ hc)))
  go_wp2
  go_ret
  exact ⟨ret_i (aff_int i hi), below_drewN ((Below.refl _ _).alloc (Nat.le_refl _) _) _⟩
end Go.Proofs.Ytjclofkkpgdjnaa
