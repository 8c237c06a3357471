/- Contracts of four.mixed, four.plain. -/
import Derived.Test.YtjclofkkpgdjnaaGfE
import Derived.Deep.RegionHeld3
set_option linter.unusedVariables false
namespace Go.Proofs.Ytjclofkkpgdjnaa
open Go Go.RowKit GfM
/-- four bytes as a value -/
def v4 (c : Nat → Nat) : Array Value := #[.int .u8 (c 0 : Int), .int .u8 (c 1 : Int), .int .u8 (c 2 : Int), .int .u8 (c 3 : Int)]
theorem v4_get (c : Nat → Nat) (k : Nat) (h : k < 4) : (v4 c)[k]? = some (.int .u8 (c k : Int)) := by
  match k, h with
  | 0, _ => rfl
  | 1, _ => rfl
  | 2, _ => rfl
  | 3, _ => rfl
def isB (X : Int) (a : Nat) : Prop := X = (a : Int) ∧ a < 256
theorem isB_of {a : Nat} (h : a < 256) : isB (a : Int) a := ⟨rfl, h⟩
theorem isB_x {X Y : Int} {a b : Nat} (h1 : isB X a) (h2 : isB Y b) : isB (bits BinOp.xor IntKind.u8 X Y) (a ^^^ b) := ⟨u8x h1.1 h2.1 h1.2 h2.2, xor_lt _ _ h1.2 h2.2⟩
def mixN (c : Nat → Nat) (k : Nat) : Nat := c 0 ^^^ c 1 ^^^ c 2 ^^^ c 3 ^^^ c k ^^^ tw (c k ^^^ c ((k + 1) % 4))
set_option maxRecDepth 100000 in
set_option maxHeartbeats 2000000 in
theorem mixed_c (c : Nat → Nat) (hc : ∀ j, j < 4 → c j < 256) (k : Nat) (hk : k < 4) (w : World) :
    Calls Try.prog 116 #[.agg (v4 c), .int .i64 (k : Int)] w fun e w' => e = .returned (.int .u8 ((mixN c k : Nat) : Int)) ∧ Below w.heap.size w w' := by
  have W : ∃ W, W = w.alloc (.cells (v4 c) 192) := ⟨_, rfl⟩
  obtain ⟨W, hW⟩ := W
  have f : ∀ j, j < 4 → W.cell? ⟨w.heap.size, j, none⟩ = some (.int .u8 (c j : Int)) := fun j hj => by
    rw [hW, World.cell?_alloc_new]; exact v4_get c j hj
  have f0 := f 0 (by omega)
  have f1 := f 1 (by omega)
  have f2 := f 2 (by omega)
  have f3 := f 3 (by omega)
  have fk := f k hk
  have fk1 := f ((k + 1) % 4) (by omega)
  clear f
  have e1 : IntKind.i64.wrap ((k : Int) + 1) = (k : Int) + 1 := IntWalk.i64_in _ (by omega)
  have e2 : ((k : Int) + 1).tmod 4 = (((k + 1) % 4 : Nat) : Int) := by rw [Int.tmod_eq_emod_of_nonneg (by omega)]; omega
  have e3 : ((k + 1) % 4) < 4 := by omega
  go_enter Try.func116, Try.ntmps116
  go_wp2
  rw [← hW]
  have HW := Lib.hid hW
  clear hW
  have hx := xor_lt _ _ (hc k hk) (hc ((k + 1) % 4) e3)
  have E : Hid (bits BinOp.xor IntKind.u8 (c k : Int) (c ((k + 1) % 4) : Int) = ((c k ^^^ c ((k + 1) % 4) : Nat) : Int)) := u8x rfl rfl (hc k hk) (hc _ e3)
  have HC := Lib.hid hc
  clear hc
  go_quiet ((go_at_call 119; rw [E.out]; exact Calls.quiet_of_same ((twice_c _ hx _).mono fun _ _ h => ⟨h.1, h.2.symm⟩)))
  go_wp2
  go_ret
  have hc := HC.out
  have h0 := isB_of (hc 0 (by omega))
  have h1 := isB_of (hc 1 (by omega))
  have h2 := isB_of (hc 2 (by omega))
  have h3 := isB_of (hc 3 (by omega))
  have h4 := isB_of (hc k hk)
  have h5 := isB_of (tw_lt _ hx)
  exact ⟨ret_i (isB_x (isB_x (isB_x (isB_x (isB_x h0 h1) h2) h3) h4) h5).1, by rw [HW.out]; exact below_drewN ((Below.refl _ _).alloc (Nat.le_refl _) _) _⟩
def plainN (c : Nat → Nat) (k : Nat) : Nat := gmul 14 (c k) ^^^ gmul 11 (c ((k + 1) % 4)) ^^^ gmul 13 (c ((k + 2) % 4)) ^^^ gmul 9 (c ((k + 3) % 4))
theorem mul_k (n : Nat) (N : Int) (hN : N = n) (hn : n < 256) (b : Nat) (hb : b < 256) (w : World) (m : Nat) :
    Calls Try.prog 111 #[.int .u8 N, .int .u8 (b : Int)] (w.drewN m) fun e w' => e = .returned (.int .u8 ((gmul n b : Nat) : Int)) ∧ ∃ j, w' = w.drewN j := by
  subst hN
  exact (mul_c n b hn hb _).mono fun e w' ⟨he, hw⟩ => ⟨he, m, hw.symm⟩
end Go.Proofs.Ytjclofkkpgdjnaa
