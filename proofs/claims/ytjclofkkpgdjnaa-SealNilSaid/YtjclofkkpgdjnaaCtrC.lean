/- Contract of the reference's Counter. -/
import Derived.Test.YtjclofkkpgdjnaaCtrB
set_option linter.unusedVariables false
namespace Go.Proofs.Ytjclofkkpgdjnaa
open Go Go.RowKit
def fillE (e : Nat) : Nat → List Nat
  | 0 => List.replicate 16 0
  | k + 1 => (fillE e k).set (7 - k) (upB e k)
def fillB (e b : Nat) : Nat → List Nat
  | 0 => fillE e 8
  | k + 1 => (fillB e b k).set (11 - k) (upB b k)
theorem fillE_len (e k : Nat) : (fillE e k).length = 16 := by
  induction k with
  | zero => rfl
  | succ k ih => simp [fillE, ih]
theorem fillB_len (e b k : Nat) : (fillB e b k).length = 16 := by
  induction k with
  | zero => exact fillE_len e 8
  | succ k ih => simp [fillB, ih]
theorem fill_all (e b l : Nat) (hl : l < 65536) : ((fillB e b 4).set 12 (l / 256)).set 13 (l % 256) = ctrB e b l := by
  have h1 : upB l 1 = l / 256 := by unfold upB; omega
  have h0 : upB l 0 = l % 256 := by simp [upB]
  rw [← h1, ← h0]
  rfl
theorem upB_step (e k : Nat) : e / 2 ^ (8 * k) / 256 = e / 2 ^ (8 * (k + 1)) := by
  rw [Nat.div_div_eq_div_mul, show 8 * (k + 1) = 8 * k + 8 by omega, Nat.pow_add]
theorem upB_lt (e k : Nat) : upB e k < 256 := by unfold upB; omega
theorem z16 : (#[.int .u8 0, .int .u8 0, .int .u8 0, .int .u8 0, .int .u8 0, .int .u8 0, .int .u8 0, .int .u8 0, .int .u8 0, .int .u8 0, .int .u8 0, .int .u8 0, .int .u8 0, .int .u8 0, .int .u8 0, .int .u8 0] : Array Value) = bA (List.replicate 16 0) := rfl
/-- bytes tell the number -/
theorem highB_inj8 (e f : Nat) (he : e < 18446744073709551616) (hf : f < 18446744073709551616) (h : highB 8 e = highB 8 f) : e = f := by
  have g : ∀ k, k < 8 → upB e k = upB f k := fun k hk => by
    have : (highB 8 e).getD (7 - k) 0 = (highB 8 f).getD (7 - k) 0 := by rw [h]
    rw [highB_get 8 e _ (by omega), highB_get 8 f _ (by omega), show 8 - 1 - (7 - k) = k by omega] at this
    exact this
  have g0 := g 0 (by omega)
  have g1 := g 1 (by omega)
  have g2 := g 2 (by omega)
  have g3 := g 3 (by omega)
  have g4 := g 4 (by omega)
  have g5 := g 5 (by omega)
  have g6 := g 6 (by omega)
  have g7 := g 7 (by omega)
  simp only [upB, Nat.mul_zero, Nat.pow_zero, Nat.div_one, Nat.reduceMul, Nat.reducePow] at g0 g1 g2 g3 g4 g5 g6 g7
  omega
theorem highB_inj4 (e f : Nat) (he : e < 4294967296) (hf : f < 4294967296) (h : highB 4 e = highB 4 f) : e = f := by
  have g : ∀ k, k < 4 → upB e k = upB f k := fun k hk => by
    have : (highB 4 e).getD (3 - k) 0 = (highB 4 f).getD (3 - k) 0 := by rw [h]
    rw [highB_get 4 e _ (by omega), highB_get 4 f _ (by omega), show 4 - 1 - (3 - k) = k by omega] at this
    exact this
  have g0 := g 0 (by omega)
  have g1 := g 1 (by omega)
  have g2 := g 2 (by omega)
  have g3 := g 3 (by omega)
  simp only [upB, Nat.mul_zero, Nat.pow_zero, Nat.div_one, Nat.reduceMul, Nat.reducePow] at g0 g1 g2 g3
  omega
theorem highB_inj2 (e f : Nat) (he : e < 65536) (hf : f < 65536) (h : highB 2 e = highB 2 f) : e = f := by
  have g : ∀ k, k < 2 → upB e k = upB f k := fun k hk => by
    have : (highB 2 e).getD (1 - k) 0 = (highB 2 f).getD (1 - k) 0 := by rw [h]
    rw [highB_get 2 e _ (by omega), highB_get 2 f _ (by omega), show 2 - 1 - (1 - k) = k by omega] at this
    exact this
  have g0 := g 0 (by omega)
  have g1 := g 1 (by omega)
  simp only [upB, Nat.mul_zero, Nat.pow_zero, Nat.div_one, Nat.reduceMul, Nat.reducePow] at g0 g1
  omega
theorem ctrB_inj (e b l f c m : Nat) (he : e < 18446744073709551616) (hb : b < 4294967296) (hl : l < 65536) (hf : f < 18446744073709551616) (hc : c < 4294967296) (hm : m < 65536) :
    ctrB e b l = ctrB f c m ↔ e = f ∧ b = c ∧ l = m := by
  constructor
  · intro h
    unfold ctrB at h
    obtain ⟨h1, h2⟩ := List.append_inj h (by simp [highB_len])
    obtain ⟨h3, h4⟩ := List.append_inj h2 (by simp [highB_len])
    obtain ⟨h5, _⟩ := List.append_inj h4 (by simp [highB_len])
    exact ⟨highB_inj8 e f he hf h1, highB_inj4 b c hb hc h3, highB_inj2 l m hl hm h5⟩
  · rintro ⟨rfl, rfl, rfl⟩; rfl
theorem u8some' : ∃ i, Try.prog.info? 5 = some i := by
  have h : (Try.prog.info? 5).isSome = true := by kernel_rfl
  exact Option.isSome_iff_exists.1 h
theorem u8plain' : Try.prog.plainKey 5 = true := by kernel_rfl
theorem u8cells' : Try.prog.cellsOf 5 = 1 := by kernel_rfl
theorem eq16 (xs ys : List Nat) (hx : xs.length = 16) (hy : ys.length = 16) (w : World) : (binOp .eql 88 (.agg (bA xs)) (.agg (bA ys))).run Try.prog w = .ok (.bool (decide (xs = ys))) w := by
  obtain ⟨i, hi⟩ := u8some'
  exact eql_bytes Try.prog 16 88 5 i Try.underlying88 Try.underlying5 u8plain' hi u8cells' xs ys hx hy w
theorem ctr_ex : #[.int .u8 0, .int .u8 0, .int .u8 0, .int .u8 0, .int .u8 0, .int .u8 0, .int .u8 0, .int .u8 1, .int .u8 0, .int .u8 0, .int .u8 0, .int .u8 2, .int .u8 0, .int .u8 3, .int .u8 0, .int .u8 0] = bA (ctrB 1 2 3) := rfl
end Go.Proofs.Ytjclofkkpgdjnaa
