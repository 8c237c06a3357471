/- Contracts of gf.NewBox, Sub, Back. -/
import Derived.Test.YtjclofkkpgdjnaaGfT
set_option linter.unusedVariables false
namespace Go.Proofs.Ytjclofkkpgdjnaa
open Go Go.RowKit GfM

/-- the box's cells behind k rounds -/
noncomputable def boxA : Nat → Array Value
  | 0 => Try.zeroCells138
  | k + 1 => ((boxA k).setIfInBounds k (.int .u8 (sbx k : Int))).setIfInBounds (256 + sbx k) (.int .u8 (k : Int))
theorem zero_size : (Try.zeroCells138).size = 512 := by kernel_rfl
theorem boxA_size (k : Nat) : (boxA k).size = 512 := by
  induction k with
  | zero => exact zero_size
  | succ k ih => simp [boxA, ih]
theorem boxA_sub (k : Nat) (hk : k ≤ 256) (j : Nat) (hj : j < k) : (boxA k)[j]? = some (.int .u8 (sbx j : Int)) := by
  induction k with
  | zero => omega
  | succ k ih =>
    have hs := sbx_lt k (by omega)
    simp only [boxA, Array.getElem?_setIfInBounds, Array.size_setIfInBounds, boxA_size]
    rw [if_neg (by omega)]
    by_cases e : k = j
    · subst e; simp; omega
    · rw [if_neg e]; exact ih (by omega) (by omega)
theorem boxA_back (k : Nat) (hk : k ≤ 256) (j : Nat) (hj : j < k) : (boxA k)[256 + sbx j]? = some (.int .u8 (j : Int)) := by
  induction k with
  | zero => omega
  | succ k ih =>
    have hs := sbx_lt k (by omega)
    have hs' := sbx_lt j (by omega)
    simp only [boxA, Array.getElem?_setIfInBounds, Array.size_setIfInBounds, boxA_size]
    by_cases e : k = j
    · subst e; simp; omega
    · have hne : sbx k ≠ sbx j := by
        intro h
        have := congrArg bkx h
        rw [bkx_sbx k (by omega), bkx_sbx j (by omega)] at this
        exact e this
      rw [if_neg (by omega), if_neg (by omega)]; exact ih (by omega) (by omega)
theorem boxA_has (k o : Nat) (ho : o < 512) : ∃ v, (boxA k)[o]? = some v := ⟨(boxA k)[o]'(by rw [boxA_size]; exact ho), by simp [boxA_size, ho]⟩
/-- block b is the box -/
def IsBox (w : World) (b : Nat) : Prop := w.heap[b]? = some (.cells (boxA 256) 138 (0, 0))
theorem IsBox.sub {w : World} {b : Nat} (h : IsBox w b) (c : Nat) (hc : c < 256) : w.cell? ⟨b, c, none⟩ = some (.int .u8 (sbx c : Int)) := by
  unfold IsBox at h
  simp [World.cell?, h, boxA_sub 256 (by omega) c hc]
theorem IsBox.back {w : World} {b : Nat} (h : IsBox w b) (c : Nat) (hc : c < 256) : w.cell? ⟨b, 256 + c, none⟩ = some (.int .u8 (bkx c : Int)) := by
  unfold IsBox at h
  have := boxA_back 256 (by omega) (bkx c) (bkx_lt c hc)
  rw [sbx_bkx c hc] at this
  simp [World.cell?, h, this]
theorem cells_of {w : World} {b : Nat} {A : Array Value} {t : TypeId} (h : w.heap[b]? = some (.cells A t (0, 0))) (o : Nat) : w.cell? ⟨b, o, none⟩ = A[o]? := by simp [World.cell?, h]
theorem free_of {w : World} {b : Nat} {A : Array Value} {t : TypeId} (h : w.heap[b]? = some (.cells A t (0, 0))) (o : Nat) : w.frozen? ⟨b, o, none⟩ = false := by simp [World.frozen?, h]
theorem block_set {w : World} {b : Nat} {A : Array Value} {t : TypeId} {z : Nat × Nat} (h : w.heap[b]? = some (.cells A t z)) (o : Nat) (v : Value) :
    (w.setCell ⟨b, o, none⟩ v).heap[b]? = some (.cells (A.setIfInBounds o v) t z) := by
  simp [World.setCell, Array.getElem?_modify, h]
set_option maxHeartbeats 1000000 in
set_option maxRecDepth 100000 in
theorem newbox_c (w : World) :
    Calls Try.prog 48 #[] w fun e w' => e = .returned (.pointer (some ⟨w.heap.size, 0, none⟩)) ∧ IsBox w' w.heap.size ∧ w.heap.size < w'.heap.size ∧ Below w.heap.size w w' := by
  have h0 : (w.alloc (Obj.cells (Try.zeroCells138) 138)).heap[w.heap.size]? = some (.cells (boxA 0) 138 (0, 0)) := by
    show (w.heap.push _)[_]? = _
    simp [boxA]
  have H0 := Lib.hid h0
  clear h0
  go_enter Try.func48, Try.ntmps48
  go_wp2
  go_loopw [6] (fun vi wr => ∃ k : Nat, k ≤ 256 ∧ vi = .int .i64 k ∧ Hid (wr.heap[w.heap.size]? = some (.cells (boxA k) 138 (0, 0))) ∧ w.heap.size < wr.heap.size ∧ Below w.heap.size w wr) (fun vi _ => 256 - (intOf vi).toNat)
  case atStart => exact ⟨0, by omega, rfl, H0, by simp, (Below.refl _ _).alloc (Nat.le_refl _) _⟩
  case round =>
    obtain ⟨k, hk, rfl, hb, hz, hbel⟩ := hrel
    clear H0
    by_cases hlt : k < 256
    · have hs := sbx_lt k hlt
      go_wp2_with (first
        | (go_at_call 65; (with_reducible refine (inv_c k hlt _).mono ?_); rintro e w' ⟨rfl, rfl⟩)
        | (go_at_call 64; (with_reducible refine (affine_c _ (ginv_lt k hlt) _).mono ?_); rintro e w1 ⟨rfl, hb1⟩; rw [sb_all k hlt]; have hB1 := (hb1.block w.heap.size hz).trans hb.out; obtain ⟨v1, hv1⟩ := boxA_has k k (by omega); obtain ⟨v2, hv2⟩ := boxA_has k (256 + sbx k) (by omega); have hc1 := (cells_of hB1 k).trans hv1; have hf1 := free_of hB1 k; have hc2 := (cells_of hB1 (256 + sbx k)).trans hv2; have hf2 := free_of hB1 (256 + sbx k); have HB1 := Lib.hid hB1; clear hB1 hv1 hv2))
      go_roundw
      case rel =>
        have h1 := block_set (block_set HB1.out k (.int .u8 (sbx k : Int))) (256 + sbx k) (.int .u8 (k : Int))
        exact ⟨k + 1, by omega, by go_num, h1, by have := hb1.size; simp [World.setCell]; omega, ((hbel.trans (hb1.mono (by omega))).setCell (by simp) _).setCell (by simp) _⟩
      case measure => simp [intOf]; omega
    · have hk6 : k = 256 := by omega
      subst hk6
      go_wp2
      go_ret
      exact ⟨rfl, hb.out, hz, hbel⟩
theorem sub_c (w : World) (b c : Nat) (hc : c < 256) (h : IsBox w b) :
    Calls Try.prog 100 #[.pointer (some ⟨b, 0, none⟩), .int .u8 (c : Int)] w fun e w' => e = .returned (.int .u8 (sbx c : Int)) ∧ w = w' := by
  have h1 := h.sub c hc
  clear h
  go_enter Try.func100, Try.ntmps100
  go_wp2
  go_ret
  exact ⟨rfl, rfl⟩
theorem sub_nil (w : World) (c : Int) :
    Calls Try.prog 100 #[.pointer none, .int .u8 c] w fun e w' => e = .returned (.int .u8 0) ∧ w = w' := by
  go_enter Try.func100, Try.ntmps100
  go_wp2
  go_ret
  exact ⟨rfl, rfl⟩
theorem IsBox.later {w w' : World} {b B : Nat} (h : IsBox w b) (hb : Below B w w') (hB : b < B) : IsBox w' b := (hb.block b hB).trans h
theorem IsBox.lt {w : World} {b : Nat} (h : IsBox w b) : b < w.heap.size := lt_of_block h
end Go.Proofs.Ytjclofkkpgdjnaa
