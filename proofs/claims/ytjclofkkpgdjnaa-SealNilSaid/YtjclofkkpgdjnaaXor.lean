/- Contract of word.Xor. -/
import Derived.Test.YtjclofkkpgdjnaaStr
set_option linter.unusedVariables false
set_option linter.unusedSimpArgs false
namespace Go.Proofs.Ytjclofkkpgdjnaa
open Go Go.RowKit GfM
def xorL (l1 l2 : List Nat) : List Nat := (List.range l1.length).map fun j => l1.getD j 0 ^^^ l2.getD j 0
theorem xorL_len (l1 l2 : List Nat) : (xorL l1 l2).length = l1.length := by simp [xorL]
theorem xorL_get (l1 l2 : List Nat) (j : Nat) (h : j < l1.length) : (xorL l1 l2).getD j 0 = l1.getD j 0 ^^^ l2.getD j 0 := by simp [xorL, h]
/-- n bytes behind an address, if there are any -/
def BytesAt (w : World) (a : Option Addr) (cap : Nat) (l : List Nat) : Prop :=
  (∀ x ∈ l, x < 256) ∧ (0 < l.length → ∃ g o, a = some ⟨g, o, none⟩ ∧ l.length ≤ cap ∧ g < w.heap.size ∧ ∀ j, j < l.length → w.cell? ⟨g, o + j, none⟩ = some (.int .u8 ((l.getD j 0 : Nat) : Int)))
theorem BytesAt.up {w w' : World} {a : Option Addr} {cap : Nat} {l : List Nat} (h : BytesAt w a cap l) {B : Nat} (hb : Below B w w') (hB : w.heap.size ≤ B) : BytesAt w' a cap l := by
  refine ⟨h.1, fun h0 => ?_⟩
  obtain ⟨g, o, h1, h2, h3, h4⟩ := h.2 h0
  exact ⟨g, o, h1, h2, Nat.lt_of_lt_of_le h3 hb.size, fun j hj => (hb.cell (p := ⟨g, o + j, none⟩) (Nat.lt_of_lt_of_le h3 hB)).trans (h4 j hj)⟩
theorem getD_lt {l : List Nat} (h : ∀ x ∈ l, x < 256) (j : Nat) : l.getD j 0 < 256 := by
  rw [List.getD_eq_getElem?_getD]
  rcases Nat.lt_or_ge j l.length with hj | hj
  · rw [List.getElem?_eq_getElem hj]; exact h _ (List.getElem_mem _)
  · rw [List.getElem?_eq_none hj]; decide
set_option maxRecDepth 100000 in
set_option maxHeartbeats 4000000 in
theorem wxor_c (a1 a2 : Option Addr) (c1 c2 : Nat) (l1 l2 : List Nat) (n : Nat) (e1 : l1.length = n) (e2 : l2.length = n) (hn : n ≤ 65536) (w : World) (h1 : BytesAt w a1 c1 l1) (h2 : BytesAt w a2 c2 l2) :
    Calls Try.prog 39 #[.slice a1 n c1, .slice a2 n c2] w fun e w' =>
      ∃ q, e = .returned (.slice (some ⟨q, 0, none⟩) n n) ∧ w.heap.size ≤ q ∧ w'.heap[q]? = some (.cells (bA (xorL l1 l2)) 5 (0, 0)) ∧ Below w.heap.size w w' := by
  have hmk := mk_bytes n (by omega)
  have hl : (xorL l1 l2).length = n := by rw [xorL_len, e1]
  have hs : (w.alloc (.cells (bA (List.replicate n 0)) 5)).heap[w.heap.size]? = some (.cells (bA (partB (xorL l1 l2) 0)) 5 (0, 0)) := by
    rw [partB_zero, hl, heap_new']
  have HS := Lib.hid hs
  have HL := Lib.hid hl
  have HE1 := Lib.hid e1
  have HE2 := Lib.hid e2
  have H1 := Lib.hid h1
  have H2 := Lib.hid h2
  have hmin : min (n : Int) (n : Int) = (n : Int) := by omega
  clear hs hl e1 e2 h1 h2
  go_enter Try.func39, Try.ntmps39
  go_wp2
  go_loopw [15] (fun vi wr => ∃ k : Nat, k ≤ n ∧ vi = .int .i64 k ∧ Hid (wr.heap[w.heap.size]? = some (.cells (bA (partB (xorL l1 l2) k)) 5 (0, 0))) ∧ Hid (Below w.heap.size w wr)) (fun vi _ => n - (intOf vi).toNat)
  case atStart => exact ⟨0, by omega, rfl, HS.out, (Below.refl _ _).alloc (Nat.le_refl _) _⟩
  case round =>
    obtain ⟨k, hk, rfl, hb, hbel⟩ := hrel
    clear HS hmk hmin
    by_cases hlt : k < n
    · obtain ⟨g1, o1, rfl, hc1, hg1, hcell1⟩ := H1.out.2 (by rw [HE1.out]; omega)
      obtain ⟨g2, o2, rfl, hc2, hg2, hcell2⟩ := H2.out.2 (by rw [HE2.out]; omega)
      have HV1 := getD_lt H1.out.1 k
      have HV2 := getD_lt H2.out.1 k
      have cl1 := (hbel.out.cell (p := ⟨g1, o1 + k, none⟩) hg1).trans (hcell1 k (by rw [HE1.out]; exact hlt))
      have cl2 := (hbel.out.cell (p := ⟨g2, o2 + k, none⟩) hg2).trans (hcell2 k (by rw [HE2.out]; exact hlt))
      have hget := xorL_get l1 l2 k (by rw [HE1.out]; exact hlt)
      obtain ⟨x, hx⟩ : ∃ x, x = l1.getD k 0 := ⟨_, rfl⟩
      obtain ⟨y, hy⟩ : ∃ y, y = l2.getD k 0 := ⟨_, rfl⟩
      rw [← hx] at cl1 HV1 hget
      rw [← hy] at cl2 HV2 hget
      have HG := Lib.hid hget
      have f0 := free_at hb.out k
      have c0 := (cells_at hb.out k).trans (bA_get _ k (by rw [partB_len _ _ (by rw [HL.out]; exact hk), HL.out]; exact hlt))
      have hxr : bits BinOp.xor IntKind.u8 (x : Int) (y : Int) = ((x ^^^ y : Nat) : Int) := u8x rfl rfl HV1 HV2
      have hd : decide ((k : Int) < (n : Int)) = true := by simp; omega
      have d6 : (k : Int) < (n : Int) := by omega
      have d7 : ¬ (k : Int) < 0 := by omega
      clear hx hy hget HV1 HV2 hcell1 hcell2
      go_wp2
      refine wp_region_still_tail 12 (by kernel_rfl) (by kernel_rfl) ?_
      simp only [List.take_succ_cons, List.take_zero, List.drop_succ_cons, List.drop_zero]
      change wpStill _ _ wr.drew _ _ _
      repeat still_step
      refine wpStill_nil ?_
      change wpList _ _ _ _ _ wr.drew
      have n0 := block_at hb.out k (.int .u8 ((x ^^^ y : Nat) : Int))
      rw [bA_set, ← HG.out, partB_set _ _ (by rw [HL.out]; exact hlt), HG.out] at n0
      have N0 := Lib.hid n0
      clear n0
      go_wp2
      go_roundw
      case rel => exact ⟨k + 1, by omega, by go_num, N0.out, (hbel.out.setCell (by simp) _).drew⟩
      case measure => simp [intOf]; omega
    · obtain rfl : k = n := by omega
      have h1 := hb.out
      have h2 := partB_full (xorL l1 l2)
      rw [HL.out] at h2
      rw [h2] at h1
      have HH1 := Lib.hid h1
      have hd : decide ((k : Int) < (k : Int)) = false := by simp
      clear h1 h2 hb
      go_wp2
      go_ret
      exact ⟨_, rfl, Nat.le_refl _, HH1.out, hbel.out⟩
end Go.Proofs.Ytjclofkkpgdjnaa
