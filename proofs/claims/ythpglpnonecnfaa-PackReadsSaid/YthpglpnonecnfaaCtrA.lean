/- Contracts of word.num's methods and of word.High. -/
import Derived.Test.YthpglpnonecnfaaArrEq
import Derived.Test.YthpglpnonecnfaaReg
import Derived.Test.YthpglpnonecnfaaProg
import Derived.Deep.OwnRows
set_option linter.unusedVariables false
namespace Go.Proofs.Ythpglpnonecnfaa
open Go Go.RowKit
theorem heap_new' (w : World) (o : Obj) : (w.alloc o).heap[w.heap.size]? = some o := by
  show (w.heap.push _)[_]? = _
  simp
theorem heap_old' (w : World) (o : Obj) (k : Nat) (h : k < w.heap.size) : (w.alloc o).heap[k]? = w.heap[k]? := Below.heap_alloc w o k h
theorem cells_at {w : World} {b : Nat} {A : Array Value} {t : TypeId} {z : Nat × Nat} (h : w.heap[b]? = some (.cells A t z)) (o : Nat) : w.cell? ⟨b, o, none⟩ = A[o]? := by simp [World.cell?, h]
theorem free_at {w : World} {b : Nat} {A : Array Value} {t : TypeId} (h : w.heap[b]? = some (.cells A t (0, 0))) (o : Nat) : w.frozen? ⟨b, o, none⟩ = false := by simp [World.frozen?, h]
theorem block_at {w : World} {b : Nat} {A : Array Value} {t : TypeId} {z : Nat × Nat} (h : w.heap[b]? = some (.cells A t z)) (o : Nat) (v : Value) :
    (w.setCell ⟨b, o, none⟩ v).heap[b]? = some (.cells (A.setIfInBounds o v) t z) := by
  simp [World.setCell, Array.getElem?_modify, h]
def upB (v k : Nat) : Nat := v / 2 ^ (8 * k) % 256
set_option maxHeartbeats 1000000 in
theorem up_c (n v k : Nat) (hv : v < 18446744073709551616) (hk : k < 8) (K : Int) (hK : K = k) (w : World) :
    Calls Try.prog 53 #[.agg #[.int .i64 (n : Int), .int .u64 (v : Int)], .int .i64 K] w fun e w' => e = .returned (.int .u8 ((upB v k : Nat) : Int)) ∧ Below w.heap.size w w' := by
  subst hK
  go_enter Try.func53, Try.ntmps53
  go_wp2
  go_ret
  exact ⟨ret_i (by unfold upB; simp), (Below.refl _ _).alloc (Nat.le_refl _) _⟩
set_option maxHeartbeats 1000000 in
theorem down_c (n v k : Nat) (hv : v < 18446744073709551616) (hn : n ≤ 8) (hk : k < n) (K : Int) (hK : K = k) (w : World) :
    Calls Try.prog 63 #[.agg #[.int .i64 (n : Int), .int .u64 (v : Int)], .int .i64 K] w fun e w' => e = .returned (.int .u8 ((upB v (n - 1 - k) : Nat) : Int)) ∧ Below w.heap.size w w' := by
  subst hK
  have hb : Below w.heap.size w (w.alloc (Obj.cells #[Value.int IntKind.i64 ↑n, Value.int IntKind.u64 ↑v] 92)) := (Below.refl _ _).alloc (Nat.le_refl _) _
  have HB := Lib.hid hb
  clear hb
  go_enter Try.func63, Try.ntmps63
  go_wp2_with (go_at_call 53; (with_reducible refine (up_c n v (n - 1 - k) hv (by omega) _ (by omega) _).mono ?_); rintro e w1 ⟨rfl, hb1⟩)
  go_ret
  exact ⟨rfl, HB.out.trans (hb1.mono (by simp))⟩
/-- the lowest n bytes, the highest first -/
def highB (n v : Nat) : List Nat := (List.range n).map fun k => upB v (n - 1 - k)
theorem highB_len (n v : Nat) : (highB n v).length = n := by simp [highB]
theorem highB_get (n v k : Nat) (h : k < n) : (highB n v).getD k 0 = upB v (n - 1 - k) := by simp [highB, h]
/-- what a loop has put so far -/
def partB (l : List Nat) (k : Nat) : List Nat := l.take k ++ List.replicate (l.length - k) 0
theorem partB_len (l : List Nat) (k : Nat) (h : k ≤ l.length) : (partB l k).length = l.length := by simp [partB]; omega
theorem partB_zero (l : List Nat) : partB l 0 = List.replicate l.length 0 := by simp [partB]
theorem partB_full (l : List Nat) : partB l l.length = l := by simp [partB]
theorem partB_set (l : List Nat) (k : Nat) (h : k < l.length) : (partB l k).set k (l.getD k 0) = partB l (k + 1) := by
  apply List.ext_getElem
  · simp [partB]; omega
  · intro i h1 h2
    simp only [partB, List.getElem_set, List.getElem_append, List.getElem_take, List.getElem_replicate, List.length_take]
    by_cases e : k = i
    · subst e
      rw [if_pos rfl, dif_pos (by omega)]; simp [h]
    · rw [if_neg e]
      by_cases h3 : i < k
      · rw [dif_pos (by omega), dif_pos (by omega)]
      · rw [dif_neg (by omega), dif_neg (by omega)]
theorem bA_rep (n : Nat) : bA (List.replicate n 0) = (List.replicate n (Value.int .u8 0)).toArray := by simp [bA]
theorem u8info : (Try.prog.info? 5).map (fun i => (i.zero, i.size, i.bytes)) = some (some (.int .u8 0), 1, 1) := by kernel_rfl
theorem mk_bytes (n : Nat) (hn : n ≤ 140737488355328) (w : World) :
    (Instr.makeSlice 27 (.int .i64 (n : Int)) (.int .i64 (n : Int))).run Try.prog w = .ok (.slice (some ⟨w.heap.size, 0, none⟩) n n) (w.alloc (.cells (bA (List.replicate n 0)) 5)) := by
  have h := run_make_row' (P := Try.prog) 27 5 (.int .u8 0) 1 Try.underlying27 u8info rfl .i64 .i64 n (by omega) (by omega) w
  rw [h]
  have e : madeCells #[Value.int .u8 0] n = bA (List.replicate n 0) := by
    apply Array.toList_inj.1
    rw [toList_madeCells_one]; simp [bA]
  rw [e]
set_option maxRecDepth 100000 in
set_option maxHeartbeats 1000000 in
theorem bytes_c (n v : Nat) (hv : v < 18446744073709551616) (h1 : 1 ≤ n) (hn : n ≤ 8) (w : World) :
    Calls Try.prog 52 #[.agg #[.int .i64 (n : Int), .int .u64 (v : Int)], .func (.func 63) #[.agg #[.int .i64 (n : Int), .int .u64 (v : Int)]] #[]] w
      fun e w' => ∃ b, e = .returned (.slice (some ⟨b, 0, none⟩) n n) ∧ w.heap.size ≤ b ∧ b < w'.heap.size ∧ w'.heap[b]? = some (.cells (bA (highB n v)) 5 (0, 0)) ∧ Below w.heap.size w w' := by
  have hmk := mk_bytes n (by omega)
  have hlo : ¬ (n : Int) < 1 := by omega
  have hhi : ¬ (8 : Int) < n := by omega
  have hl := highB_len n v
  have hs : ∀ o : Obj, ((w.alloc o).alloc (.cells (bA (List.replicate n 0)) 5)).heap[w.heap.size + 1]? = some (.cells (bA (partB (highB n v) 0)) 5 (0, 0)) := fun o => by
    rw [partB_zero, hl, show w.heap.size + 1 = (w.alloc o).heap.size by simp, heap_new']
  have HS := Lib.hid hs
  have HL := Lib.hid hl
  clear hs hl
  go_enter Try.func52, Try.ntmps52
  go_wp2
  go_loopw [20] (fun vi wr => ∃ k : Nat, k ≤ n ∧ vi = .int .i64 k ∧ Hid (wr.heap[w.heap.size + 1]? = some (.cells (bA (partB (highB n v) k)) 5 (0, 0))) ∧ w.heap.size + 1 < wr.heap.size ∧ Below w.heap.size w wr) (fun vi _ => n - (intOf vi).toNat)
  case atStart => exact ⟨0, by omega, rfl, HS.out _, by simp, (((Below.refl _ _).alloc (Nat.le_refl _) _).alloc (by simp) _)⟩
  case round =>
    obtain ⟨k, hk, rfl, hb, hz, hbel⟩ := hrel
    clear HS hmk
    by_cases hlt : k < n
    · go_wp2_with (go_at_call 63; (with_reducible refine (down_c n v k hv hn hlt _ rfl _).mono ?_); rintro e w1 ⟨rfl, hb1⟩; have hB1 := (hb1.block (w.heap.size + 1) hz).trans hb.out; have hc1 := (cells_at hB1 k).trans (bA_get _ k (by rw [partB_len _ _ (by rw [HL.out]; omega), HL.out]; exact hlt)); have hf1 := free_at hB1 k; have HB1 := Lib.hid hB1; clear hB1)
      go_roundw
      case rel =>
        have h1 := block_at HB1.out k (.int .u8 ((upB v (n - 1 - k) : Nat) : Int))
        rw [bA_set, ← highB_get n v k hlt, partB_set _ _ (by rw [HL.out]; exact hlt)] at h1
        rw [highB_get n v k hlt] at h1
        exact ⟨k + 1, by omega, by go_num, h1, by have := hb1.size; simp [World.setCell]; omega, (hbel.trans (hb1.mono (by omega))).setCell (by simp) _⟩
      case measure => simp [intOf]; omega
    · obtain rfl : k = n := by omega
      have h1 := hb.out
      have h2 := partB_full (highB k v)
      rw [HL.out] at h2
      rw [h2] at h1
      have H1 := Lib.hid h1
      clear hb h1 h2
      go_wp2
      go_ret
      exact ⟨_, rfl, by omega, hz, H1.out, hbel⟩
set_option maxRecDepth 100000 in
set_option maxHeartbeats 1000000 in
theorem high_c (n v : Nat) (hv : v < 18446744073709551616) (h1 : 1 ≤ n) (hn : n ≤ 8) (N V : Int) (hN : N = n) (hV : V = v) (w : World) :
    Calls Try.prog 59 #[.int .i64 N, .int .u64 V] w
      fun e w' => ∃ b, e = .returned (.slice (some ⟨b, 0, none⟩) n n) ∧ w.heap.size ≤ b ∧ b < w'.heap.size ∧ w'.heap[b]? = some (.cells (bA (highB n v)) 5 (0, 0)) ∧ Below w.heap.size w w' := by
  subst hN hV
  go_enter Try.func59, Try.ntmps59
  go_wp2_with fail
  refine (bytes_c n v hv h1 hn _).mono ?_
  rintro e w1 ⟨b, rfl, hb, hz, hB, hbel⟩
  have HB := Lib.hid hB
  clear hB
  go_wp2
  go_ret
  exact ⟨b, rfl, by simp at hb; omega, hz, HB.out, ((Below.refl _ _).alloc (Nat.le_refl _) _).trans (hbel.mono (by simp))⟩
end Go.Proofs.Ythpglpnonecnfaa
