/- word.Put; packs in memory. -/
import Derived.Test.YthpglpnonecnfaaShaJ
set_option linter.unusedVariables false
set_option linter.unusedSimpArgs false
namespace Go.Proofs.Ythpglpnonecnfaa
open Go Go.RowKit Sha
/-- the lowest n bytes, the lowest first -/
def lowB (n v : Nat) : List Nat := (List.range n).map fun k => upB v k
theorem lowB_len (n v : Nat) : (lowB n v).length = n := by simp [lowB]
theorem lowB_get (n v k : Nat) (h : k < n) : (lowB n v).getD k 0 = upB v k := by simp [lowB, h]
theorem lowB_lt (n v : Nat) : ∀ x ∈ lowB n v, x < 256 := by
  intro x hx
  simp only [lowB, List.mem_map] at hx
  obtain ⟨k, _, rfl⟩ := hx
  exact Nat.mod_lt _ (by decide)
set_option maxRecDepth 100000 in
set_option maxHeartbeats 1000000 in
theorem lbytes_c (n v : Nat) (hv : v < 18446744073709551616) (h1 : 1 ≤ n) (hn : n ≤ 8) (w : World) :
    Calls Try.prog 52 #[.agg #[.int .i64 (n : Int), .int .u64 (v : Int)], .func (.func 53) #[.agg #[.int .i64 (n : Int), .int .u64 (v : Int)]] #[]] w
      fun e w' => ∃ b, e = .returned (.slice (some ⟨b, 0, none⟩) n n) ∧ w.heap.size ≤ b ∧ b < w'.heap.size ∧ w'.heap[b]? = some (.cells (bA (lowB n v)) 5 (0, 0)) ∧ Below w.heap.size w w' := by
  have hmk := mk_bytes n (by omega)
  have hlo : ¬ (n : Int) < 1 := by omega
  have hhi : ¬ (8 : Int) < n := by omega
  have hl := lowB_len n v
  have hs : ∀ o : Obj, ((w.alloc o).alloc (.cells (bA (List.replicate n 0)) 5)).heap[w.heap.size + 1]? = some (.cells (bA (partB (lowB n v) 0)) 5 (0, 0)) := fun o => by
    rw [partB_zero, hl, show w.heap.size + 1 = (w.alloc o).heap.size by simp, heap_new']
  have HS := Lib.hid hs
  have HL := Lib.hid hl
  clear hs hl
  go_enter Try.func52, Try.ntmps52
  go_wp2
  go_loopw [20] (fun vi wr => ∃ k : Nat, k ≤ n ∧ vi = .int .i64 k ∧ Hid (wr.heap[w.heap.size + 1]? = some (.cells (bA (partB (lowB n v) k)) 5 (0, 0))) ∧ w.heap.size + 1 < wr.heap.size ∧ Below w.heap.size w wr) (fun vi _ => n - (intOf vi).toNat)
  case atStart => exact ⟨0, by omega, rfl, HS.out _, by simp, (((Below.refl _ _).alloc (Nat.le_refl _) _).alloc (by simp) _)⟩
  case round =>
    obtain ⟨k, hk, rfl, hb, hz, hbel⟩ := hrel
    clear HS hmk
    by_cases hlt : k < n
    · go_wp2_with (go_at_call 53; (with_reducible refine (up_c n v k hv (by omega) _ rfl _).mono ?_); rintro e w1 ⟨rfl, hb1⟩; have hB1 := (hb1.block (w.heap.size + 1) hz).trans hb.out; have hc1 := (cells_at hB1 k).trans (bA_get _ k (by rw [partB_len _ _ (by rw [HL.out]; omega), HL.out]; exact hlt)); have hf1 := free_at hB1 k; have HB1 := Lib.hid hB1; clear hB1)
      go_roundw
      case rel =>
        have h1 := block_at HB1.out k (.int .u8 ((upB v k : Nat) : Int))
        rw [bA_set, ← lowB_get n v k hlt, partB_set _ _ (by rw [HL.out]; exact hlt)] at h1
        rw [lowB_get n v k hlt] at h1
        exact ⟨k + 1, by omega, by go_num, h1, by have := hb1.size; simp [World.setCell]; omega, (hbel.trans (hb1.mono (by omega))).setCell (by simp) _⟩
      case measure => simp [intOf]; omega
    · obtain rfl : k = n := by omega
      have h1 := hb.out
      have h2 := partB_full (lowB k v)
      rw [HL.out] at h2
      rw [h2] at h1
      have H1 := Lib.hid h1
      clear hb h1 h2
      go_wp2
      go_ret
      exact ⟨_, rfl, by omega, hz, H1.out, hbel⟩
set_option maxRecDepth 100000 in
set_option maxHeartbeats 1000000 in
theorem put_c (n v : Nat) (hv : v < 18446744073709551616) (h1 : 1 ≤ n) (hn : n ≤ 8) (N V : Int) (hN : N = n) (hV : V = v) (w : World) :
    Calls Try.prog 43 #[.int .i64 N, .int .u64 V] w
      fun e w' => ∃ b, e = .returned (.slice (some ⟨b, 0, none⟩) n n) ∧ w.heap.size ≤ b ∧ b < w'.heap.size ∧ w'.heap[b]? = some (.cells (bA (lowB n v)) 5 (0, 0)) ∧ Below w.heap.size w w' := by
  subst hN hV
  go_enter Try.func43, Try.ntmps43
  go_wp2_with fail
  refine (lbytes_c n v hv h1 hn _).mono ?_
  rintro e w1 ⟨b, rfl, hb, hz, hB, hbel⟩
  have HB := Lib.hid hB
  clear hB
  go_wp2
  go_ret
  exact ⟨b, rfl, by simp at hb; omega, hz, HB.out, ((Below.refl _ _).alloc (Nat.le_refl _) _).trans (hbel.mono (by simp))⟩

set_option maxRecDepth 100000 in
theorem pnum_c (n : Nat) (hn : n < 9223372036854775808) (N : Int) (hN : N = n) (w : World) :
    Calls Try.prog 42 #[.int .i64 N] w
      fun e w' => ∃ b, e = .returned (.slice (some ⟨b, 0, none⟩) 2 2) ∧ w.heap.size ≤ b ∧ w'.heap[b]? = some (.cells (bA (lowB 2 n)) 5 (0, 0)) ∧ Below w.heap.size w w' := by
  subst hN
  have eu : IntKind.u64.wrap (n : Int) = (n : Int) := by rw [IntKind.wrap_u64]; omega
  have HN := Lib.hid hn
  clear hn
  go_enter Try.func42, Try.ntmps42
  go_wp2_with fail
  refine (put_c 2 n (by have := HN.out; omega) (by omega) (by omega) 2 (n : Int) rfl rfl _).mono ?_
  rintro e w1 ⟨b, rfl, hb, hz, hB, hbel⟩
  have HB := Lib.hid hB
  clear hB
  go_wp2
  go_ret
  exact ⟨b, rfl, hb, HB.out, hbel⟩
/-- a row of bytes that a value names -/
def SlAt (w : World) (v : Value) (l : List Nat) : Prop := ∃ a cap, v = .slice a l.length cap ∧ BytesAt w a cap l ∧ (a = none → cap = 0) ∧ l.length ≤ cap ∧ cap ≤ maxLen
/-- rows of bytes behind an address -/
def RowsAt (w : World) (a : Option Addr) (L : List (List Nat)) : Prop := ∀ (i : Nat) (l : List Nat), L[i]? = some l → ∃ g o v, a = some ⟨g, o, none⟩ ∧ g < w.heap.size ∧ w.cell? ⟨g, o + i, none⟩ = some v ∧ SlAt w v l
theorem SlAt.up {w w' : World} {v : Value} {l : List Nat} (h : SlAt w v l) {B : Nat} (hb : Below B w w') (hB : w.heap.size ≤ B) : SlAt w' v l := by
  obtain ⟨a, cap, h1, h2, h3⟩ := h
  exact ⟨a, cap, h1, h2.up hb hB, h3⟩
theorem RowsAt.up {w w' : World} {a : Option Addr} {L : List (List Nat)} (h : RowsAt w a L) {B : Nat} (hb : Below B w w') (hB : w.heap.size ≤ B) : RowsAt w' a L := by
  intro i l hl
  obtain ⟨g, o, v, h1, h2, h3, h4⟩ := h i l hl
  exact ⟨g, o, v, h1, Nat.lt_of_lt_of_le h2 hb.size, (hb.cell (p := ⟨g, o + i, none⟩) (Nat.lt_of_lt_of_le h2 hB)).trans h3, h4.up hb hB⟩
/-- a pack as a value: the rows, sixteen numbers -/
def packA (v : Value) (R : List Int) : Array Value := (v :: R.map fun (n : Int) => Value.int .i64 n).toArray
theorem pack_size (v : Value) (R : List Int) : (packA v R).size = R.length + 1 := by simp [packA]
theorem pack_roots {w : World} {g : Nat} {v : Value} {R : List Int} {t : TypeId} (h : w.heap[g]? = some (.cells (packA v R) t (0, 0))) : w.rangeAt g 1 (R.map fun (n : Int) => Value.int .i64 n) := by
  intro j u hu
  rw [cells_at h (1 + j), Nat.add_comm 1 j]
  unfold packA
  rw [List.getElem?_toArray, List.getElem?_cons_succ]
  exact hu
theorem sixteen23 : (Try.prog.info? 23).map (·.size) = some 16 := by kernel_rfl
theorem pack33 : (Try.prog.info? 33).map (·.size) = some 17 := by kernel_rfl
theorem getD_int (R : List Int) (k : Nat) : (R.map fun (n : Int) => Value.int .i64 n).getD k (.int .i64 0) = .int .i64 (R.getD k 0) := by
  rw [List.getD_eq_getElem?_getD, List.getD_eq_getElem?_getD, List.getElem?_map]
  cases R[k]? <;> rfl
/-- which packs may be -/
def mayB (L : List (List Nat)) : Bool := L.all fun l => decide (1 ≤ l.length ∧ l.length ≤ 4096)
def mayR (n : Nat) (R : List Int) : Bool := R.all fun r => decide (0 ≤ r ∧ r ≤ n)
def mayP (L : List (List Nat)) (R : List Int) : Bool := decide (L.length ≤ 1024) && mayB L && mayR L.length R
set_option maxRecDepth 100000 in
theorem bad_c (a : Option Addr) (n cap : Nat) (w : World) :
    Calls Try.prog 32 #[.slice a n cap] w fun e w' => e = .returned (.bool (!decide (1 ≤ n ∧ n ≤ 4096))) ∧ w = w' := by
  by_cases h1 : n < 1
  · have d1 : decide ((n : Int) < 1) = true := by simp; omega
    have d2 : (!decide (1 ≤ n ∧ n ≤ 4096)) = true := by simp; omega
    rw [d2]
    go_enter Try.func32, Try.ntmps32
    go_wp2
    go_ret
    exact ⟨rfl, rfl⟩
  · have d1 : decide ((n : Int) < 1) = false := by simp; omega
    by_cases h2 : n > 4096
    · have d3 : decide ((n : Int) > 4096) = true := by simp; omega
      have d2 : (!decide (1 ≤ n ∧ n ≤ 4096)) = true := by simp; omega
      rw [d2]
      go_enter Try.func32, Try.ntmps32
      go_wp2
      go_ret
      exact ⟨rfl, rfl⟩
    · have d3 : decide ((n : Int) > 4096) = false := by simp; omega
      have d2 : (!decide (1 ≤ n ∧ n ≤ 4096)) = false := by simp; omega
      rw [d2]
      go_enter Try.func32, Try.ntmps32
      go_wp2
      go_ret
      exact ⟨rfl, rfl⟩
end Go.Proofs.Ythpglpnonecnfaa
