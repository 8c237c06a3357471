/- Texts SeatF, Lib, ArrEq, Reg, CtrA, Cat, CtrB, CtrC, put together by pack.py. -/
import Derived.Test.YtinjafacnekkcaaRows
import Derived.JoinedOf
import Derived.KernelRfl
import Derived.WalkKit
import Derived.WalkLawsBesides
import Derived.WalkSpells
import Derived.BigQuiet
import Derived.Deep.QuietTactic
import Derived.Lib.Hide
import Derived.ChangeKeysEq
import Derived.StillTailTactics
import Derived.Test.YtinjafacnekkcaaProg
import Derived.Deep.OwnRows
import Derived.Lib.AppendZerosOnto
import Derived.Lib.Walk
import Derived.Deep.MidRow
import Derived.Laws.Cover3
import Derived.Laws.CopyOwn
set_option linter.unusedVariables false
set_option linter.unusedSimpArgs false
namespace Go.Proofs.Ytinjafacnekkcaa
open Go
theorem and_t {a b : Bool} (ha : a = true) (hb : b = true) : (a && b) = true := by rw [ha, hb]; rfl
theorem pf_laidOut : laidOutB Try.prog = true := by kernel_rfl
theorem pf_mapsRowed : mapsRowed Try.prog = true := by kernel_rfl
theorem pf_stops : (Try.prog.stops == []) = true := by kernel_rfl
theorem pf_stopKnobs : (Try.prog.stopKnobs == []) = true := by kernel_rfl
theorem pf_plainKeys : (false == Try.prog.plainKeys) = true := by kernel_rfl
theorem pf_stopsHeard : Try.prog.stopsHeard = true := by kernel_rfl
theorem pf_mayEnter : Try.prog.mayEnter = true := by kernel_rfl
theorem pf_lifted : (false == Try.prog.liftsFinal) = true := by kernel_rfl
end Go.Proofs.Ytinjafacnekkcaa
namespace Go.Proofs.Ytinjafacnekkcaa
open Go Go.RowKit
theorem ret_i {k : IntKind} {a b : Int} (h : a = b) : Ending.returned (.int k a) = .returned (.int k b) := by rw [h]
theorem vint {k : IntKind} {a b : Int} (h : a = b) : Value.int k a = .int k b := by rw [h]
theorem u8x {x y : Int} {a b : Nat} (hx : x = a) (hy : y = b) (ha : a < 256) (hb : b < 256) : bits .xor .u8 x y = ((a ^^^ b : Nat) : Int) := by
  subst hx; subst hy; exact u8_xor_nat a b ha hb
theorem u8o {x y : Int} {a b : Nat} (hx : x = a) (hy : y = b) (ha : a < 256) (hb : b < 256) : bits .or .u8 x y = ((a ||| b : Nat) : Int) := by
  subst hx; subst hy; exact u8_or_nat a b ha hb
theorem u8a1 (y : Nat) (hy : y < 256) : bits .and .u8 (y : Int) 1 = ((y % 2 : Nat) : Int) := by
  have h := u8_and_nat y 1 hy (by omega)
  rw [Nat.and_one_is_mod] at h; exact h
theorem i64a1 (y : Nat) (hy : y < 9223372036854775808) : bits .and .i64 (y : Int) 1 = ((y % 2 : Nat) : Int) := by
  have h := bits_nat .i64 63 (by decide) (fun n h0 h1 => by rw [IntKind.wrap_i64]; omega) y 1 hy (by decide)
  have h1 := h.1
  rw [Nat.and_one_is_mod] at h1; exact h1
theorem i64_odd (m : Nat) (hm : m < 9223372036854775808) (h : m % 2 = 1) : (bits BinOp.and IntKind.i64 (m : Int) 1 == 1) = true := by
  have e := i64a1 m hm
  rw [h] at e; rw [e]; decide
theorem i64_even (m : Nat) (hm : m < 9223372036854775808) (h : ¬ m % 2 = 1) : (bits BinOp.and IntKind.i64 (m : Int) 1 == 1) = false := by
  have e := i64a1 m hm
  rw [show m % 2 = 0 by omega] at e; rw [e]; decide
theorem i64_nat (a b : Nat) (ha : a < 2 ^ 63) (hb : b < 2 ^ 63) :
    bits .and .i64 a b = ((a &&& b : Nat) : Int) ∧ bits .or .i64 a b = ((a ||| b : Nat) : Int) ∧ bits .xor .i64 a b = ((a ^^^ b : Nat) : Int) := by
  have ha' : a % 2 ^ 64 = a := Nat.mod_eq_of_lt (by omega)
  have hb' : b % 2 ^ 64 = b := Nat.mod_eq_of_lt (by omega)
  have wr : ∀ n : Nat, n < 2 ^ 63 → IntKind.i64.wrap (n : Int) = n := fun n h => by rw [IntKind.wrap_i64]; omega
  have e : IntKind.i64.bits = 64 := rfl
  refine ⟨?_, ?_, ?_⟩
  · simp only [bits, e, BitVec.ofInt_natCast, BitVec.toNat_and, BitVec.toNat_ofNat, ha', hb']
    exact wr _ (Nat.and_lt_two_pow _ hb)
  · simp only [bits, e, BitVec.ofInt_natCast, BitVec.toNat_or, BitVec.toNat_ofNat, ha', hb']
    exact wr _ (Nat.or_lt_two_pow ha hb)
  · simp only [bits, e, BitVec.ofInt_natCast, BitVec.toNat_xor, BitVec.toNat_ofNat, ha', hb']
    exact wr _ (Nat.xor_lt_two_pow ha hb)
theorem i64x {x y : Int} {a b : Nat} (hx : x = a) (hy : y = b) (ha : a < 9223372036854775808) (hb : b < 9223372036854775808) : bits .xor .i64 x y = ((a ^^^ b : Nat) : Int) := by
  subst hx; subst hy; exact (i64_nat a b ha hb).2.2
theorem wf_nat64 {a : Int} (h : (Lit.int .u64 a).wf = true) : ∃ n : Nat, n < 18446744073709551616 ∧ a = n := by
  have hmin : IntKind.u64.min = 0 := rfl
  have hmax : IntKind.u64.max = 18446744073709551615 := rfl
  simp only [Lit.wf, Bool.and_eq_true, decide_eq_true_eq] at h
  exact ⟨a.toNat, by omega, by omega⟩
end Go.Proofs.Ytinjafacnekkcaa
namespace Go.Proofs.Ytinjafacnekkcaa
open Go Go.RowKit
/-- bytes as an array's cells -/
def bA (l : List Nat) : Array Value := (l.map fun (n : Nat) => Value.int .u8 (n : Int)).toArray
theorem bA_get (l : List Nat) (k : Nat) (h : k < l.length) : (bA l)[k]? = some (.int .u8 ((l.getD k 0 : Nat) : Int)) := by
  unfold bA; simp [h]
theorem bA_size (l : List Nat) : (bA l).size = l.length := by simp [bA]
theorem bA_set (l : List Nat) (k n : Nat) : (bA l).setIfInBounds k (.int .u8 (n : Int)) = bA (l.set k n) := by
  unfold bA; simp [List.map_set]
end Go.Proofs.Ytinjafacnekkcaa
namespace Go.Proofs.Ytinjafacnekkcaa
open Go Go.RowKit
end Go.Proofs.Ytinjafacnekkcaa
namespace Go.Proofs.Ytinjafacnekkcaa
open Go Go.RowKit
theorem heap_new' (w : World) (o : Obj) : (w.alloc o).heap[w.heap.size]? = some o := by
  show (w.heap.push _)[_]? = _
  simp
theorem heap_old' (w : World) (o : Obj) (k : Nat) (h : k < w.heap.size) : (w.alloc o).heap[k]? = w.heap[k]? := Below.heap_alloc w o k h
theorem cells_at {w : World} {b : Nat} {A : Array Value} {t : TypeId} {z : Nat × Nat} (h : w.heap[b]? = some (.cells A t z)) (o : Nat) : w.cell? ⟨b, o, none⟩ = A[o]? := by simp [World.cell?, h]
theorem free_at {w : World} {b : Nat} {A : Array Value} {t : TypeId} (h : w.heap[b]? = some (.cells A t (0, 0))) (o : Nat) : w.frozen? ⟨b, o, none⟩ = false := by simp [World.frozen?, h]
theorem block_at {w : World} {b : Nat} {A : Array Value} {t : TypeId} {z : Nat × Nat} (h : w.heap[b]? = some (.cells A t z)) (o : Nat) (v : Value) :
    (w.setCell ⟨b, o, none⟩ v).heap[b]? = some (.cells (A.setIfInBounds o v) t z) := by
  simp [World.setCell, Array.getElem?_modify, h]
def upB (v k : Nat) : Nat := v / 2 ^ (8 * k) % 256
set_option maxHeartbeats 1000000 in
theorem up_c (n v k : Nat) (hv : v < 18446744073709551616) (hk : k < 8) (K : Int) (hK : K = k) (w : World) :
    Calls Try.prog 93 #[.agg #[.int .i64 (n : Int), .int .u64 (v : Int)], .int .i64 K] w fun e w' => e = .returned (.int .u8 ((upB v k : Nat) : Int)) ∧ Below w.heap.size w w' := by
  subst hK
  go_enter Try.func93, Try.ntmps93
  go_wp2
  go_ret
  exact ⟨ret_i (by unfold upB; simp), (Below.refl _ _).alloc (Nat.le_refl _) _⟩
set_option maxHeartbeats 1000000 in
theorem down_c (n v k : Nat) (hv : v < 18446744073709551616) (hn : n ≤ 8) (hk : k < n) (K : Int) (hK : K = k) (w : World) :
    Calls Try.prog 89 #[.agg #[.int .i64 (n : Int), .int .u64 (v : Int)], .int .i64 K] w fun e w' => e = .returned (.int .u8 ((upB v (n - 1 - k) : Nat) : Int)) ∧ Below w.heap.size w w' := by
  subst hK
  have hb : Below w.heap.size w (w.alloc (Obj.cells #[Value.int IntKind.i64 ↑n, Value.int IntKind.u64 ↑v] 148)) := (Below.refl _ _).alloc (Nat.le_refl _) _
  have HB := Lib.hid hb
  clear hb
  go_enter Try.func89, Try.ntmps89
  go_wp2_with (go_at_call 93; (with_reducible refine (up_c n v (n - 1 - k) hv (by omega) _ (by omega) _).mono ?_); rintro e w1 ⟨rfl, hb1⟩)
  go_ret
  exact ⟨rfl, HB.out.trans (hb1.mono (by simp))⟩
/-- the lowest n bytes, the highest first -/
def highB (n v : Nat) : List Nat := (List.range n).map fun k => upB v (n - 1 - k)
theorem highB_len (n v : Nat) : (highB n v).length = n := by simp [highB]
theorem highB_get (n v k : Nat) (h : k < n) : (highB n v).getD k 0 = upB v (n - 1 - k) := by simp [highB, h]
/-- what a loop has put so far -/
def partB (l : List Nat) (k : Nat) : List Nat := l.take k ++ List.replicate (l.length - k) 0
theorem partB_len (l : List Nat) (k : Nat) (h : k ≤ l.length) : (partB l k).length = l.length := by simp [partB]; omega
theorem partB_zero (l : List Nat) : partB l 0 = List.replicate l.length 0 := by simp [partB]
theorem partB_full (l : List Nat) : partB l l.length = l := by simp [partB]
theorem partB_set (l : List Nat) (k : Nat) (h : k < l.length) : (partB l k).set k (l.getD k 0) = partB l (k + 1) := by
  apply List.ext_getElem
  · simp [partB]; omega
  · intro i h1 h2
    simp only [partB, List.getElem_set, List.getElem_append, List.getElem_take, List.getElem_replicate, List.length_take]
    by_cases e : k = i
    · subst e
      rw [if_pos rfl, dif_pos (by omega)]; simp [h]
    · rw [if_neg e]
      by_cases h3 : i < k
      · rw [dif_pos (by omega), dif_pos (by omega)]
      · rw [dif_neg (by omega), dif_neg (by omega)]
theorem u8info : (Try.prog.info? 5).map (fun i => (i.zero, i.size, i.bytes)) = some (some (.int .u8 0), 1, 1) := by kernel_rfl
theorem mk_bytes (n : Nat) (hn : n ≤ 140737488355328) (w : World) :
    (Instr.makeSlice 29 (.int .i64 (n : Int)) (.int .i64 (n : Int))).run Try.prog w = .ok (.slice (some ⟨w.heap.size, 0, none⟩) n n) (w.alloc (.cells (bA (List.replicate n 0)) 5)) := by
  have h := run_make_row' (P := Try.prog) 29 5 (.int .u8 0) 1 Try.underlying29 u8info rfl .i64 .i64 n (by omega) (by omega) w
  rw [h]
  have e : madeCells #[Value.int .u8 0] n = bA (List.replicate n 0) := by
    apply Array.toList_inj.1
    rw [toList_madeCells_one]; simp [bA]
  rw [e]
set_option maxRecDepth 100000 in
set_option maxHeartbeats 1000000 in
theorem bytes_c (n v : Nat) (hv : v < 18446744073709551616) (h1 : 1 ≤ n) (hn : n ≤ 8) (w : World) :
    Calls Try.prog 88 #[.agg #[.int .i64 (n : Int), .int .u64 (v : Int)], .func (.func 89) #[.agg #[.int .i64 (n : Int), .int .u64 (v : Int)]] #[]] w
      fun e w' => ∃ b, e = .returned (.slice (some ⟨b, 0, none⟩) n n) ∧ w.heap.size ≤ b ∧ b < w'.heap.size ∧ w'.heap[b]? = some (.cells (bA (highB n v)) 5 (0, 0)) ∧ Below w.heap.size w w' := by
  have hmk := mk_bytes n (by omega)
  have hlo : ¬ (n : Int) < 1 := by omega
  have hhi : ¬ (8 : Int) < n := by omega
  have hl := highB_len n v
  have hs : ∀ o : Obj, ((w.alloc o).alloc (.cells (bA (List.replicate n 0)) 5)).heap[w.heap.size + 1]? = some (.cells (bA (partB (highB n v) 0)) 5 (0, 0)) := fun o => by
    rw [partB_zero, hl, show w.heap.size + 1 = (w.alloc o).heap.size by simp, heap_new']
  have HS := Lib.hid hs
  have HL := Lib.hid hl
  clear hs hl
  go_enter Try.func88, Try.ntmps88
  go_wp2
  go_loopw [20] (fun vi wr => ∃ k : Nat, k ≤ n ∧ vi = .int .i64 k ∧ Hid (wr.heap[w.heap.size + 1]? = some (.cells (bA (partB (highB n v) k)) 5 (0, 0))) ∧ w.heap.size + 1 < wr.heap.size ∧ Below w.heap.size w wr) (fun vi _ => n - (intOf vi).toNat)
  case atStart => exact ⟨0, by omega, rfl, HS.out _, by simp, (((Below.refl _ _).alloc (Nat.le_refl _) _).alloc (by simp) _)⟩
  case round =>
    obtain ⟨k, hk, rfl, hb, hz, hbel⟩ := hrel
    clear HS hmk
    by_cases hlt : k < n
    · go_wp2_with (go_at_call 89; (with_reducible refine (down_c n v k hv hn hlt _ rfl _).mono ?_); rintro e w1 ⟨rfl, hb1⟩; have hB1 := (hb1.block (w.heap.size + 1) hz).trans hb.out; have hc1 := (cells_at hB1 k).trans (bA_get _ k (by rw [partB_len _ _ (by rw [HL.out]; omega), HL.out]; exact hlt)); have hf1 := free_at hB1 k; have HB1 := Lib.hid hB1; clear hB1)
      go_roundw
      case rel =>
        have h1 := block_at HB1.out k (.int .u8 ((upB v (n - 1 - k) : Nat) : Int))
        rw [bA_set, ← highB_get n v k hlt, partB_set _ _ (by rw [HL.out]; exact hlt)] at h1
        rw [highB_get n v k hlt] at h1
        exact ⟨k + 1, by omega, by go_num, h1, by have := hb1.size; simp [World.setCell]; omega, (hbel.trans (hb1.mono (by omega))).setCell (by simp) _⟩
      case measure => simp [intOf]; omega
    · obtain rfl : k = n := by omega
      have h1 := hb.out
      have h2 := partB_full (highB k v)
      rw [HL.out] at h2
      rw [h2] at h1
      have H1 := Lib.hid h1
      clear hb h1 h2
      go_wp2
      go_ret
      exact ⟨_, rfl, by omega, hz, H1.out, hbel⟩
set_option maxRecDepth 100000 in
set_option maxHeartbeats 1000000 in
theorem high_c (n v : Nat) (hv : v < 18446744073709551616) (h1 : 1 ≤ n) (hn : n ≤ 8) (N V : Int) (hN : N = n) (hV : V = v) (w : World) :
    Calls Try.prog 79 #[.int .i64 N, .int .u64 V] w
      fun e w' => ∃ b, e = .returned (.slice (some ⟨b, 0, none⟩) n n) ∧ w.heap.size ≤ b ∧ b < w'.heap.size ∧ w'.heap[b]? = some (.cells (bA (highB n v)) 5 (0, 0)) ∧ Below w.heap.size w w' := by
  subst hN hV
  go_enter Try.func79, Try.ntmps79
  go_wp2_with fail
  refine (bytes_c n v hv h1 hn _).mono ?_
  rintro e w1 ⟨b, rfl, hb, hz, hB, hbel⟩
  have HB := Lib.hid hB
  clear hB
  go_wp2
  go_ret
  exact ⟨b, rfl, by simp at hb; omega, hz, HB.out, ((Below.refl _ _).alloc (Nat.le_refl _) _).trans (hbel.mono (by simp))⟩
end Go.Proofs.Ytinjafacnekkcaa
namespace Go.Proofs.Ytinjafacnekkcaa
open Go Go.RowKit
set_option maxRecDepth 100000 in
set_option maxHeartbeats 2000000 in
theorem grow_c (n : Nat) (h0 : 0 < n) (hn : n ≤ 4294967296) (w : World) :
    Calls Try.prog 87 #[.slice none 0 0, .int .i64 (n : Int)] w fun e w' => ∃ G, e = .returned (.slice (some ⟨w.heap.size, 0, none⟩) 0 G) ∧ w'.ownsRow w.heap.size 5 1 (.slice (some ⟨w.heap.size, 0, none⟩) 0 G) 0 [] ∧ Below w.heap.size w w' := by
  obtain ⟨i0, hi0, hzz⟩ := Option.map_eq_some_iff.1 u8info
  simp only [Prod.mk.injEq] at hzz
  obtain ⟨hz0, hs0, hb0⟩ := hzz
  have hold : (Builtin.firstCells i0.size 0 (.slice none 0 0)).run Try.prog w.drew = .ok #[] w.drew := run_firstCells_none w.drew i0.size 0 0 0
  have hg : (0 : Nat) < 0 + n := by omega
  have hrz : ∀ ty, (Builtin.append_ #[29, 3] ty #[.slice none 0 0, .int .i64 (n : Int)]).run Try.prog w =
      .ok (.slice (some ⟨w.heap.size, 0, none⟩) n (grownCap w n 0 5)) (w.drew.alloc (.cells (#[] ++ Builtin.zeroCells #[.int .u8 0] n ++ Builtin.zeroCells #[.int .u8 0] (grownCap w n 0 5 - n)) 5)) := fun ty => by
    have h := Lib.run_append_grow_zeros w 29 3 ty 5 i0 (.int .u8 0) .i64 .i64 Try.underlying29 Try.underlying3 hi0 hz0 none 0 0 [] hold n h0 (by omega) (by omega) (by omega) (by rw [hb0]; omega)
      (growslice_fits (by omega) (by rw [hb0]; omega))
    rw [Nat.zero_add] at h
    exact h
  have hGn : n ≤ grownCap w n 0 5 := grownCap_ge w _ _ _
  have hGm := grownCap_le_maxLen w n 0 5 (by unfold maxLen; omega)
  generalize grownCap w n 0 5 = G at *
  have hrow : (w.alloc (.cells (Builtin.zeroCells #[.int .u8 0] n ++ Builtin.zeroCells #[.int .u8 0] (G - n)) 5)).drew.ownsRow w.heap.size 5 1 (.slice (some ⟨w.heap.size, 0, none⟩) 0 G) 0 [] :=
    (World.ownsRow_made w (Builtin.zeroCells #[.int .u8 0] n ++ Builtin.zeroCells #[.int .u8 0] (G - n)) G (by omega) hGm (by simp [size_zeroCells]; omega) : _)
  have HROW := Lib.hid hrow
  clear hold hrow hi0 hz0 hs0 hb0
  have hG63 : G ≤ 9223372036854775807 := by unfold maxLen at hGm; omega
  have h4 : ¬ ((n : Int) < 0) := by omega
  go_enter Try.func87, Try.ntmps87
  go_wp2_with (at_builtin; refine Lib.wpList_append_run _ rfl _ _ _ _ rfl _ _ rfl rfl _ _ (hrz _) ?_)
  go_ret
  exact ⟨G, rfl, HROW.out, (Below.refl _ _).drew.alloc (Nat.le_refl _) _⟩
theorem add_zero_off (b j : Nat) : (⟨b, 0, none⟩ : Addr).add j = ⟨b, j, none⟩ := by
  unfold Addr.add; split <;> simp_all
theorem own_base {w : World} {base : Nat} {e : TypeId} {size : Nat} {v : Value} {n : Nat} {xs : List Value} (h : w.ownsRow base e size v n xs) (k : Nat) (hk : v.ownBlock = some k) : base ≤ k := by
  obtain ⟨_, h2⟩ := h
  rcases h2 with ⟨rfl, _⟩ | ⟨g, cap, cur, rfl, hg, _⟩
  · simp [Value.ownBlock] at hk
  · simp [Value.ownBlock] at hk; omega
/-- the total length -/
def totL (segs : List (Nat × List Nat)) : Nat := (segs.map (·.2.length)).sum
def catL (segs : List (Nat × List Nat)) : List Nat := (segs.map (·.2)).flatten
theorem totL_succ (segs : List (Nat × List Nat)) (k : Nat) (h : k < segs.length) : totL (segs.take (k + 1)) = totL (segs.take k) + (segs[k]).2.length := by
  unfold totL; rw [List.take_succ_eq_append_getElem h]; simp only [List.map_append, List.sum_append, List.map_cons, List.map_nil, List.sum_cons, List.sum_nil]; omega
theorem catL_succ (segs : List (Nat × List Nat)) (k : Nat) (h : k < segs.length) : catL (segs.take (k + 1)) = catL (segs.take k) ++ (segs[k]).2 := by
  unfold catL; rw [List.take_succ_eq_append_getElem h]; simp only [List.map_append, List.flatten_append, List.map_cons, List.map_nil, List.flatten_cons, List.flatten_nil, List.append_nil]
theorem totL_le (segs : List (Nat × List Nat)) (k : Nat) : totL (segs.take k) ≤ totL segs := by
  have : totL segs = totL (segs.take k) + totL (segs.drop k) := by
    unfold totL; rw [← List.sum_append, ← List.map_append, List.take_append_drop]
  omega
/-- the row of the slices -/
def segV (s : Nat × List Nat) : Value := .slice (some ⟨s.1, 0, none⟩) s.2.length s.2.length
def segA (segs : List (Nat × List Nat)) : Array Value := (segs.map segV).toArray
theorem segA_get (segs : List (Nat × List Nat)) (k : Nat) (h : k < segs.length) : (segA segs)[k]? = some (segV segs[k]) := by
  unfold segA; simp [h]
def SegsIn (w : World) (segs : List (Nat × List Nat)) : Prop := ∀ s ∈ segs, w.heap[s.1]? = some (.cells (bA s.2) 5 (0, 0))
set_option maxRecDepth 100000 in
set_option maxHeartbeats 2000000 in
theorem concat_c (segs : List (Nat × List Nat)) (bs : Nat) (w : World) (hbs : w.heap[bs]? = some (.cells (segA segs) 29 (0, 0))) (hsegs : SegsIn w segs)
    (h0 : 0 < totL segs) (ht : totL segs ≤ 4294967296) (hlen : segs.length ≤ 4294967296) :
    Calls Try.prog 78 #[.slice (some ⟨bs, 0, none⟩) segs.length segs.length] w
      fun e w' => ∃ v, e = .returned v ∧ w'.ownsRow w.heap.size 5 1 v (totL segs) ((catL segs).map fun (n : Nat) => .int .u8 (n : Int)) ∧ Below w.heap.size w w' := by
  have HBS := Lib.hid hbs
  have HSG := Lib.hid hsegs
  clear hbs hsegs
  go_enter Try.func78, Try.ntmps78
  go_wp2
  go_loop [3, 11] (fun vs vi => ∃ k n : Nat, k ≤ segs.length ∧ vi = .int .i64 k ∧ vs = .int .i64 n ∧ n ≤ totL segs ∧ Hid (n = totL (segs.take k))) (fun _ vi => segs.length - (intOf vi).toNat)
  case atStart => exact ⟨0, 0, by omega, rfl, rfl, by omega, rfl⟩
  case round =>
    obtain ⟨k, n, hk, rfl, rfl, hn, hnt⟩ := hrel
    by_cases hlt : k < segs.length
    · have c0 := (cells_at HBS.out k).trans (segA_get segs k hlt)
      have hsum := totL_succ segs k hlt
      have hle := totL_le segs (k + 1)
      obtain ⟨m, hm⟩ : ∃ m, m = (segs[k]).2.length := ⟨_, rfl⟩
      have c1 : w.cell? ⟨bs, k, none⟩ = some (.slice (some ⟨(segs[k]).1, 0, none⟩) m m) := by rw [c0, segV, hm]
      have hnm : n + m ≤ totL segs := by have := hnt.out; omega
      have HNM : Hid (n + m = totL (segs.take (k + 1))) := by have := hnt.out; show n + m = totL (segs.take (k + 1)); omega
      obtain ⟨b, hb⟩ : ∃ b, b = (segs[k]).1 := ⟨_, rfl⟩
      rw [← hb] at c1
      clear c0 hsum hle hnt hm hb
      have hneg : ¬ ((n : Int) + (m : Int) < 0) := by omega
      go_wp2
      go_round
      case rel => exact ⟨k + 1, n + m, by omega, by go_num, by go_num, hnm, HNM⟩
      case measure => simp [intOf]; omega
    · obtain rfl : k = segs.length := by omega
      obtain rfl : n = totL segs := by have := hnt.out; rw [List.take_length] at this; exact this
      clear hnt hk hlt
      go_wp2_with (go_at_call 87; (with_reducible refine (grow_c _ h0 ht _).mono ?_); rintro e w1 ⟨G, rfl, hown, hbel⟩)
      have hst : w1.ownsRow w.heap.size 5 1 (.slice (some ⟨w.heap.size, 0, none⟩) 0 G) (totL (segs.take 0)) ((catL (segs.take 0)).map fun (n : Nat) => .int .u8 (n : Int)) := hown
      have HST := Lib.hid hst
      have HBEL := Lib.hid hbel
      clear hown hst hbel
      obtain ⟨i0, hi0, hzz⟩ := Option.map_eq_some_iff.1 u8info
      simp only [Prod.mk.injEq] at hzz
      obtain ⟨hz0, hs0, hb0⟩ := hzz
      have HI := Lib.hid hi0
      have HZ := Lib.hid hz0
      have HSZ := Lib.hid hs0
      have HBY := Lib.hid hb0
      clear hi0 hz0 hs0 hb0
      go_loopw [6, 27] (fun v vi wr => ∃ k : Nat, k ≤ segs.length ∧ vi = .int .i64 k ∧ Hid (wr.ownsRow w.heap.size 5 1 v (totL (segs.take k)) ((catL (segs.take k)).map fun (n : Nat) => .int .u8 (n : Int))) ∧ Hid (Below w.heap.size w wr)) (fun _ vi _ => segs.length - (intOf vi).toNat)
      case atStart => exact ⟨0, by omega, rfl, HST, HBEL⟩
      case round =>
        clear HST HBEL
        obtain ⟨k, hk, rfl, hown, hbel⟩ := hrel
        by_cases hlt : k < segs.length
        · have hbs : bs < w.heap.size := lt_of_block HBS.out
          have hblk := (hbel.out.block bs hbs).trans HBS.out
          have c0 := (cells_at hblk k).trans (segA_get segs k hlt)
          have hsum := totL_succ segs k hlt
          have hcat := catL_succ segs k hlt
          have hle := totL_le segs (k + 1)
          have hseg := HSG.out _ (List.getElem_mem hlt)
          have hsb : (segs[k]).1 < w.heap.size := lt_of_block hseg
          have hsw := (hbel.out.block _ hsb).trans hseg
          generalize hsg : segs[k] = sg at *
          obtain ⟨b, l⟩ := sg
          simp only at hsum hcat hsb hsw
          obtain ⟨m, hm⟩ : ∃ m, m = l.length := ⟨_, rfl⟩
          have c1 : wr.cell? ⟨bs, k, none⟩ = some (.slice (some ⟨b, 0, none⟩) m m) := by rw [c0, segV, hm]
          have hnews : ∀ j u, (l.map fun (n : Nat) => Value.int .u8 (n : Int))[j]? = some u → wr.cell? ((⟨b, 0, none⟩ : Addr).add j) = some u := fun j u hj => by
            have : wr.cell? ⟨b, j, none⟩ = some u := by rw [cells_at hsw j]; unfold bA; simpa using hj
            rw [add_zero_off]; exact this
          have h1c : ∀ u ∈ (l.map fun (n : Nat) => Value.int .u8 (n : Int)), u.oneCell' = true := fun u hu => by
            obtain ⟨n, _, rfl⟩ := List.mem_map.1 hu; rfl
          have HN := Lib.hid hnews
          have H1C := Lib.hid h1c
          have hml : (l.map fun (n : Nat) => Value.int .u8 (n : Int)).length = m * 1 := by simp [hm]
          have HML := Lib.hid hml
          have hbound : totL (segs.take k) + m ≤ 4294967296 := by omega
          have HSUM : Hid (totL (segs.take k) + m = totL (segs.take (k + 1))) := by rw [hsum, hm]; exact rfl
          have HCAT := Lib.hid hcat
          have hwz := Lib.hid hbel.out.size
          clear c0 hsum hcat hle hseg hsw hblk hnews h1c hml hm hsg
          go_wp2_with (at_builtin; refine wpList_append_own _ rfl (.tmp 31) (.tmp 32) 29 rfl w.heap.size 5 i0 (.int .u8 0) 1 1 Try.underlying29 HI.out HZ.out HSZ.out HBY.out rfl (by decide) _ _ _ rfl hown.out ⟨b, 0, none⟩ m m (l.map fun (n : Nat) => Value.int .u8 (n : Int)) rfl HML.out HN.out H1C.out (by unfold maxLen; omega) (by omega) hwz.out ?_)
          intro v' w2 hown' hgrow _
          have R1 : Hid (w2.ownsRow w.heap.size 5 1 v' (totL (segs.take (k + 1))) ((catL (segs.take (k + 1))).map fun (n : Nat) => .int .u8 (n : Int))) := by
            rw [← HSUM.out, HCAT.out, List.map_append]; exact hown'
          have R2 := Lib.hid (hbel.out.grown hgrow hwz.out (own_base hown.out))
          clear hown' hgrow hown hbel HN H1C HML
          go_wp2
          go_roundw
          case rel => exact ⟨k + 1, by omega, by go_num, R1, R2⟩
          case measure => simp [intOf]; omega
        · obtain rfl : k = segs.length := by omega
          have R : Hid (wr.ownsRow w.heap.size 5 1 u6 (totL segs) ((catL segs).map fun (n : Nat) => .int .u8 (n : Int))) := by
            have := hown.out; rw [List.take_length] at this; exact this
          clear hown
          go_wp2
          go_ret
          exact ⟨_, rfl, R.out, hbel.out⟩
end Go.Proofs.Ytinjafacnekkcaa
namespace Go.Proofs.Ytinjafacnekkcaa
open Go Go.RowKit
def ctrB (e b l : Nat) : List Nat := highB 8 e ++ (highB 4 b ++ (highB 2 l ++ [0, 0]))
theorem ctrB_len (e b l : Nat) : (ctrB e b l).length = 16 := by simp [ctrB, highB_len]
theorem zero16 : (Try.prog.info? 22).map (·.size) = some 16 := by kernel_rfl
set_option maxRecDepth 100000 in
set_option maxHeartbeats 2000000 in
theorem counter_c (e b l : Nat) (he : e < 18446744073709551616) (hb : b < 4294967296) (hl : l < 65536) (w : World) :
    Calls Try.prog 60 #[.int .u64 (e : Int), .int .u32 (b : Int), .int .u16 (l : Int)] w
      fun r w' => r = .returned (.agg (bA (ctrB e b l))) ∧ Below w.heap.size w w' := by
  go_enter Try.func60, Try.ntmps60
  go_wp2_with fail
  refine (high_c 8 e he (by omega) (by omega) _ _ rfl rfl _).mono ?_
  rintro r w1 ⟨b1, rfl, hb1, hz1, hB1, hbel1⟩
  have hr1 := (hbel1.block w.heap.size (by simp)).trans (heap_new' w _)
  have HR1 := Lib.hid hr1
  have HB1 := Lib.hid hB1
  have hbw1 := (((Below.refl w.heap.size w).alloc (Nat.le_refl _) _).trans (hbel1.mono (by simp)))
  have hs1 : w.heap.size < w1.heap.size := by have := hbel1.size; simp at this; omega
  clear hr1 hB1 hbel1 hb1
  go_wp2_with fail
  refine (high_c 4 b (by omega) (by omega) (by omega) _ _ rfl rfl _).mono ?_
  rintro r w2 ⟨b2, rfl, hb2, hz2, hB2, hbel2⟩
  have HR2 := Lib.hid ((hbel2.block w.heap.size hs1).trans HR1.out)
  have HC1 := Lib.hid ((hbel2.block b1 hz1).trans HB1.out)
  have HB2 := Lib.hid hB2
  have hbw2 := hbw1.trans (hbel2.mono (by omega))
  have hs2 := hbel2.size
  clear hB2 hbel2 hb2 hbw1 HR1 HB1
  go_wp2_with fail
  refine (high_c 2 l (by omega) (by omega) (by omega) _ _ rfl rfl _).mono ?_
  rintro r w3 ⟨b3, rfl, hb3, hz3, hB3, hbel3⟩
  have HR3 := Lib.hid ((hbel3.block w.heap.size (by omega)).trans HR2.out)
  have HD1 := Lib.hid ((hbel3.block b1 (by omega)).trans HC1.out)
  have HD2 := Lib.hid ((hbel3.block b2 (by omega)).trans HB2.out)
  have HD3 := Lib.hid hB3
  have hbw3 := hbw2.trans (hbel3.mono (by omega))
  have hs3 := hbel3.size
  clear hB3 hbel3 hb3 hbw2 HR2 HC1 HB2
  have HBW := Lib.hid hbw3
  clear hbw3
  go_wp2_with fail
  obtain ⟨segs, hsegs⟩ : ∃ segs : List (Nat × List Nat), segs = [(b1, highB 8 e), (b2, highB 4 b), (b3, highB 2 l), (w3.heap.size, [0, 0])] := ⟨_, rfl⟩
  have hlen : segs.length = 4 := by rw [hsegs]; rfl
  have htot : totL segs = 16 := by rw [hsegs]; simp [totL, highB_len]
  have hcat : catL segs = ctrB e b l := by rw [hsegs]; simp [catL, ctrB]
  have hsA : segA segs = #[.slice (some ⟨b1, 0, none⟩) 8 8, .slice (some ⟨b2, 0, none⟩) 4 4, .slice (some ⟨b3, 0, none⟩) 2 2, .slice (some ⟨w3.heap.size, 0, none⟩) 2 2] := by
    rw [hsegs]; simp [segA, segV, highB_len]
  obtain ⟨W, hW⟩ : ∃ W, W = (w3.alloc (.cells #[.int .u8 0, .int .u8 0] 5)).alloc (.cells #[.slice (some ⟨b1, 0, none⟩) 8 8, .slice (some ⟨b2, 0, none⟩) 4 4, .slice (some ⟨b3, 0, none⟩) 2 2, .slice (some ⟨w3.heap.size, 0, none⟩) 2 2] 29) := ⟨_, rfl⟩
  rw [← hW]
  have hold : ∀ k, k < w3.heap.size → W.heap[k]? = w3.heap[k]? := fun k hk => by
    rw [hW, heap_old' _ _ _ (by simp; omega), heap_old' _ _ _ hk]
  have hin : SegsIn W segs := by
    intro s hs
    rw [hsegs] at hs
    simp only [List.mem_cons, List.not_mem_nil, or_false] at hs
    rcases hs with rfl | rfl | rfl | rfl
    · exact (hold _ (by show b1 < _; omega)).trans HD1.out
    · exact (hold _ (by show b2 < _; omega)).trans HD2.out
    · exact (hold _ (by show b3 < _; omega)).trans HD3.out
    · show W.heap[w3.heap.size]? = _
      rw [hW, heap_old' _ _ _ (by simp), heap_new']; rfl
  have hbs : W.heap[w3.heap.size + 1]? = some (.cells (segA segs) 29 (0, 0)) := by
    rw [hW, hsA, show w3.heap.size + 1 = (w3.alloc (.cells #[.int .u8 0, .int .u8 0] 5)).heap.size by simp, heap_new']
  have hc := concat_c segs (w3.heap.size + 1) W hbs hin (by omega) (by omega) (by omega)
  rw [hlen] at hc
  have hWr := (hold w.heap.size (by omega)).trans HR3.out
  have hWz : w3.heap.size + 2 = W.heap.size := by rw [hW]; simp
  have hbW : Below w.heap.size w W := by
    rw [hW]; exact (HBW.out.alloc (by omega) _).alloc (by simp; omega) _
  clear hW
  refine hc.mono ?_
  rintro r w5 ⟨v, rfl, hown, hbel5⟩
  rw [htot, hcat] at hown
  obtain ⟨hxl, hv⟩ := hown
  rcases hv with ⟨rfl, hbad⟩ | ⟨g, cap, cur, rfl, hg, hcur, hcap, hcm, hsz, htk⟩
  · omega
  have hr5 := (hbel5.block w.heap.size (by omega)).trans hWr
  have hrange : w5.rangeAt g 0 ((ctrB e b l).map fun (n : Nat) => Value.int .u8 (n : Int)) := by
    intro j v hv
    rw [Nat.zero_add, cells_at hcur j, ← Array.getElem?_toList]
    rw [← htk] at hv
    rw [List.getElem?_take] at hv
    split at hv
    · exact hv
    · cases hv
  have HRG := Lib.hid hrange
  have HR5 := Lib.hid hr5
  have hb5 := Lib.hid (hbW.trans (hbel5.mono (by omega)))
  clear hrange hr5 hbel5 hbW hWr hc hbs hin hold hsA hcat htot hlen hsegs hxl hcur hsz htk HR3 HD1 HD2 HD3 HBW hg hWz
  have ha : ∀ w, (Instr.arrayAt 22 (.slice (some ⟨g, 0, none⟩) 16 cap)).run Try.prog w = .ok (.pointer (some ⟨g, 0, none⟩)) w := fun w => run_arrayAt w 22 5 16 (some ⟨g, 0, none⟩) 16 cap Try.underlying22 (by omega)
  go_wp2_with (first
    | (refine wpList_load_mid rfl 22 (.tmp 20) rfl g 0 rfl _ _ HRG.out Try.underlying22 rfl (by rw [zero16]; simp [ctrB_len]) ?_)
    | (refine wpList_store_row rfl 22 (.tmp 6) (.tmp 21) rfl w.heap.size _ rfl rfl 22 _ HR5.out (by rw [zero16]; simp [ctrB_len]) (by simp [ctrB_len]) (by rw [← Array.all_toList]; simp [Value.oneCell']) ?_))
  exact bodyPost_ret (results_cell_row rfl _ _ w.heap.size 22 (bA (ctrB e b l)) (0, 0) _ rfl (setRow_heap _ _ _ _ _ _ HR5.out) Try.underlying22 rfl (by rw [zero16, bA_size, ctrB_len])) rfl ⟨rfl, below_setRow hb5.out (Nat.le_refl _) _⟩
end Go.Proofs.Ytinjafacnekkcaa
namespace Go.Proofs.Ytinjafacnekkcaa
open Go Go.RowKit
def fillE (e : Nat) : Nat → List Nat
  | 0 => List.replicate 16 0
  | k + 1 => (fillE e k).set (7 - k) (upB e k)
def fillB (e b : Nat) : Nat → List Nat
  | 0 => fillE e 8
  | k + 1 => (fillB e b k).set (11 - k) (upB b k)
theorem fillE_len (e k : Nat) : (fillE e k).length = 16 := by
  induction k with
  | zero => rfl
  | succ k ih => simp [fillE, ih]
theorem fillB_len (e b k : Nat) : (fillB e b k).length = 16 := by
  induction k with
  | zero => exact fillE_len e 8
  | succ k ih => simp [fillB, ih]
theorem fill_all (e b l : Nat) (hl : l < 65536) : ((fillB e b 4).set 12 (l / 256)).set 13 (l % 256) = ctrB e b l := by
  have h1 : upB l 1 = l / 256 := by unfold upB; omega
  have h0 : upB l 0 = l % 256 := by simp [upB]
  rw [← h1, ← h0]
  rfl
theorem upB_step (e k : Nat) : e / 2 ^ (8 * k) / 256 = e / 2 ^ (8 * (k + 1)) := by
  rw [Nat.div_div_eq_div_mul, show 8 * (k + 1) = 8 * k + 8 by omega, Nat.pow_add]
theorem upB_lt (e k : Nat) : upB e k < 256 := by unfold upB; omega
set_option maxRecDepth 100000 in
set_option maxHeartbeats 2000000 in
theorem refcounter_c (e b l : Nat) (he : e < 18446744073709551616) (hb : b < 4294967296) (hl : l < 65536) (w : World) :
    Calls Try.prog 51 #[.int .u64 (e : Int), .int .u32 (b : Int), .int .i64 (l : Int)] w
      fun r w' => r = .returned (.agg (bA (ctrB e b l))) ∧ Below w.heap.size w w' := by
  have s1 : ((w.alloc (.cells (bA (List.replicate 16 0)) 22)).alloc (.cells (bA (List.replicate 16 0)) 22)).heap[w.heap.size]? = some (.cells (bA (List.replicate 16 0)) 22 (0, 0)) := by
    rw [heap_old' _ _ _ (by simp), heap_new']
  have s2 : ((w.alloc (.cells (bA (List.replicate 16 0)) 22)).alloc (.cells (bA (List.replicate 16 0)) 22)).heap[w.heap.size + 1]? = some (.cells (bA (fillE e 0)) 22 (0, 0)) := by
    rw [show w.heap.size + 1 = (w.alloc (.cells (bA (List.replicate 16 0)) 22)).heap.size by simp, heap_new']; rfl
  have S1 := Lib.hid s1
  have S2 := Lib.hid s2
  clear s1 s2
  go_enter Try.func51, Try.ntmps51
  go_wp2
  go_loopw [0, 8] (fun ve vi wr => ∃ k x : Nat, k ≤ 8 ∧ ve = .int .u64 x ∧ vi = .int .i64 (7 - (k : Int)) ∧ x < 18446744073709551616 ∧ Hid (x = e / 2 ^ (8 * k)) ∧ Hid (wr.heap[w.heap.size]? = some (.cells (bA (List.replicate 16 0)) 22 (0, 0))) ∧ Hid (wr.heap[w.heap.size + 1]? = some (.cells (bA (fillE e k)) 22 (0, 0))) ∧ Hid (w.heap.size + 1 < wr.heap.size) ∧ Hid (Below w.heap.size w wr)) (fun _ vi _ => (intOf vi + 1).toNat)
  case atStart => exact ⟨0, e, by omega, rfl, rfl, he, Lib.hid (by simp), S1, S2, Lib.hid (by simp), (((Below.refl _ _).alloc (Nat.le_refl _) _).alloc (by simp) _)⟩
  case round =>
    clear S1 S2
    obtain ⟨k, x, hk, rfl, rfl, hx, hxe, h1, h2, hz, hbel⟩ := hrel
    by_cases hlt : k < 8
    · have c1 := (cells_at h2.out (7 - k)).trans (bA_get _ (7 - k) (by rw [fillE_len]; omega))
      have f1 := free_at h2.out (7 - k)
      have i1 : (0 : Int) ≤ 7 - (k : Int) := by omega
      have i2 : (7 - (k : Int)).toNat = 7 - k := by omega
      have i3 : 7 - (k : Int) < 16 := by omega
      go_wp2
      go_roundw
      case rel =>
        have e1 : x / 256 = e / 2 ^ (8 * (k + 1)) := by rw [hxe.out, upB_step]
        have e2 : x % 256 = upB e k := by rw [hxe.out]; rfl
        have n1 := (Below.heap_setCell wr ⟨w.heap.size + 1, 7 - k, none⟩ (.int .u8 ((x : Int) % 256)) w.heap.size (by simp)).trans h1.out
        have n2 := block_at h2.out (7 - k) (.int .u8 ((x : Int) % 256))
        have e3 : ((x : Int) % 256) = ((upB e k : Nat) : Int) := by omega
        rw [e3, bA_set] at n2
        rw [← e3] at n2
        exact ⟨k + 1, x / 256, by omega, by go_num, vint (by omega), by omega, Lib.hid e1, n1, n2, Lib.hid (by have := hz.out; simp [World.setCell]; exact this), hbel.out.setCell (by simp) _⟩
      case measure => simp [intOf]; omega
    · obtain rfl : k = 8 := by omega
      have HZ1 := hz
      clear hxe
      go_wp2
      go_loopw [1, 9] (fun ve vi wr => ∃ k x : Nat, k ≤ 4 ∧ ve = .int .u32 x ∧ vi = .int .i64 (11 - (k : Int)) ∧ x < 4294967296 ∧ Hid (x = b / 2 ^ (8 * k)) ∧ Hid (wr.heap[w.heap.size]? = some (.cells (bA (List.replicate 16 0)) 22 (0, 0))) ∧ Hid (wr.heap[w.heap.size + 1]? = some (.cells (bA (fillB e b k)) 22 (0, 0))) ∧ Hid (w.heap.size + 1 < wr.heap.size) ∧ Hid (Below w.heap.size w wr)) (fun _ vi _ => (intOf vi + 1).toNat)
      case atStart => exact ⟨0, b, by omega, rfl, rfl, hb, Lib.hid (by simp), h1, h2, hz, hbel⟩
      case round =>
        clear h1 h2 hz hbel HZ1
        obtain ⟨k, y, hk, rfl, rfl, hy, hxe, h1, h2, hz, hbel⟩ := hrel
        by_cases hlt : k < 4
        · have c1 := (cells_at h2.out (11 - k)).trans (bA_get _ (11 - k) (by rw [fillB_len]; omega))
          have f1 := free_at h2.out (11 - k)
          have i1 : (0 : Int) ≤ 11 - (k : Int) := by omega
          have i2 : (11 - (k : Int)).toNat = 11 - k := by omega
          have i3 : 11 - (k : Int) < 16 := by omega
          go_wp2
          go_roundw
          case rel =>
            have e1 : y / 256 = b / 2 ^ (8 * (k + 1)) := by rw [hxe.out, upB_step]
            have e2 : y % 256 = upB b k := by rw [hxe.out]; rfl
            have n1 := (Below.heap_setCell wr ⟨w.heap.size + 1, 11 - k, none⟩ (.int .u8 ((y : Int) % 256)) w.heap.size (by simp)).trans h1.out
            have n2 := block_at h2.out (11 - k) (.int .u8 ((y : Int) % 256))
            have e3 : ((y : Int) % 256) = ((upB b k : Nat) : Int) := by omega
            rw [e3, bA_set] at n2
            rw [← e3] at n2
            exact ⟨k + 1, y / 256, by omega, by go_num, vint (by omega), by omega, Lib.hid e1, n1, n2, Lib.hid (by have := hz.out; simp [World.setCell]; exact this), hbel.out.setCell (by simp) _⟩
          case measure => simp [intOf]; omega
        · obtain rfl : k = 4 := by omega
          have c1 := (cells_at h2.out 12).trans (bA_get _ 12 (by rw [fillB_len]; omega))
          have f1 := free_at h2.out 12
          have c2 := (cells_at h2.out 13).trans (bA_get _ 13 (by rw [fillB_len]; omega))
          have f2 := free_at h2.out 13
          have hd : ((l : Int) / 256) % 256 = ((l / 256 : Nat) : Int) := by omega
          have hr : (l : Int) % 256 % 256 = ((l % 256 : Nat) : Int) := by omega
          have n1 := (Below.heap_setCell (wr.setCell ⟨w.heap.size + 1, 12, none⟩ (.int .u8 ((l / 256 : Nat) : Int))) ⟨w.heap.size + 1, 13, none⟩ (.int .u8 ((l % 256 : Nat) : Int)) w.heap.size (by simp)).trans ((Below.heap_setCell wr ⟨w.heap.size + 1, 12, none⟩ (.int .u8 ((l / 256 : Nat) : Int)) w.heap.size (by simp)).trans h1.out)
          have n2 := block_at (block_at h2.out 12 (.int .u8 ((l / 256 : Nat) : Int))) 13 (.int .u8 ((l % 256 : Nat) : Int))
          rw [bA_set, bA_set, fill_all e b l hl] at n2
          have N1 := Lib.hid n1
          have N2 := Lib.hid n2
          have NB := Lib.hid ((hbel.out.setCell (p := ⟨w.heap.size + 1, 12, none⟩) (by simp) (.int .u8 ((l / 256 : Nat) : Int))).setCell (p := ⟨w.heap.size + 1, 13, none⟩) (by simp) (.int .u8 ((l % 256 : Nat) : Int)))
          clear h1 h2 n1 n2 hbel hz hxe
          obtain ⟨d1, hd1⟩ : ∃ d, d = l / 256 := ⟨_, rfl⟩
          obtain ⟨d2, hd2⟩ : ∃ d, d = l % 256 := ⟨_, rfl⟩
          rw [← hd1] at N1 N2 NB
          rw [← hd2] at N1 N2 NB
          have k1 : (l : Int) / 256 = (d1 : Int) := by omega
          have k2 : (l : Int) % 256 = (d2 : Int) := by omega
          have k3 : d1 < 256 := by omega
          have k4 : d2 < 256 := by omega
          clear hd hr hd1 hd2
          go_wp2_with (first
            | (refine wpList_load_row rfl 22 (.tmp 7) rfl (w.heap.size + 1) rfl _ _ _ _ N2.out Try.underlying22 rfl (by rw [zero16, bA_size, ctrB_len]) ?_)
            | (refine wpList_store_row rfl 22 (.tmp 6) (.tmp 40) rfl w.heap.size _ rfl rfl 22 _ N1.out (by rw [zero16, bA_size, ctrB_len]) (by rw [bA_size, bA_size, ctrB_len]; rfl) (by rw [← Array.all_toList]; simp [bA, Value.oneCell']) ?_))
          exact bodyPost_ret (results_cell_row rfl _ _ w.heap.size 22 (bA (ctrB e b l)) (0, 0) _ rfl (setRow_heap _ _ _ _ _ _ N1.out) Try.underlying22 rfl (by rw [zero16, bA_size, ctrB_len])) rfl ⟨rfl, below_setRow NB.out (Nat.le_refl _) _⟩
end Go.Proofs.Ytinjafacnekkcaa
