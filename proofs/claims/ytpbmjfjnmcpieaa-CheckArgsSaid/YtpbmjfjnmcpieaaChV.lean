/- Contract of the closure of slices.Chunk (by sixteens). -/
import Derived.Test.YtpbmjfjnmcpieaaRndG
import Derived.Test.YtpbmjfjnmcpieaaChU
import Derived.Deep.AppendLies
set_option linter.unusedVariables false
set_option linter.unusedSimpArgs false
namespace Go.Proofs.Ytpbmjfjnmcpieaa
open Go Go.RowKit
attribute [local go_sem] Oper.semAt_some
/-- the first k numbers below n -/
def upF (n k : Nat) : List (Fin n) := (List.finRange n).take k
theorem upF_succ (n k : Nat) (h : k < n) : upF n (k + 1) = upF n k ++ [⟨k, h⟩] := by
  unfold upF
  rw [List.take_succ_eq_append_getElem (by simp [h])]; simp
theorem upF_len (n k : Nat) (h : k ≤ n) : (upF n k).length = k := by simp [upF, h]
/-- the piece number j of the slice at offset o of block g -/
def pcS (g o : Nat) (j : Nat) : Value := .slice (some ⟨g, o + 16 * j, none⟩) 16 16
theorem sl_elem : Try.prog.elem 34 = 5 := by kernel_rfl
theorem add_atS (g o j : Nat) : (⟨g, o, none⟩ : Addr).add j = ⟨g, o + j, none⟩ := Addr.add_mid g o j
theorem u8sizeG (w : World) : (sizeOf 5).run Try.prog w = .ok 1 w := by go_simp
theorem sl_from (g o len cap i : Nat) (h : i < len) (hc : len ≤ cap) (w : World) :
    (Instr.sliceAt 34 (.slice (some ⟨g, o, none⟩) len cap) (some (.int .i64 (i : Int))) none none).run Try.prog w = .ok (.slice (some ⟨g, o + i, none⟩) (len - i) (cap - i)) w := by
  have hu : Try.prog.underlying 34 = some (.slice (Try.prog.elem 34)) := by rw [sl_elem]; exact Try.underlying34
  rw [run_sliceAt_slice (P := Try.prog) w 34 _ _ _ _ hu, run_slice_l w 34 _ len cap hu .i64 (i : Int) (by omega) (by omega), sl_elem, u8sizeG]
  simp only [Result.andThen, sliced, Int.toNat_natCast]
  rw [if_neg (by omega), Option.map_some, add_atS, Nat.mul_one]
theorem sl_piece (g o len cap i : Nat) (h : i + 16 ≤ cap) (w : World) :
    (Instr.sliceAt 34 (.slice (some ⟨g, o, none⟩) len cap) (some (.int .i64 (i : Int))) (some (.int .i64 ((i : Int) + 16))) (some (.int .i64 ((i : Int) + 16)))).run Try.prog w = .ok (.slice (some ⟨g, o + i, none⟩) 16 16) w := by
  have hu : Try.prog.underlying 34 = some (.slice (Try.prog.elem 34)) := by rw [sl_elem]; exact Try.underlying34
  have e : ((i : Int) + 16).toNat = i + 16 := by omega
  rw [run_sliceAt_slice (P := Try.prog) w 34 _ _ _ _ hu, run_slice_lhm w 34 _ len cap hu .i64 .i64 .i64 (i : Int) ((i : Int) + 16) ((i : Int) + 16) (by omega) (by omega) (by omega) (by omega), sl_elem, u8sizeG]
  simp only [Result.andThen, sliced, Int.toNat_natCast, e]
  rw [if_neg (by omega), Option.map_some, add_atS, Nat.mul_one, Nat.add_sub_cancel_left]
set_option maxRecDepth 100000 in
set_option maxHeartbeats 4000000 in
theorem chunkS_in (m l B1 B2 gk o cap n : Nat) (hn : 16 * n ≤ cap) (hcap : n < 250000) (J Jx : List (Fin n) → World → Prop) (Kp : World → World → Prop)
    (hK1 : ∀ A B, Kp A B → B.cell? ⟨B1, 0, none⟩ = A.cell? ⟨B1, 0, none⟩ ∧ B.cell? ⟨B2, 0, none⟩ = A.cell? ⟨B2, 0, none⟩ ∧ A.heap.size ≤ B.heap.size) (W : World) (hJ : AbidesFrom W.heap.size J)
    (hY : ∀ pre x W1, J pre W1 → pre.length < n → YieldAt Fence.wide (m - 1) Try.prog l #[pcS gk o x.1] W1 fun e W' =>
      (e = .returned (.bool true) ∧ J (pre ++ [x]) W' ∧ Kp W1 W') ∨ (e = .returned (.bool false) ∧ Jx (pre ++ [x]) W'))
    (h1 : W.cell? ⟨B1, 0, none⟩ = some (.slice (some ⟨gk, o, none⟩) (16 * n) cap)) (h2 : W.cell? ⟨B2, 0, none⟩ = some (.int .i64 16)) (h0 : J [] W) :
    CallsIn Fence.wide m Try.prog 70 #[.func (.yield l) #[] #[], .pointer (some ⟨B1, 0, none⟩), .pointer (some ⟨B2, 0, none⟩)] W fun e W' => (∃ v, e = .returned v) ∧
      ((∃ xs, xs = upF n n ∧ J xs W') ∨ (∃ pre, True ∧ Jx pre W')) := by
  refine callsIn_of_wp Try.func70 rfl trivial ?_ rfl
  simp only [Try.ntmps70, List.size_toArray, List.length_cons, List.length_nil, Nat.reduceAdd, Nat.reduceSub, Array.replicate_succ, Array.replicate_zero, List.push_toArray, List.append_toArray, List.nil_append, List.cons_append]
  gi_wp2
  gi_loopw [4] (fun i wr => ∃ k : Nat, k ≤ n ∧ i = .int .i64 ((16 * k : Nat) : Int) ∧ J (upF n k) wr ∧ wr.cell? ⟨B1, 0, none⟩ = some (.slice (some ⟨gk, o, none⟩) (16 * n) cap) ∧ wr.cell? ⟨B2, 0, none⟩ = some (.int .i64 16) ∧ W.heap.size ≤ wr.heap.size)
    (fun i _ => 16 * n - (intOf i).toNat)
  case atStart => exact ⟨0, Nat.zero_le _, rfl, h0, h1, h2, Nat.le_refl _⟩
  case round =>
    obtain ⟨k, hk, rfl, hJs, c1, c2, hsz⟩ := hrel
    obtain ⟨i, hi⟩ : ∃ i, i = 16 * k := ⟨_, rfl⟩
    rw [← hi]
    by_cases hlt : k < n
    · have hd : decide ((i : Int) < 16 * (n : Int)) = true := by simp; omega
      have hd2 : (i : Int) < 16 * (n : Int) := by omega
      have hs1 := fun w' => sl_from gk o (16 * n) cap i (by omega) hn w'
      have hs2 := fun w' => sl_piece gk o (16 * n) cap i (by omega) w'
      obtain ⟨d, hdd⟩ : ∃ d, d = 16 * n - i := ⟨_, rfl⟩
      rw [← hdd] at hs1
      have hmin : min (16 : Int) (d : Int) = 16 := by omega
      have HI := Lib.hid hi
      clear hi hdd
      gi_wp2
      gi_quiet (fail)
      have hJd : J (upF n k) (wr.drewN nq) := hJ _ wr _ none hJs ⟨rfl, rfl, rfl, Nat.le_refl _, fun _ _ _ => rfl⟩ (fun r e => by cases e)
      have d1 : (wr.drewN nq).cell? ⟨B1, 0, none⟩ = some (.slice (some ⟨gk, o, none⟩) (16 * n) cap) := c1
      have d2 : (wr.drewN nq).cell? ⟨B2, 0, none⟩ = some (.int .i64 16) := c2
      have dsz : W.heap.size ≤ (wr.drewN nq).heap.size := hsz
      obtain ⟨W3, hW3⟩ : ∃ W3, W3 = wr.drewN nq := ⟨_, rfl⟩
      rw [← hW3] at hJd d1 d2 dsz ⊢
      clear hW3 hJs c1 c2 hsz
      obtain ⟨fn, tmps, assign, body, hy, hR⟩ := hY _ ⟨k, hlt⟩ W3 hJd (by rw [upF_len _ _ hk]; exact hlt)
      unfold pcS at hy
      rw [← HI.out] at hy
      gi_wp2
      refine ⟨fun h => (by cases h), hR.mono ?_⟩
      rintro e W4 (⟨rfl, hJ4, hk4⟩ | ⟨rfl, hJx4⟩)
      · obtain ⟨k1, k2, hsz4⟩ := hK1 _ _ hk4
        replace hsz4 := Nat.le_trans dsz hsz4
        rw [d1] at k1
        rw [d2] at k2
        gi_wp2
        go_roundw
        case rel => exact ⟨k + 1, by omega, by have := HI.out; go_num, by rw [upF_succ n k hlt]; exact hJ4, k1, k2, hsz4⟩
        case measure => simp [intOf]; omega
      · gi_wp2
        refine bodyPost_ret (results_none rfl _ _ _) rfl ?_
        exact ⟨⟨_, rfl⟩, .inr ⟨_, trivial, hJx4⟩⟩
    · obtain rfl : k = n := by omega
      subst hi
      gi_wp2
      go_end0
      exact ⟨⟨_, rfl⟩, .inl ⟨_, rfl, hJs⟩⟩
set_option maxRecDepth 100000 in
theorem chunkS_c (p : Addr) (len cap : Nat) (w : World) : Calls Try.prog 50 #[.slice (some p) len cap, .int .i64 16] w fun e w' =>
    e = .returned (.func (.func 70) #[] #[.pointer (some ⟨w.heap.size, 0, none⟩), .pointer (some ⟨w.heap.size + 1, 0, none⟩)]) ∧ w' = (w.alloc (.cells #[.slice (some p) len cap] 34)).alloc (.cells #[.int .i64 16] 3) := by
  go_enter Try.func50, Try.ntmps50
  go_wp2
  go_ret
  exact ⟨rfl, rfl⟩
theorem chunkS_stops (m B1 B2 gk o cap n : Nat) (hn : 16 * n ≤ cap) (hcap : n < 250000) (Kp : World → World → Prop)
    (hK1 : ∀ A B, Kp A B → B.cell? ⟨B1, 0, none⟩ = A.cell? ⟨B1, 0, none⟩ ∧ B.cell? ⟨B2, 0, none⟩ = A.cell? ⟨B2, 0, none⟩ ∧ A.heap.size ≤ B.heap.size)
    (w : World) (hb1 : B1 < w.heap.size) (hb2 : B2 < w.heap.size) (h1 : w.cell? ⟨B1, 0, none⟩ = some (.slice (some ⟨gk, o, none⟩) (16 * n) cap)) (h2 : w.cell? ⟨B2, 0, none⟩ = some (.int .i64 16)) :
    SeqStopsK Fence.wide m Try.prog 70 #[.pointer (some ⟨B1, 0, none⟩), .pointer (some ⟨B2, 0, none⟩)] (fun x : Fin n => #[pcS gk o x.1]) Kp (fun xs => xs = upF n n) (fun _ => True) n w :=
  fun l J Jx W hW hJ _ hY h0 => chunkS_in m l B1 B2 gk o cap n hn hcap J Jx Kp hK1 W hJ hY ((hW.cell (p := ⟨B1, 0, none⟩) hb1).trans h1) ((hW.cell (p := ⟨B2, 0, none⟩) hb2).trans h2) h0
end Go.Proofs.Ytpbmjfjnmcpieaa
