/- Contract of the closure of slices.Chunk (by fours). -/
import Derived.Test.YtjclofkkpgdjnaaRnd
import Derived.Deep.AppendLies
set_option linter.unusedVariables false
set_option linter.unusedSimpArgs false
namespace Go.Proofs.Ytjclofkkpgdjnaa
open Go Go.RowKit GfM
attribute [local go_sem] Oper.semAt_some
/-- the first k numbers below n -/
def upF (n k : Nat) : List (Fin n) := (List.finRange n).take k
theorem upF_succ (n k : Nat) (h : k < n) : upF n (k + 1) = upF n k ++ [⟨k, h⟩] := by
  unfold upF
  rw [List.take_succ_eq_append_getElem (by simp [h])]; simp
theorem upF_len (n k : Nat) (h : k ≤ n) : (upF n k).length = k := by simp [upF, h]
/-- the piece number j of the slice at offset o of block g -/
def pcV (g o : Nat) (j : Nat) : Value := .slice (some ⟨g, o + 4 * j, none⟩) 4 4
theorem key_elem : Try.prog.elem 126 = 5 := by kernel_rfl
theorem add_at (g o j : Nat) : (⟨g, o, none⟩ : Addr).add j = ⟨g, o + j, none⟩ := Addr.add_mid g o j
theorem key_from (g o len cap i : Nat) (h : i < len) (hc : len ≤ cap) (w : World) :
    (Instr.sliceAt 126 (.slice (some ⟨g, o, none⟩) len cap) (some (.int .i64 (i : Int))) none none).run Try.prog w = .ok (.slice (some ⟨g, o + i, none⟩) (len - i) (cap - i)) w := by
  have hu : Try.prog.underlying 126 = some (.slice (Try.prog.elem 126)) := by rw [key_elem]; exact Try.underlying126
  rw [run_sliceAt_slice (P := Try.prog) w 126 _ _ _ _ hu, run_slice_l w 126 _ len cap hu .i64 (i : Int) (by omega) (by omega), key_elem, u8size]
  simp only [Result.andThen, sliced, Int.toNat_natCast]
  rw [if_neg (by omega), Option.map_some, add_at, Nat.mul_one]
theorem key_piece (g o len cap i : Nat) (h : i + 4 ≤ cap) (w : World) :
    (Instr.sliceAt 126 (.slice (some ⟨g, o, none⟩) len cap) (some (.int .i64 (i : Int))) (some (.int .i64 ((i : Int) + 4))) (some (.int .i64 ((i : Int) + 4)))).run Try.prog w = .ok (.slice (some ⟨g, o + i, none⟩) 4 4) w := by
  have hu : Try.prog.underlying 126 = some (.slice (Try.prog.elem 126)) := by rw [key_elem]; exact Try.underlying126
  have e : ((i : Int) + 4).toNat = i + 4 := by omega
  rw [run_sliceAt_slice (P := Try.prog) w 126 _ _ _ _ hu, run_slice_lhm w 126 _ len cap hu .i64 .i64 .i64 (i : Int) ((i : Int) + 4) ((i : Int) + 4) (by omega) (by omega) (by omega) (by omega), key_elem, u8size]
  simp only [Result.andThen, sliced, Int.toNat_natCast, e]
  rw [if_neg (by omega), Option.map_some, add_at, Nat.mul_one, Nat.add_sub_cancel_left]
set_option maxRecDepth 100000 in
set_option maxHeartbeats 4000000 in
theorem chunk1_in (m l B1 B2 gk o cap n : Nat) (hn : 4 * n ≤ cap) (hcap : n < 250000) (J Jx : List (Fin n) → World → Prop) (Kp : World → World → Prop)
    (hK1 : ∀ A B, Kp A B → B.cell? ⟨B1, 0, none⟩ = A.cell? ⟨B1, 0, none⟩ ∧ B.cell? ⟨B2, 0, none⟩ = A.cell? ⟨B2, 0, none⟩ ∧ A.heap.size ≤ B.heap.size) (W : World) (hJ : AbidesFrom W.heap.size J)
    (hY : ∀ pre x W1, J pre W1 → pre.length < n → YieldAt Fence.wide (m - 1) Try.prog l #[pcV gk o x.1] W1 fun e W' =>
      (e = .returned (.bool true) ∧ J (pre ++ [x]) W' ∧ Kp W1 W') ∨ (e = .returned (.bool false) ∧ Jx (pre ++ [x]) W'))
    (h1 : W.cell? ⟨B1, 0, none⟩ = some (.slice (some ⟨gk, o, none⟩) (4 * n) cap)) (h2 : W.cell? ⟨B2, 0, none⟩ = some (.int .i64 4)) (h0 : J [] W) :
    CallsIn Fence.wide m Try.prog 91 #[.func (.yield l) #[] #[], .pointer (some ⟨B1, 0, none⟩), .pointer (some ⟨B2, 0, none⟩)] W fun e W' => (∃ v, e = .returned v) ∧
      ((∃ xs, xs = upF n n ∧ J xs W') ∨ (∃ pre, True ∧ Jx pre W')) := by
  refine callsIn_of_wp Try.func91 rfl trivial ?_ rfl
  simp only [Try.ntmps91, List.size_toArray, List.length_cons, List.length_nil, Nat.reduceAdd, Nat.reduceSub, Array.replicate_succ, Array.replicate_zero, List.push_toArray, List.append_toArray, List.nil_append, List.cons_append]
  gi_wp2
  gi_loopw [4] (fun i wr => ∃ k : Nat, k ≤ n ∧ i = .int .i64 ((4 * k : Nat) : Int) ∧ J (upF n k) wr ∧ wr.cell? ⟨B1, 0, none⟩ = some (.slice (some ⟨gk, o, none⟩) (4 * n) cap) ∧ wr.cell? ⟨B2, 0, none⟩ = some (.int .i64 4) ∧ W.heap.size ≤ wr.heap.size)
    (fun i _ => 4 * n - (intOf i).toNat)
  case atStart => exact ⟨0, Nat.zero_le _, rfl, h0, h1, h2, Nat.le_refl _⟩
  case round =>
    obtain ⟨k, hk, rfl, hJs, c1, c2, hsz⟩ := hrel
    obtain ⟨i, hi⟩ : ∃ i, i = 4 * k := ⟨_, rfl⟩
    rw [← hi]
    by_cases hlt : k < n
    · have hd : decide ((i : Int) < 4 * (n : Int)) = true := by simp; omega
      have hd2 : (i : Int) < 4 * (n : Int) := by omega
      have hs1 := fun w' => key_from gk o (4 * n) cap i (by omega) hn w'
      have hs2 := fun w' => key_piece gk o (4 * n) cap i (by omega) w'
      obtain ⟨d, hdd⟩ : ∃ d, d = 4 * n - i := ⟨_, rfl⟩
      rw [← hdd] at hs1
      have hmin : min (4 : Int) (d : Int) = 4 := by omega
      have HI := Lib.hid hi
      clear hi hdd
      gi_wp2
      gi_quiet (fail)
      have hJd : J (upF n k) (wr.drewN nq) := hJ _ wr _ none hJs ⟨rfl, rfl, rfl, Nat.le_refl _, fun _ _ _ => rfl⟩ (fun r e => by cases e)
      have d1 : (wr.drewN nq).cell? ⟨B1, 0, none⟩ = some (.slice (some ⟨gk, o, none⟩) (4 * n) cap) := c1
      have d2 : (wr.drewN nq).cell? ⟨B2, 0, none⟩ = some (.int .i64 4) := c2
      have dsz : W.heap.size ≤ (wr.drewN nq).heap.size := hsz
      obtain ⟨W3, hW3⟩ : ∃ W3, W3 = wr.drewN nq := ⟨_, rfl⟩
      rw [← hW3] at hJd d1 d2 dsz ⊢
      clear hW3 hJs c1 c2 hsz
      obtain ⟨fn, tmps, assign, body, hy, hR⟩ := hY _ ⟨k, hlt⟩ W3 hJd (by rw [upF_len _ _ hk]; exact hlt)
      unfold pcV at hy
      rw [← HI.out] at hy
      gi_wp2
      refine ⟨fun h => (by cases h), hR.mono ?_⟩
      rintro e W4 (⟨rfl, hJ4, hk4⟩ | ⟨rfl, hJx4⟩)
      · obtain ⟨k1, k2, hsz4⟩ := hK1 _ _ hk4
        replace hsz4 := Nat.le_trans dsz hsz4
        rw [d1] at k1
        rw [d2] at k2
        gi_wp2
        go_roundw
        case rel => exact ⟨k + 1, by omega, by have := HI.out; go_num, by rw [upF_succ n k hlt]; exact hJ4, k1, k2, hsz4⟩
        case measure => simp [intOf]; omega
      · gi_wp2
        refine bodyPost_ret (results_none rfl _ _ _) rfl ?_
        exact ⟨⟨_, rfl⟩, .inr ⟨_, trivial, hJx4⟩⟩
    · obtain rfl : k = n := by omega
      subst hi
      gi_wp2
      go_end0
      exact ⟨⟨_, rfl⟩, .inl ⟨_, rfl, hJs⟩⟩
end Go.Proofs.Ytjclofkkpgdjnaa
