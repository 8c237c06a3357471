/- package handle: Roots.may, Roots.Bytes, Parse. -/
import Derived.Test.YtpbmjfjnmcpieaaChH
import Derived.DeepKeys
set_option linter.unusedVariables false
set_option linter.unusedSimpArgs false
namespace Go.Proofs.Ytpbmjfjnmcpieaa
open Go Go.RowKit
/-- a head in memory: the next serial, sixteen roots -/
def rtA (n : Nat) (L : List Nat) : Array Value := (Value.int .u64 (n : Int) :: L.map fun (k : Nat) => Value.int .u64 (k : Int)).toArray
def hA (L : List Nat) : Array Value := (L.map fun (k : Nat) => Value.int .u64 (k : Int)).toArray
theorem rtA_size (n : Nat) (L : List Nat) : (rtA n L).size = L.length + 1 := by simp [rtA]
theorem rt_roots {w : World} {g n : Nat} {L : List Nat} {t : TypeId} (h : w.heap[g]? = some (.cells (rtA n L) t (0, 0))) : w.rangeAt g 1 (L.map fun (k : Nat) => Value.int .u64 (k : Int)) := by
  intro j u hu
  rw [cells_at h (1 + j), Nat.add_comm 1 j]
  unfold rtA
  rw [List.getElem?_toArray, List.getElem?_cons_succ]
  exact hu
theorem handles16 : (Try.prog.info? 47).map (·.size) = some 16 := by kernel_rfl
theorem roots17 : (Try.prog.info? 49).map (·.size) = some 17 := by kernel_rfl
theorem handle1 : (Try.prog.info? 46).map (·.size) = some 1 := by kernel_rfl
theorem index_H (L : List Nat) (h : L.length = 16) (k : Nat) (hk : k < 16) (w : World) : (Instr.index 47 (.agg (L.map fun (n : Nat) => Value.int .u64 (n : Int)).toArray) (.int .i64 (k : Int))).run Try.prog w = .ok (.int .u64 ((L.getD k 0 : Nat) : Int)) w := by
  have hn : (0 ≤ (k : Int) ∧ (k : Int) < ((16 : Nat) : Int)) := by omega
  obtain ⟨i, hi, hs⟩ := Option.map_eq_some_iff.1 handle1
  have hg : L[k]? = some (L.getD k 0) := by
    rw [List.getD_eq_getElem?_getD, List.getElem?_eq_getElem (by omega)]; rfl
  generalize L.getD k 0 = r at *
  simp [Instr.index, run_underlying Try.underlying47, asIntOf, hk, go_sem, sizeOf, typeInfo, hi, hs, hg]
def hGood (h : Nat) : Bool := h == 0 || hOK h
/-- may a head be -/
def rightR (n : Nat) (L : List Nat) : Bool := L.all hGood && decide (0 < n) && decide (n ≤ 281474976710656)
theorem getD_u64 {L : List Nat} (h : ∀ x ∈ L, x < 18446744073709551616) (j : Nat) : L.getD j 0 < 18446744073709551616 := by
  rw [List.getD_eq_getElem?_getD]
  rcases Nat.lt_or_ge j L.length with hj | hj
  · rw [List.getElem?_eq_getElem hj]; exact h _ (List.getElem_mem _)
  · rw [List.getElem?_eq_none hj]; decide
theorem all_getD {L : List Nat} (f : Nat → Bool) (h : ∀ j, j < L.length → f (L.getD j 0) = true) : L.all f = true := by
  rw [List.all_eq_true]
  intro r hr
  obtain ⟨k, hk, rfl⟩ := List.getElem_of_mem hr
  have := h k hk
  rw [List.getD_eq_getElem?_getD, List.getElem?_eq_getElem hk] at this
  exact this
theorem not_all_getD {L : List Nat} (f : Nat → Bool) (k : Nat) (hk : k < L.length) (h : f (L.getD k 0) = false) : L.all f = false := by
  rw [List.all_eq_false]
  refine ⟨L[k], List.getElem_mem _, ?_⟩
  rw [List.getD_eq_getElem?_getD, List.getElem?_eq_getElem hk] at h
  simpa using h
set_option maxRecDepth 100000 in
set_option maxHeartbeats 4000000 in
theorem rtmay_c (n : Nat) (L : List Nat) (h16 : L.length = 16) (hL : ∀ x ∈ L, x < 18446744073709551616) (w : World) :
    Calls Try.prog 68 #[.agg (rtA n L)] w fun e w' => e = .returned (.bool (rightR n L)) ∧ Below w.heap.size w w' := by
  have hblk := heap_new' w (.cells (rtA n L) 49)
  have HBLK := Lib.hid hblk
  have HRR := Lib.hid (rt_roots hblk)
  have HBE := Lib.hid (below_box w (.cells (rtA n L) 49))
  have H16 := Lib.hid h16
  have HU := Lib.hid hL
  have HIX := Lib.hid (index_H L h16)
  clear hblk h16 hL
  go_enter Try.func68, Try.ntmps68
  go_wp2_with (first
    | (refine wpList_load_mid rfl 47 (.tmp 8) rfl w.heap.size 1 rfl _ _ HRR.out Try.underlying47 rfl (by rw [handles16, List.length_map, H16.out]) ?_)
    | fail)
  generalize w.alloc (.cells (rtA n L) 49) = w0 at *
  go_loopw [10] (fun vi wr => ∃ k : Nat, k ≤ 16 ∧ vi = .int .i64 (k : Int) ∧ Hid (∀ j, j < k → hGood (L.getD j 0) = true) ∧ Hid (wr.heap[w.heap.size]? = some (.cells (rtA n L) 49 (0, 0))) ∧ Hid (Below w.heap.size w wr)) (fun vi _ => 16 - (intOf vi).toNat)
  case atStart => exact ⟨0, by omega, rfl, fun j h => by omega, HBLK.out, HBE.out⟩
  case round =>
    clear HBLK HBE HRR
    obtain ⟨k, hk, rfl, hall, hB, hbel⟩ := hrel
    by_cases hlt : k < 16
    · have hd : decide ((k : Int) < 16) = true := by simp; omega
      have dl : (k : Int) < 16 := by omega
      have hix := HIX.out k hlt
      obtain ⟨r, hr⟩ : ∃ r, r = L.getD k 0 := ⟨_, rfl⟩
      rw [← hr] at hix
      have HR := Lib.hid hr
      have HK := Lib.hid hlt
      have HP := Lib.hid (fun w => hplace_c r (by rw [hr]; exact getD_u64 HU.out k) w)
      clear hr hk hlt
      go_wp2_with fail
      refine (HP.out _).mono ?_
      rintro e w2 ⟨rfl, hb2⟩
      have hB2 := Lib.hid ((hb2.block _ (lt_of_block hB.out)).trans hB.out)
      have hW2 := Lib.hid (hbel.out.trans (hb2.mono hbel.out.size))
      have HZ2 : Hid ((w2.alloc (.cells #[.int .i64 0, .int .i64 0, .int .u64 0] 88)).heap[w2.heap.size]? = some (.cells (plA 0 0 0) 88 (0, 0))) := heap_new' _ _
      have hB3 : Hid ((w2.alloc (.cells #[.int .i64 0, .int .i64 0, .int .u64 0] 88)).heap[w.heap.size]? = some (.cells (rtA n L) 49 (0, 0))) := (heap_old' _ _ _ (lt_of_block hB2.out)).trans hB2.out
      have hW3 : Hid (Below w.heap.size w (w2.alloc (.cells #[.int .i64 0, .int .i64 0, .int .u64 0] 88))) := hW2.out.trans ((below_box w2 _).mono hW2.out.size)
      have HQ : Hid (w.heap.size < w2.heap.size ∧ w.heap.size ≠ w2.heap.size) := by have := lt_of_block hB2.out; exact ⟨this, by omega⟩
      clear hb2 hB hbel hB2 hW2 HP
      by_cases hok : hOK r = true
      · have HG : Hid (hGood r = true) := by show _ = _; unfold hGood; rw [hok]; simp
        have hres : hRes (hOK r) (hPage r) (hSlot r) (hSer r) = .tuple #[.agg (plA (hPage r) (hSlot r) (hSer r)), .bool true] := by rw [hok]; rfl
        rw [hres]
        generalize hPage r = p at *
        generalize hSlot r = s at *
        generalize hSer r = q at *
        clear hok hres
        go_wp2_with (first
          | (refine wpList_store_row rfl 88 (.tmp 6) (.tmp 18) rfl w2.heap.size (plA p s q) rfl rfl 88 _ HZ2.out (by rw [place3]; rfl) rfl (plA_one _ _ _) ?_)
          | fail)
        all_goals
          go_roundw
          case rel =>
            refine ⟨k + 1, by have := HK.out; omega, by go_num, fun j hj => ?_, ?_, below_setRow hW3.out (by have := HQ.out.1; omega) _⟩
            · rcases Nat.lt_or_eq_of_le (Nat.le_of_lt_succ hj) with h | h
              · exact hall.out j h
              · subst h; rw [← HR.out]; exact HG.out
            · show _ = _; rw [setRow_other _ _ _ _ HQ.out.2]; exact hB3.out
          case measure => simp [intOf]; have := HK.out; omega
      · have hok' : hOK r = false := by simpa using hok
        have hres : hRes (hOK r) (hPage r) (hSlot r) (hSer r) = .tuple #[.agg (plA 0 0 0), .bool false] := by rw [hok']; rfl
        rw [hres]
        by_cases h0 : r = 0
        · have HG : Hid (hGood r = true) := by show _ = _; unfold hGood; rw [h0]; rfl
          have e0 : ((r : Int) == 0) = true := by rw [h0]; rfl
          clear hok hok' hres h0
          go_wp2_with (first
            | (refine wpList_store_row rfl 88 (.tmp 6) (.tmp 18) rfl w2.heap.size (plA 0 0 0) rfl rfl 88 _ HZ2.out (by rw [place3]; rfl) rfl (plA_one _ _ _) ?_)
            | fail)
          all_goals
            go_roundw
            case rel =>
              refine ⟨k + 1, by have := HK.out; omega, by go_num, fun j hj => ?_, ?_, below_setRow hW3.out (by have := HQ.out.1; omega) _⟩
              · rcases Nat.lt_or_eq_of_le (Nat.le_of_lt_succ hj) with h | h
                · exact hall.out j h
                · subst h; rw [← HR.out]; exact HG.out
              · show _ = _; rw [setRow_other _ _ _ _ HQ.out.2]; exact hB3.out
            case measure => simp [intOf]; have := HK.out; omega
        · have e0 : ((r : Int) == 0) = false := by rw [beq_eq_false_iff_ne]; omega
          have HG : Hid (rightR n L = false) := by
            show _ = _; unfold rightR
            rw [not_all_getD hGood k (by rw [H16.out]; exact HK.out) (by rw [← HR.out]; unfold hGood; rw [hok']; simp [h0])]; rfl
          clear hok hok' hres
          go_wp2_with (first
            | (refine wpList_store_row rfl 88 (.tmp 6) (.tmp 18) rfl w2.heap.size (plA 0 0 0) rfl rfl 88 _ HZ2.out (by rw [place3]; rfl) rfl (plA_one _ _ _) ?_)
            | fail)
          go_ret
          exact ⟨by rw [HG.out]; rfl, below_setRow hW3.out (by have := HQ.out.1; omega) _⟩
    · have hd : decide ((k : Int) < 16) = false := by simp; omega
      have dl : ¬ (k : Int) < 16 := by omega
      have ha : L.all hGood = true := all_getD hGood fun j hj => hall.out j (by rw [H16.out] at hj; omega)
      have c0 := (cells_at hB.out 0).trans (show _ = some (Value.int .u64 (n : Int)) from rfl)
      have HW := hbel
      have HR1 : Hid (rightR n L = (decide (0 < n) && decide (n ≤ 281474976710656))) := by show _ = _; unfold rightR; rw [ha]; rfl
      clear hbel hB hall ha HIX HU H16
      by_cases h1 : 0 < n
      · have d1 : decide ((n : Int) > 0) = true := by simp; omega
        have i1 : 0 < (n : Int) := by omega
        by_cases h2 : n ≤ 281474976710656
        · have d2 : decide ((n : Int) ≤ 281474976710656) = true := by simp; omega
          have i2 : (n : Int) ≤ 281474976710656 := by omega
          have HR2 : Hid (rightR n L = true) := by show _ = _; rw [HR1.out]; simp; omega
          clear h1 h2
          go_wp2
          go_ret
          exact ⟨by rw [HR2.out]; rfl, HW.out⟩
        · have d2 : decide ((n : Int) ≤ 281474976710656) = false := by simp; omega
          have i2 : ¬ (n : Int) ≤ 281474976710656 := by omega
          have HR2 : Hid (rightR n L = false) := by show _ = _; rw [HR1.out]; simp; omega
          clear h1 h2
          go_wp2
          go_ret
          exact ⟨by rw [HR2.out]; rfl, HW.out⟩
      · have d1 : decide ((n : Int) > 0) = false := by simp; omega
        have i1 : ¬ 0 < (n : Int) := by omega
        have HR2 : Hid (rightR n L = false) := by show _ = _; rw [HR1.out]; simp; omega
        clear h1
        go_wp2
        go_ret
        exact ⟨by rw [HR2.out]; rfl, HW.out⟩
theorem sixteenU {R : List Nat} (h : R.length = 16) : ∃ r0 r1 r2 r3 r4 r5 r6 r7 r8 r9 r10 r11 r12 r13 r14 r15, R = [r0, r1, r2, r3, r4, r5, r6, r7, r8, r9, r10, r11, r12, r13, r14, r15] := by
  match R, h with
  | [r0, r1, r2, r3, r4, r5, r6, r7, r8, r9, r10, r11, r12, r13, r14, r15], _ => exact ⟨r0, r1, r2, r3, r4, r5, r6, r7, r8, r9, r10, r11, r12, r13, r14, r15, rfl⟩
theorem roots_formed (n : Nat) (L : List Nat) (h : L.length = 16) : (Value.agg (rtA n L)).formed Try.prog 49 = true := by
  obtain ⟨r0, r1, r2, r3, r4, r5, r6, r7, r8, r9, r10, r11, r12, r13, r14, r15, rfl⟩ := sixteenU h
  kernel_rfl
theorem u64_wf (n : Nat) (h : n < 18446744073709551616) : (Lit.int .u64 (n : Int)).wf = true := by
  have hmin : IntKind.u64.min = 0 := rfl
  have hmax : IntKind.u64.max = 18446744073709551615 := rfl
  simp only [Lit.wf, Bool.and_eq_true, decide_eq_true_eq]
  omega
theorem cellsU : Try.prog.cellsOf 45 = 1 := by kernel_rfl
theorem cellsH : Try.prog.cellsOf 46 = 1 := by kernel_rfl
theorem cellsHH : Try.prog.cellsOf 47 = 16 := by kernel_rfl
theorem cellsR : Try.prog.cellsOf 49 = 17 := by kernel_rfl
def rtLits (n : Nat) (L : List Nat) : List Lit := Lit.int .u64 (n : Int) :: L.map fun (k : Nat) => Lit.int .u64 (k : Int)
set_option maxRecDepth 100000 in
theorem roots_lits (n : Nat) (L : List Nat) (h : L.length = 16) (hn : n < 18446744073709551616) (hL : ∀ x ∈ L, x < 18446744073709551616) : Try.prog.keyLits 4 49 (Value.agg (rtA n L)).cells.toList = some (rtLits n L) := by
  obtain ⟨r0, r1, r2, r3, r4, r5, r6, r7, r8, r9, r10, r11, r12, r13, r14, r15, rfl⟩ := sixteenU h
  have hn' := u64_wf n hn
  have hL' : ∀ x ∈ [r0, r1, r2, r3, r4, r5, r6, r7, r8, r9, r10, r11, r12, r13, r14, r15], (Lit.int .u64 ((x : Nat) : Int)).wf = true := fun x hx => u64_wf x (hL x hx)
  simp only [List.forall_mem_cons] at hL'
  have hu : ∀ (k : Int), (Lit.int .u64 k).wf = true → Try.prog.keyLits 1 45 [.int .u64 k] = some [.int .u64 k] := fun k hk => by
    simp [Program.keyLits, Try.underlying45, hk]
  have hv : ∀ (k : Int), (Lit.int .u64 k).wf = true → Try.prog.keyLits 2 46 [.int .u64 k] = some [.int .u64 k] := fun k hk => by
    simp [Program.keyLits, Try.underlying46, hk]
  simp [rtA, rtLits, Program.keyLits, Value.cells, Try.underlying49, Try.underlying47, Try.underlying45, Try.underlying46, cellsU, cellsH, cellsHH, cellsR, List.range, List.range.loop, hn', hL', hu, hv]
theorem rtLits_inj {n m : Nat} {L M : List Nat} : rtLits n L = rtLits m M ↔ n = m ∧ L = M := by
  unfold rtLits
  rw [List.cons.injEq, Lit.int.injEq]
  constructor
  · rintro ⟨⟨_, h1⟩, h2⟩
    refine ⟨by omega, ?_⟩
    have hinj : ∀ a b : Nat, Lit.int .u64 (a : Int) = Lit.int .u64 (b : Int) → a = b := fun a b h => by
      rw [Lit.int.injEq] at h; omega
    exact (List.map_inj_right hinj).1 h2
  · rintro ⟨rfl, rfl⟩
    exact ⟨⟨rfl, rfl⟩, rfl⟩
theorem eql_roots (n m : Nat) (L M : List Nat) (h : L.length = 16) (h' : M.length = 16) (hn : n < 18446744073709551616) (hm : m < 18446744073709551616) (hL : ∀ x ∈ L, x < 18446744073709551616) (hM : ∀ x ∈ M, x < 18446744073709551616) (w : World) :
    (binOp .eql 49 (.agg (rtA n L)) (.agg (rtA m M))).run Try.prog w = .ok (.bool (decide (n = m ∧ L = M))) w := by
  obtain ⟨r, hr, hiff⟩ := run_equalIn_deep (P := Try.prog) 9996 4 49 (by kernel_rfl) w 4 4 _ _ _ _ (roots_formed n L h) (roots_formed m M h') (roots_lits n L h hn hL) (roots_lits m M h' hm hM)
  rw [rtLits_inj] at hiff
  rw [run_eql_struct, hr]
  have : r = decide (n = m ∧ L = M) := by rw [Bool.eq_iff_iff, hiff]; simp
  rw [this]; rfl
/-- an operation '==' of two structs, its answer known -/
theorem wpList_eql_agg {w : World} {ops : Array Oper} {rest : List Oper} {op : Oper} {A : Act} {Q : Exit → Act → World → Prop} (hw : Region.wanted op (yielded ops A.tmps) = true) (T ty : TypeId) (x y : Operand) (ho : op.op = .binOp .eql T x y ty) (xs ys : Array Value) (hx : A.eval x = .agg xs) (hy : A.eval y = .agg ys)
    (hm : Try.prog.eqGuardType Try.prog.depth T = false) (b : Bool) (hr : (binOp .eql T (.agg xs) (.agg ys)).run Try.prog w = .ok (.bool b) w) (hK : wpList Try.prog ops Q rest (A.put op.dst (.bool b)) w) : wpList Try.prog ops Q (op :: rest) A w :=
  wpList_met hw fun _ hk => by
    unfold Oper.wp
    have : (execOp A.eval op).run Try.prog w = .ok (.value (.bool b)) w := by
      unfold execOp
      simp only [ho, hx, hy, Sem.run_bind, run_eqGuard_agg _ _ _ _ _ _ _ hm, Result.andThen_ok, hr]
      rfl
    rw [this]
    exact hk _ _ hK
end Go.Proofs.Ytpbmjfjnmcpieaa
