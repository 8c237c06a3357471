/- The contract of sha.Pad. -/
import Derived.Test.YthpglpnonecnfaaShaG
import Derived.Test.YthpglpnonecnfaaByt
import Derived.Lib.AppendZerosOnto
import Derived.Lib.Walk
set_option linter.unusedVariables false
set_option linter.unusedSimpArgs false
namespace Go.Proofs.Ythpglpnonecnfaa
open Go Go.RowKit Sha
theorem zeros_list (v : Value) (n : Nat) : (Builtin.zeroCells #[v] n).toList = List.replicate n v := by
  apply List.ext_getElem?
  intro i
  rcases Nat.lt_or_ge i n with h | h
  · simp [Builtin.zeroCells, h, Nat.mod_one]
  · simp [Builtin.zeroCells, h]
theorem run_zeros (w : World) (base b c k : Nat) (hk : k ≤ 64) (hb : base ≤ b) (hbl : b < w.heap.size) (h : w.heap[b]? = some (.cells #[.int .u8 (c : Int)] 5 (0, 0))) :
    ∃ v' w', (∀ ty, (Builtin.append_ #[27, 3] ty #[.slice (some ⟨b, 0, none⟩) 1 1, .int .i64 (k : Int)]).run Try.prog w = .ok v' w') ∧ w'.ownsRow base 5 1 v' (1 + k) ((bA (c :: List.replicate k 0)).toList) ∧ w.grownBy w' none := by
  obtain ⟨i0, hi0, hzz⟩ := Option.map_eq_some_iff.1 u8info
  simp only [Prod.mk.injEq] at hzz
  obtain ⟨hz0, hs0, hb0⟩ := hzz
  rcases Nat.eq_zero_or_pos k with rfl | h0
  · refine ⟨.slice (some ⟨b, 0, none⟩) 1 1, w, fun ty => ?_, ⟨by simp [bA], .inr ⟨b, 1, _, rfl, hb, h, Nat.le_refl _, by unfold maxLen; omega, by simp, by simp [bA]⟩⟩, World.grownBy.refl w _⟩
    have hw : IntKind.i64.wrap (0 : Int) = 0 := by rfl
    simp [Builtin.append_, run_underlying Try.underlying27, run_underlying Try.underlying3, sizeOf, typeInfo, zeroValue, hi0, hz0, asInt, asIntOf, hw, Builtin.zeroCells, storeCells]
  · have hold : (Builtin.firstCells i0.size 1 (.slice (some ⟨b, 0, none⟩) 1 1)).run Try.prog w.drew = .ok #[.int .u8 (c : Int)] w.drew := by
      refine run_firstCells_some (P := Try.prog) (w := w.drew) i0.size 1 ⟨b, 0, none⟩ 1 1 [.int .u8 (c : Int)] (by rw [hs0]; rfl) (fun j v hv => ?_)
      have hj : j = 0 := by have := (List.getElem?_eq_some_iff.1 hv).1; simpa using this
      subst hj
      exact (cells_at (w := w.drew) h 0).trans hv
    have hrz := fun ty => Lib.run_append_grow_zeros w 27 3 ty 5 i0 (.int .u8 0) .i64 .i64 Try.underlying27 Try.underlying3 hi0 hz0 (some ⟨b, 0, none⟩) 1 1 [.int .u8 (c : Int)] hold k h0 (by omega) (by omega) (by omega) (by rw [hb0]; omega)
      (growslice_fits (by omega) (by rw [hb0]; omega))
    have hGn : 1 + k ≤ grownCap w (1 + k) 1 5 := grownCap_ge w _ _ _
    have hGm := grownCap_le_maxLen w (1 + k) 1 5 (by unfold maxLen; omega)
    generalize grownCap w (1 + k) 1 5 = G at *
    refine ⟨_, _, hrz, ⟨by simp [bA]; omega, .inr ⟨w.heap.size, G, _, rfl, by omega, heap_new' _ _, hGn, hGm, ?_, ?_⟩⟩, ?_⟩
    · show (#[Value.int .u8 (c : Int)] ++ Builtin.zeroCells #[Value.int .u8 0] k ++ Builtin.zeroCells #[Value.int .u8 0] (G - (1 + k))).size = _
      simp [size_zeroCells]; omega
    · show (#[Value.int .u8 (c : Int)] ++ Builtin.zeroCells #[Value.int .u8 0] k ++ Builtin.zeroCells #[Value.int .u8 0] (G - (1 + k))).toList.take _ = _
      rw [Array.toList_append, Array.toList_append, zeros_list, zeros_list, List.append_assoc]
      simp only [List.cons_append, List.nil_append, Nat.mul_one]
      rw [Nat.add_comm 1 k, List.take_succ_cons, List.take_append_of_le_length (by simp), List.take_of_length_le (by simp)]
      simp [bA]
    · exact ⟨rfl, rfl, rfl, by simp, fun k hk _ => Below.heap_alloc _ _ _ hk⟩
theorem highB_lt (n v : Nat) : ∀ x ∈ highB n v, x < 256 := by
  intro x hx
  simp only [highB, List.mem_map] at hx
  obtain ⟨k, _, rfl⟩ := hx
  exact Nat.mod_lt _ (by decide)
theorem own_up {w w' : World} {base : Nat} {e : TypeId} {size : Nat} {v : Value} {n : Nat} {xs : List Value} (h : w.ownsRow base e size v n xs) (hb : Below w.heap.size w w') : w'.ownsRow base e size v n xs :=
  h.kept (row := none) ⟨hb.os, hb.tape, hb.output, hb.size, fun k hk _ => hb.block k hk⟩ (by
    cases h : v.ownBlock with
    | none => exact .inl rfl
    | some k => exact .inr (by simp))
theorem padL_split (n : Nat) : padL n = (128 :: List.replicate ((119 - n % 64) % 64) 0) ++ highB 8 (8 * n) := by
  unfold padL
  rw [List.cons_append]
  rfl
set_option maxRecDepth 100000 in
set_option maxHeartbeats 2000000 in
theorem pad_c (n : Nat) (hn : n ≤ 1099511627776) (w : World) :
    Calls Try.prog 58 #[.int .i64 (n : Int)] w fun e w' => ∃ v, e = .returned v ∧ w'.ownsRow w.heap.size 5 1 v (padL n).length (bA (padL n)).toList ∧ Below w.heap.size w w' := by
  have d0 : decide ((n : Int) < 0) = false := by simp
  have d1 : decide ((n : Int) > 1099511627776) = false := by simp; omega
  have d1' : decide (1099511627776 < (n : Int)) = false := by simp; omega
  obtain ⟨z, hz⟩ : ∃ z, z = (119 - n % 64) % 64 := ⟨_, rfl⟩
  have hz64 : z ≤ 64 := by omega
  have HZ := Lib.hid hz
  have HN := Lib.hid hn
  have e1 : ((119 : Int) - (n : Int) % 64) % 64 = (z : Int) := by omega
  obtain ⟨m, hm⟩ : ∃ m, m = 8 * n := ⟨_, rfl⟩
  have e2 : IntKind.u64.wrap (8 * IntKind.u64.wrap (n : Int)) = (m : Int) := by simp only [IntKind.wrap_u64]; omega
  have HM := Lib.hid hm
  have H0 : Hid ((w.alloc (.cells #[.int .u8 128] 5)).heap[w.heap.size]? = some (.cells #[.int .u8 ((128 : Nat) : Int)] 5 (0, 0))) := heap_new' _ _
  have HZ64 := Lib.hid hz64
  clear hz hn hm hz64
  obtain ⟨v1, w1, hrun, hown, hgr⟩ := run_zeros (w.alloc (.cells #[.int .u8 128] 5)) w.heap.size w.heap.size 128 z HZ64.out (Nat.le_refl _) (by simp) H0.out
  have HRUN := Lib.hid hrun
  have HOWN := Lib.hid hown
  have HBE : Hid (Below w.heap.size w w1) := ((Below.refl _ _).alloc (Nat.le_refl _) _).grown hgr (by simp) (fun k e => by cases e)
  clear hrun hown hgr
  go_enter Try.func58, Try.ntmps58
  go_wp2_with (first
    | (at_builtin; simp only [e1]; refine Lib.wpList_append_run _ rfl _ _ _ _ rfl _ _ rfl rfl _ _ (HRUN.out _) ?_)
    | fail)
  refine (high_c 8 m (by have := HM.out; have := HN.out; omega) (by omega) (by omega) 8 (m : Int) rfl rfl _).mono ?_
  rintro e w2 ⟨b, rfl, hb1, hb2, hbl, hbel⟩
  have HBL := Lib.hid hbl
  have HB2 : Hid (Below w.heap.size w w2) := HBE.out.trans (hbel.mono HBE.out.size)
  have HOWN2 : Hid (w2.ownsRow w.heap.size 5 1 v1 (1 + z) ((bA (128 :: List.replicate z 0)).toList)) := own_up HOWN.out hbel
  clear hb1 hb2 hbl hbel
  go_wp2_with (first
    | (refine wpList_append_bytes (v := v1) (base := w.heap.size) (n := 1 + z) (m := 8) (l := highB 8 m) rfl (.tmp 18) (.tmp 22) rfl rfl HOWN2.out rfl (highB_len _ _) (bytesAt_block (highB_lt _ _) HBL.out) (fun h => by cases h) (by have := HZ64.out; omega) HB2.out.size ?_; intro v3 w3 hown3 hgr3; have HOWN3 := Lib.hid hown3; have HB3 : Hid (Below w.heap.size w w3) := HB2.out.grown hgr3 HB2.out.size (fun k hk => (HOWN2.out.lt k hk).1); clear hown3 hgr3)
    | fail)
  go_ret
  refine ⟨_, rfl, ?_, HB3.out⟩
  have h := HOWN3.out
  have e : padL n = (128 :: List.replicate z 0) ++ highB 8 m := by rw [padL_split, ← HZ.out, ← HM.out]
  rw [e]
  have e2 : ((128 :: List.replicate z 0) ++ highB 8 m).length = 1 + z + 8 := by simp [highB_len]; omega
  rw [e2]
  simpa [bA] using h
end Go.Proofs.Ythpglpnonecnfaa
