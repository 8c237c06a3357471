/- The contract of sha.schedule. -/
import Derived.Test.YthpglpnonecnfaaShaD
import Derived.StillTailTactics
set_option linter.unusedVariables false
set_option linter.unusedSimpArgs false
namespace Go.Proofs.Ythpglpnonecnfaa
open Go Go.RowKit Sha
theorem schedW_next (b : List Nat) (t : Nat) : schedW b (t + 1) = schedW b t ++ [if t < 16 then wdAt b t else (sm1 ((schedW b t).getD (t - 2) 0) + (schedW b t).getD (t - 7) 0 + sm0 ((schedW b t).getD (t - 15) 0) + (schedW b t).getD (t - 16) 0) % 4294967296] := rfl
theorem getD_b {l : List Nat} (h : ∀ x ∈ l, x < 256) (j : Nat) : l.getD j 0 < 256 := by
  rw [List.getD_eq_getElem?_getD]
  rcases Nat.lt_or_ge j l.length with hj | hj
  · rw [List.getElem?_eq_getElem hj]; exact h _ (List.getElem_mem _)
  · rw [List.getElem?_eq_none hj]; decide
theorem wdAt_lt (b : List Nat) (hb : ∀ x ∈ b, x < 256) (t : Nat) : wdAt b t < 4294967296 := by
  have h0 := getD_b hb (4 * t)
  have h1 := getD_b hb (4 * t + 1)
  have h2 := getD_b hb (4 * t + 2)
  have h3 := getD_b hb (4 * t + 3)
  unfold wdAt be4; omega
theorem schedW_lt (b : List Nat) (hb : ∀ x ∈ b, x < 256) : ∀ t, ∀ x ∈ schedW b t, x < 4294967296
  | 0, x, h => by cases h
  | t + 1, x, h => by
    rw [schedW_next] at h
    rcases List.mem_append.1 h with h | h
    · exact schedW_lt b hb t x h
    · rw [List.mem_singleton] at h
      rw [h]
      split
      · exact wdAt_lt b hb t
      · omega
theorem getD_w {l : List Nat} (h : ∀ x ∈ l, x < 4294967296) (j : Nat) : l.getD j 0 < 4294967296 := by
  rw [List.getD_eq_getElem?_getD]
  rcases Nat.lt_or_ge j l.length with hj | hj
  · rw [List.getElem?_eq_getElem hj]; exact h _ (List.getElem_mem _)
  · rw [List.getElem?_eq_none hj]; decide
/-- the schedule while it is made -/
def schedP (b : List Nat) (t : Nat) : List Nat := schedW b t ++ List.replicate (64 - t) 0
theorem schedP_len (b : List Nat) (t : Nat) (h : t ≤ 64) : (schedP b t).length = 64 := by simp [schedP, schedW_len]; omega
theorem schedP_get (b : List Nat) (t j : Nat) (h : j < t) : (schedP b t).getD j 0 = (schedW b t).getD j 0 := by
  unfold schedP
  rw [List.getD_eq_getElem?_getD, List.getElem?_append_left (by rw [schedW_len]; exact h), ← List.getD_eq_getElem?_getD]
theorem schedP_set (b : List Nat) (t x : Nat) (h : t < 64) (hx : schedW b (t + 1) = schedW b t ++ [x]) : (schedP b t).set t x = schedP b (t + 1) := by
  unfold schedP
  rw [List.set_append_right _ _ (by rw [schedW_len]; exact Nat.le_refl _), schedW_len, Nat.sub_self, show 64 - t = (64 - (t + 1)) + 1 by omega, List.replicate_succ, List.set_cons_zero, hx, List.append_assoc]
  rfl
theorem w64 : (Try.prog.info? 104).map (·.size) = some 64 := by kernel_rfl
theorem wA_one (l : List Nat) : (wA l).all (·.oneCell') = true := by
  rw [← Array.all_toList]; simp [wA, Value.oneCell']
set_option maxRecDepth 100000 in
set_option maxHeartbeats 8000000 in
theorem schedule_c (g o cap : Nat) (hcap : 64 ≤ cap) (b : List Nat) (hl : b.length = 64) (hb : ∀ x ∈ b, x < 256) (w : World) (hg : g < w.heap.size) (hc : ∀ j, j < 64 → w.cell? ⟨g, o + j, none⟩ = some (.int .u8 ((b.getD j 0 : Nat) : Int))) :
    Calls Try.prog 60 #[.slice (some ⟨g, o, none⟩) 64 cap] w fun e w' => e = .returned (.agg (wA (schedW b 64))) ∧ Below w.heap.size w w' := by
  have h0 : ∀ o1 : Obj, ((w.alloc (.cells (wA (schedP b 0)) 104)).alloc o1).heap[w.heap.size]? = some (.cells (wA (schedP b 0)) 104 (0, 0)) := fun o1 => by
    rw [heap_old' _ _ _ (by simp), heap_new']
  have h1 : ∀ o0 : Obj, ((w.alloc o0).alloc (.cells (wA (schedP b 0)) 104)).heap[w.heap.size + 1]? = some (.cells (wA (schedP b 0)) 104 (0, 0)) := fun o0 => by
    rw [show w.heap.size + 1 = (w.alloc o0).heap.size by simp, heap_new']
  have hz : (wA (schedP b 0)) = wA (List.replicate 64 0) := by simp [schedP, schedW]
  have H0 : Hid (∀ o1 : Obj, _) := h0
  have H1 : Hid (∀ o0 : Obj, _) := h1
  rw [hz] at H0 H1
  have HZ := Lib.hid hz
  have HBB : Hid (∀ o0 o1 : Obj, Below w.heap.size w ((w.alloc o0).alloc o1)) := fun o0 o1 => ((Below.refl _ _).alloc (Nat.le_refl _) _).alloc (by simp) _
  have HC := Lib.hid hc
  have HB := Lib.hid hb
  have HG := Lib.hid hg
  have HCAP := Lib.hid hcap
  have HSL := Lib.hid (schedW_lt b hb)
  have HFULL : Hid (∀ t, t = 64 → schedP b t = schedW b t) := fun t h => by unfold schedP; rw [h]; simp
  obtain ⟨n64, hn64⟩ : ∃ n : Nat, n = 64 := ⟨_, rfl⟩
  have HN64 := Lib.hid hn64
  obtain ⟨R, hR⟩ : ∃ R, R = schedW b n64 := ⟨_, rfl⟩
  have HRR := Lib.hid hR
  have HRL : Hid (R.length = 64) := by show _ = _; rw [hR, schedW_len, hn64]
  suffices hgoal : Calls Try.prog 60 #[.slice (some ⟨g, o, none⟩) 64 cap] w fun e w' => e = .returned (.agg (wA R)) ∧ Below w.heap.size w w' by
    rw [hR, hn64] at hgoal; exact hgoal
  clear hR hn64
  clear h0 h1 hz hc hb hl hg hcap
  go_enter Try.func60, Try.ntmps60
  go_wp2
  go_loopw [5] (fun vi wr => ∃ t : Nat, t ≤ 64 ∧ vi = .int .i64 (t : Int) ∧ Hid (wr.heap[w.heap.size + 1]? = some (.cells (wA (schedP b t)) 104 (0, 0))) ∧ Hid (∃ Z, Z.size = 64 ∧ wr.heap[w.heap.size]? = some (.cells Z 104 (0, 0))) ∧ Hid (Below w.heap.size w wr)) (fun vi _ => 64 - (intOf vi).toNat)
  case atStart => exact ⟨0, by omega, rfl, by show _ = _; rw [HZ.out]; exact H1.out _, ⟨wA (List.replicate 64 0), by rw [wA_size, List.length_replicate], H0.out _⟩, HBB.out _ _⟩
  case round =>
    clear H0 H1 HZ HBB
    obtain ⟨t, ht, rfl, hsc, hz, hbel⟩ := hrel
    by_cases hlt : t < 64
    · have hd : decide ((t : Int) < 64) = true := by simp; omega
      have dl : (t : Int) < 64 := by omega
      have HT := Lib.hid hlt
      have f0 := free_at hsc.out t
      have c0 := (cells_at hsc.out t).trans (wA_get _ t (by rw [schedP_len _ _ ht]; exact hlt))
      by_cases h16 : t < 16
      · have d16 : decide ((t : Int) < 16) = true := by simp; omega
        have H16 := Lib.hid h16
        obtain ⟨m, hm⟩ : ∃ m, m = 4 * t := ⟨_, rfl⟩
        have HM := Lib.hid hm
        have e1 : IntKind.i64.wrap (4 * (t : Int)) = (m : Int) := by rw [IntWalk.i64_in _ (by omega)]; omega
        have e2 : IntKind.i64.wrap ((m : Int) + 4) = (m : Int) + 4 := IntWalk.i64_in _ (by omega)
        have s1 : (0 : Int) ≤ (m : Int) := by omega
        have s2 : (m : Int) ≤ (m : Int) + 4 := by omega
        have s3 : (m : Int) + 4 ≤ (cap : Int) := by have := HCAP.out; omega
        clear hm ht h16
        go_wp2_with fail
        have hsb : ∀ j, (fun j => b.getD (m + j) 0) j < 256 := fun j => getD_b HB.out _
        refine (shigh_c g (o + m) (cap - m) (fun j => b.getD (m + j) 0) hsb wr (fun j hj => ?_)).mono ?_
        · rw [Nat.add_assoc]; exact (hbel.out.cell (p := ⟨g, o + (m + j), none⟩) HG.out).trans (HC.out (m + j) (by have := HM.out; have := H16.out; omega))
        rintro r w' ⟨rfl, rfl⟩
        dsimp only
        obtain ⟨x, hx⟩ : ∃ x, x = be4 (b.getD (m + 0) 0) (b.getD (m + 1) 0) (b.getD (m + 2) 0) (b.getD (m + 3) 0) := ⟨_, rfl⟩
        rw [← hx]
        have hxw : x = wdAt b t := by rw [hx, HM.out]; rfl
        have nb := block_at hsc.out t (.int .u32 (x : Int))
        rw [wA_set, schedP_set b t x HT.out (by rw [schedW_next, if_pos H16.out, hxw])] at nb
        have NB := Lib.hid nb
        clear hx hxw nb hsb
        go_wp2
        go_roundw
        case rel =>
          obtain ⟨Z, hZ, hZ2⟩ := hz.out
          exact ⟨t + 1, by have := HT.out; omega, by go_num, NB.out, ⟨Z, hZ, (Below.heap_setCell _ _ _ _ (by simp)).trans hZ2⟩, hbel.out.setCell (by simp) _⟩
        case measure => simp [intOf]; have := HT.out; omega
      · have d16 : decide ((t : Int) < 16) = false := by simp; omega
        have H16 := Lib.hid h16
        obtain ⟨i2, hi2⟩ : ∃ i, i = t - 2 := ⟨_, rfl⟩
        have e2 : IntKind.i64.wrap ((t : Int) - 2) = (i2 : Int) := by rw [IntWalk.i64_in _ (by omega)]; omega
        have b2 : (i2 : Int) < 64 := by omega
        have n2 : ¬ (i2 : Int) < 0 := by omega
        have c2 := (cells_at hsc.out i2).trans (wA_get _ i2 (by rw [schedP_len _ _ ht]; omega))
        rw [schedP_get b t i2 (by omega)] at c2
        have l2 := getD_w (HSL.out t) i2
        have hx2 : (schedW b t).getD (t - 2) 0 = (schedW b t).getD i2 0 := by rw [hi2]
        obtain ⟨x2, hxx2⟩ : ∃ x, x = (schedW b t).getD i2 0 := ⟨_, rfl⟩
        rw [← hxx2] at c2 l2 hx2
        obtain ⟨i7, hi7⟩ : ∃ i, i = t - 7 := ⟨_, rfl⟩
        have e7 : IntKind.i64.wrap ((t : Int) - 7) = (i7 : Int) := by rw [IntWalk.i64_in _ (by omega)]; omega
        have b7 : (i7 : Int) < 64 := by omega
        have n7 : ¬ (i7 : Int) < 0 := by omega
        have c7 := (cells_at hsc.out i7).trans (wA_get _ i7 (by rw [schedP_len _ _ ht]; omega))
        rw [schedP_get b t i7 (by omega)] at c7
        have l7 := getD_w (HSL.out t) i7
        have hx7 : (schedW b t).getD (t - 7) 0 = (schedW b t).getD i7 0 := by rw [hi7]
        obtain ⟨x7, hxx7⟩ : ∃ x, x = (schedW b t).getD i7 0 := ⟨_, rfl⟩
        rw [← hxx7] at c7 l7 hx7
        obtain ⟨i15, hi15⟩ : ∃ i, i = t - 15 := ⟨_, rfl⟩
        have e15 : IntKind.i64.wrap ((t : Int) - 15) = (i15 : Int) := by rw [IntWalk.i64_in _ (by omega)]; omega
        have b15 : (i15 : Int) < 64 := by omega
        have n15 : ¬ (i15 : Int) < 0 := by omega
        have c15 := (cells_at hsc.out i15).trans (wA_get _ i15 (by rw [schedP_len _ _ ht]; omega))
        rw [schedP_get b t i15 (by omega)] at c15
        have l15 := getD_w (HSL.out t) i15
        have hx15 : (schedW b t).getD (t - 15) 0 = (schedW b t).getD i15 0 := by rw [hi15]
        obtain ⟨x15, hxx15⟩ : ∃ x, x = (schedW b t).getD i15 0 := ⟨_, rfl⟩
        rw [← hxx15] at c15 l15 hx15
        obtain ⟨i16, hi16⟩ : ∃ i, i = t - 16 := ⟨_, rfl⟩
        have e16 : IntKind.i64.wrap ((t : Int) - 16) = (i16 : Int) := by rw [IntWalk.i64_in _ (by omega)]; omega
        have b16 : (i16 : Int) < 64 := by omega
        have n16 : ¬ (i16 : Int) < 0 := by omega
        have c16 := (cells_at hsc.out i16).trans (wA_get _ i16 (by rw [schedP_len _ _ ht]; omega))
        rw [schedP_get b t i16 (by omega)] at c16
        have l16 := getD_w (HSL.out t) i16
        have hx16 : (schedW b t).getD (t - 16) 0 = (schedW b t).getD i16 0 := by rw [hi16]
        obtain ⟨x16, hxx16⟩ : ∃ x, x = (schedW b t).getD i16 0 := ⟨_, rfl⟩
        rw [← hxx16] at c16 l16 hx16
        have HM1 : Hid (∀ w, Calls Try.prog 65 #[.int .u32 (x2 : Int)] w fun e w' => e = .returned (.int .u32 ((sm1 x2 : Nat) : Int)) ∧ w' = w) := fun w => (small1_c x2 l2 w).mono fun e w' h => ⟨h.1, h.2.symm⟩
        have HM0 : Hid (∀ w, Calls Try.prog 66 #[.int .u32 (x15 : Int)] w fun e w' => e = .returned (.int .u32 ((sm0 x15 : Nat) : Int)) ∧ w' = w) := fun w => (small0_c x15 l15 w).mono fun e w' h => ⟨h.1, h.2.symm⟩
        have hnx : schedW b (t + 1) = schedW b t ++ [(sm1 x2 + x7 + sm0 x15 + x16) % 4294967296] := by
          rw [schedW_next, if_neg h16, hx2, hx7, hx15, hx16]
        obtain ⟨s1, hs1⟩ : ∃ s, s = sm1 x2 := ⟨_, rfl⟩
        obtain ⟨s0, hs0⟩ : ∃ s, s = sm0 x15 := ⟨_, rfl⟩
        rw [← hs1] at HM1 hnx
        rw [← hs0] at HM0 hnx
        obtain ⟨a1, ha1⟩ : ∃ a, a = (s1 + x7) % 4294967296 := ⟨_, rfl⟩
        have q1 : IntKind.u32.wrap ((s1 : Int) + (x7 : Int)) = (a1 : Int) := by rw [IntKind.wrap_u32]; omega
        obtain ⟨a2, ha2⟩ : ∃ a, a = (a1 + s0) % 4294967296 := ⟨_, rfl⟩
        have q2 : IntKind.u32.wrap ((a1 : Int) + (s0 : Int)) = (a2 : Int) := by rw [IntKind.wrap_u32]; omega
        obtain ⟨a3, ha3⟩ : ∃ a, a = (a2 + x16) % 4294967296 := ⟨_, rfl⟩
        have q3 : IntKind.u32.wrap ((a2 : Int) + (x16 : Int)) = (a3 : Int) := by rw [IntKind.wrap_u32]; omega
        rw [show (s1 + x7 + s0 + x16) % 4294967296 = a3 by omega] at hnx
        have nb := block_at hsc.out t (.int .u32 (a3 : Int))
        rw [wA_set, schedP_set b t a3 HT.out hnx] at nb
        have NB := Lib.hid nb
        clear nb hnx ha1 ha2 ha3 hs1 hs0 h16 ht hi2 hx2 hxx2 hi7 hx7 hxx7 hi15 hx15 hxx15 hi16 hx16 hxx16
        go_wp2
        refine wp_region_still_tail 23 (by kernel_rfl) (by kernel_rfl) ?_
        simp only [List.take_succ_cons, List.take_zero, List.drop_succ_cons, List.drop_zero]
        change wpStill _ _ wr.drew _ _ _
        repeat still_step
        still_call (HM1.out _)
        repeat still_step
        still_call (HM0.out _)
        repeat still_step
        refine wpStill_nil ?_
        change wpList _ _ _ _ _ wr.drew
        go_wp2
        go_roundw
        case rel =>
          obtain ⟨Z, hZ, hZ2⟩ := hz.out
          exact ⟨t + 1, by have := HT.out; omega, by go_num, NB.out, ⟨Z, hZ, (Below.heap_setCell _ _ _ _ (by simp)).trans hZ2⟩, (hbel.out.setCell (by simp) _).drew⟩
        case measure => simp [intOf]; have := HT.out; omega
    · have ht64 : t = 64 := by omega
      have hd : decide ((t : Int) < 64) = false := by simp; omega
      have hfin : wr.heap[w.heap.size + 1]? = some (.cells (wA R) 104 (0, 0)) := by
        have h := hsc.out
        have ht' : t = n64 := by rw [HN64.out]; exact ht64
        rw [HFULL.out t ht64, ht', ← HRR.out] at h
        exact h
      have HFIN := Lib.hid hfin
      obtain ⟨Z, hZ, hZ2⟩ := hz.out
      have HZ := Lib.hid hZ
      have HZ2 := Lib.hid hZ2
      clear hfin hZ hZ2 hz hsc
      go_wp2_with (first
        | (refine wpList_load_row rfl 104 (.tmp 3) rfl (w.heap.size + 1) rfl _ _ _ _ HFIN.out Try.underlying104 rfl (by rw [w64, wA_size, HRL.out]) ?_)
        | (refine wpList_store_row rfl 104 (.tmp 2) (.tmp 44) rfl w.heap.size (wA R) rfl rfl 104 _ HZ2.out (by rw [w64, wA_size, HRL.out]) (by rw [wA_size, HRL.out, HZ.out]) (wA_one _) ?_)
        | fail)
      exact bodyPost_ret (results_cell_row rfl _ _ w.heap.size 104 (wA R) (0, 0) _ rfl (setRow_heap _ _ _ _ _ _ HZ2.out) Try.underlying104 rfl (by rw [w64, wA_size, HRL.out])) rfl ⟨rfl, below_setRow hbel.out (Nat.le_refl _) _⟩
end Go.Proofs.Ythpglpnonecnfaa
