/- The walk of GaugeMost. -/
import Derived.Test.YtnmjkdmhfogeiaaGauC
set_option linter.unusedVariables false
namespace Go.Proofs.Ytnmjkdmhfogeiaa
open Go Go.RowKit
def zS : Nat → Int := fun _ => 0
theorem ex26a : fitB 5 5 zS 1280 = true := by decide +kernel
theorem ex26b : fitB 5 5 zS 1281 = false := by decide +kernel
theorem ex26c : mostGo 5 5 zS 4096 = 1280 := by decide +kernel
theorem rA_55 : #[.int .i64 5, .int .i64 5, .int .i64 0, .int .i64 0, .int .i64 0, .int .i64 0, .int .i64 0, .int .i64 0, .int .i64 0, .int .i64 0] = rA 5 5 zS := rfl
set_option maxRecDepth 100000 in
set_option maxHeartbeats 1000000 in
theorem awake26_c (w : World) : Calls Try.prog 27 #[] w fun e w' => e = .returned (.bool true) ∧ Below w.heap.size w w' := by
  have c1 : ∀ w, Calls Try.prog 23 #[.agg (rA 5 5 zS), .int .i64 1280] w fun e w' => e = .returned (.bool true) ∧ Below w.heap.size w w' := fun w => by
    have := fits_c 5 5 zS 1280 w; rw [ex26a] at this; exact this
  have c2 : ∀ w, Calls Try.prog 23 #[.agg (rA 5 5 zS), .int .i64 1281] w fun e w' => e = .returned (.bool false) ∧ Below w.heap.size w w' := fun w => by
    have := fits_c 5 5 zS 1281 w; rw [ex26b] at this; exact this
  have c3 : ∀ w, Calls Try.prog 26 #[.agg (rA 5 5 zS)] w fun e w' => e = .returned (.int .i64 1280) ∧ Below w.heap.size w w' := fun w => by
    have := most_c 5 5 zS w; rw [ex26c] at this; exact this
  have C1 := Lib.hid c1
  have C2 := Lib.hid c2
  have C3 := Lib.hid c3
  clear c1 c2 c3
  go_enter Try.func27, Try.ntmps27
  go_wp2_with fail
  refine (C1.out _).mono ?_
  rintro e w1 ⟨rfl, hb1⟩
  have h1 := Lib.hid ((hb1.block w.heap.size (by simp)).trans (heap_new' _ _))
  have b1 := Lib.hid (((Below.refl w.heap.size w).alloc (Nat.le_refl _) _).trans (hb1.mono (by simp)))
  have z1 := hb1.size
  rw [World.size_alloc] at z1
  clear hb1
  go_wp2_with (refine load_row_w rfl 24 (.tmp 1) rfl w.heap.size rfl _ _ _ _ h1.out Try.underlying24 rfl (by rw [room10]; rfl) ?_)
  refine (C2.out _).mono ?_
  rintro e w2 ⟨rfl, hb2⟩
  have h2 := Lib.hid ((hb2.block w.heap.size (by omega)).trans h1.out)
  have b2 := Lib.hid (b1.out.trans (hb2.mono (by omega)))
  have z2 := hb2.size
  clear hb2
  go_wp2_with (refine load_row_w rfl 24 (.tmp 1) rfl w.heap.size rfl _ _ _ _ h2.out Try.underlying24 rfl (by rw [room10]; rfl) ?_)
  refine (C3.out _).mono ?_
  rintro e w3 ⟨rfl, hb3⟩
  have b3 := Lib.hid (b2.out.trans (hb3.mono (by omega)))
  clear hb3
  go_wp2
  go_ret
  exact ⟨rfl, b3.out⟩
theorem quiet_load_row {P : Program} {ops : Array Oper} {C : World → Prop} {Q : Act → Prop} {rest : List Oper} {o : Oper} {a : Act} (hgd : Region.wanted o (yielded ops a.tmps) = true) (ty : TypeId) (x : Operand) (ho : o.op = .load ty x)
    (g : Nat) (hx : a.eval x = .pointer (some ⟨g, 0, none⟩)) (t : TypeId) (cs : Array Value) (fr : Nat × Nat) (d : TypeDesc) (hg : ∀ w, C w → w.heap[g]? = some (.cells cs t fr))
    (hu : P.underlying ty = some d) (hd : (match d with | .struct _ | .array _ _ => true | _ => false) = true) (hi : (P.info? ty).map (·.size) = some cs.size)
    (h : wpQuiet P ops C Q rest (a.put o.dst (.agg cs))) : wpQuiet P ops C Q (o :: rest) a :=
  wpQuiet_step fun K hK => by
    rw [if_pos hgd]
    refine ⟨.agg cs, fun w hw => ?_, hK _ h⟩
    unfold Oper.quietAt execOp
    simp only [ho, hx, Instr.loadAt, Instr.sureAddr, Sem.run_bind, Sem.run_pure, Result.andThen_ok, run_loadVar_row w g t ty cs fr d (hg w hw) hu hd hi]
    exact ⟨rfl, rfl⟩
theorem and7 (c : Int) : ∃ m : Nat, m < 8 ∧ bits BinOp.and IntKind.i64 c 7 = (m : Int) := by
  have h : (BitVec.ofInt 64 c &&& BitVec.ofInt 64 7).toNat ≤ 7 := by
    rw [BitVec.toNat_and]
    exact Nat.and_le_right
  refine ⟨(BitVec.ofInt 64 c &&& BitVec.ofInt 64 7).toNat, by omega, ?_⟩
  show IntKind.i64.wrap (((BitVec.ofInt 64 c &&& BitVec.ofInt 64 7).toNat : Nat) : Int) = _
  rw [IntKind.wrap_i64]; omega
theorem rA_m (f l v : Int) (m : Nat) (h : m < 8) : (rA f l zS).setIfInBounds (2 + m) (.int .i64 v) = rA f l (fun j => if j = m then v else 0) := by
  have hc : m = 0 ∨ m = 1 ∨ m = 2 ∨ m = 3 ∨ m = 4 ∨ m = 5 ∨ m = 6 ∨ m = 7 := by omega
  rcases hc with rfl | rfl | rfl | rfl | rfl | rfl | rfl | rfl <;> rfl
set_option maxRecDepth 100000 in
set_option maxHeartbeats 2000000 in
theorem walkGaugeMost (free : Int) (wf : (Lit.int .i64 free).wf = true) (longest : Int) (wl : (Lit.int .i64 longest).wf = true) (c : Int) (wc : (Lit.int .i64 c).wf = true)
    (slots : Int) (ws : (Lit.int .i64 slots).wf = true) (n : Int) (wn : (Lit.int .i64 n).wf = true) (w : World) :
    Calls Try.prog 3 #[.int .i64 free, .int .i64 longest, .int .i64 c, .int .i64 slots, .int .i64 n] w fun e w' => e = .returned (.bool true) ∧ Below w.heap.size w w' := by
  have hn := wf_i64 wn
  clear wf wl wc ws wn
  obtain ⟨m, hm, hand⟩ := and7 c
  have hm8 : (m : Int) < 8 := by omega
  have hc2 : [Value.int IntKind.i64 free, Value.int IntKind.i64 longest, Value.int IntKind.i64 0, Value.int IntKind.i64 0, Value.int IntKind.i64 0, Value.int IntKind.i64 0, Value.int IntKind.i64 0, Value.int IntKind.i64 0, Value.int IntKind.i64 0, Value.int IntKind.i64 0][2 + m]? = some (.int .i64 0) := by
    have hc : m = 0 ∨ m = 1 ∨ m = 2 ∨ m = 3 ∨ m = 4 ∨ m = 5 ∨ m = 6 ∨ m = 7 := by omega
    rcases hc with rfl | rfl | rfl | rfl | rfl | rfl | rfl | rfl <;> rfl
  have hh : ∀ s : Nat → Int, (w.alloc (.cells (rA free longest s) 24)).heap[w.heap.size]? = some (.cells (rA free longest s) 24 (0, 0)) := fun s => heap_new' _ _
  have HH := Lib.hid hh
  clear hh
  go_enter Try.func3, Try.ntmps3
  go_wp2
  have hlit : ([Value.int IntKind.i64 free, Value.int IntKind.i64 longest, Value.int IntKind.i64 0, Value.int IntKind.i64 0, Value.int IntKind.i64 0, Value.int IntKind.i64 0, Value.int IntKind.i64 0, Value.int IntKind.i64 0, Value.int IntKind.i64 0, Value.int IntKind.i64 0].set (2 + m) (Value.int IntKind.i64 slots)).toArray = rA free longest (fun j => if j = m then slots else 0) := by
    have := rA_m free longest slots m hm
    rw [← this]; simp [rA, zS]
  rw [hlit]
  clear hlit
  generalize hs : (fun j => if j = m then slots else 0) = s
  clear hs hand hc2
  obtain ⟨W, hW⟩ : ∃ W, W = w.alloc (.cells (rA free longest s) 24) := ⟨_, rfl⟩
  rw [← hW]
  have hWh : W.heap[w.heap.size]? = some (.cells (rA free longest s) 24 (0, 0)) := by rw [hW]; exact HH.out s
  have hz : w.heap.size < W.heap.size := by rw [hW]; simp
  have hbW : Below w.heap.size w W := by rw [hW]; exact (Below.refl _ _).alloc (Nat.le_refl _) _
  clear hW HH
  obtain ⟨S, f, hne, h1, h2⟩ := bclass W
  have k : ∀ s', (f s').heap[w.heap.size]? = some (.cells (rA free longest s) 24 (0, 0)) := fun s' => ((h1 s').block _ hz).trans hWh
  have HK := Lib.hid k
  have H1 := Lib.hid h1
  have H2 := Lib.hid h2
  have HB := Lib.hid hbW
  have m1 : ∀ x : S, Calls Try.prog 23 #[.agg (rA free longest s), .int .i64 n] (f x) fun e w' => e = .returned (.bool (fitB free longest s n)) ∧ ∃ s', w' = f s' := fun x => bcall h1 h2 (fits_c _ _ _ _ _)
  have m2 : ∀ x : S, Calls Try.prog 25 #[.agg (rA free longest s)] (f x) fun e w' => e = .returned (.agg (rA free longest s)) ∧ ∃ s', w' = f s' := fun x => bcall h1 h2 (plain_c26 _ _ _ _)
  have m3 : ∀ x : S, Calls Try.prog 24 #[.agg (rA free longest s), .int .i64 n] (f x) fun e w' => e = .returned (.bool (fitB free longest s n)) ∧ ∃ s', w' = f s' := fun x => bcall h1 h2 (rfits_c _ _ _ _ _)
  have M1 := Lib.hid m1
  have M2 := Lib.hid m2
  have M3 := Lib.hid m3
  clear k h1 h2 hbW m1 m2 m3
  refine wp_region_quiet (C := fun w' => ∃ s, w' = f s) (by kernel_rfl) (by kernel_rfl) (H2.out _ (Below.refl _ _).drew) ?_
  simp only
  have hfm := mostGo_fit free longest s 4096
  have hmx : n ≤ (mostGo free longest s 4096 : Int) ∨ fitB free longest s n = false := by
    by_cases hf : fitB free longest s n = true
    · have hr := fitB_range _ _ _ _ hf
      obtain ⟨j, rfl⟩ : ∃ j : Nat, n = j := ⟨n.toNat, by omega⟩
      have := mostGo_max free longest s 4096 j (by omega) hf
      exact .inl (by omega)
    · exact .inr (by simpa using hf)
  have hle := mostGo_le free longest s 4096
  have MC : Hid (∀ w, Calls Try.prog 26 #[.agg (rA free longest s)] w fun e w' => e = .returned (.int .i64 (mostGo free longest s 4096 : Int)) ∧ Below w.heap.size w w') := fun w => most_c free longest s w
  have hfm' : mostGo free longest s 4096 = 0 ∨ ∀ w, Calls Try.prog 24 #[.agg (rA free longest s), .int .i64 (mostGo free longest s 4096 : Int)] w fun e w' => e = .returned (.bool true) ∧ Below w.heap.size w w' := by
    rcases hfm with h | h
    · exact .inl h
    · refine .inr fun w => ?_
      have := rfits_c free longest s (mostGo free longest s 4096 : Int) w
      rw [h] at this; exact this
  clear hfm
  generalize mostGo free longest s 4096 = M at *
  have HFM := Lib.hid hfm'
  have HMX := Lib.hid hmx
  clear hfm' hmx
  repeat first | (refine quiet_load_row rfl 24 (.tmp 11) rfl w.heap.size rfl 24 (rA free longest s) (0, 0) _ (by rintro _ ⟨x, rfl⟩; exact HK.out x) Try.underlying24 rfl (by rw [room10]; rfl) ?_; simp only [Act.put, List.setIfInBounds_toArray, List.set_cons_succ, List.set_cons_zero]) | go_big_quiet_step ((with_reducible first | exact M1.out _ | exact M2.out _ | exact M3.out _))
  refine wpQuiet_nil ?_
  rintro _ ⟨s0, rfl⟩
  have g0 := Lib.hid (HK.out s0)
  have b0 := Lib.hid (HB.out.trans ((H1.out s0).mono (by omega)))
  have z0 : w.heap.size < (f s0).heap.size := by have := (H1.out s0).size; omega
  clear HK H1 H2 HB M1 M2 M3 hWh
  generalize f s0 = W0 at *
  go_wp2_with (refine load_row_w rfl 24 (.tmp 11) rfl w.heap.size rfl _ _ _ _ g0.out Try.underlying24 rfl (by rw [room10]; rfl) ?_)
  refine (MC.out _).mono ?_
  rintro e w1 ⟨rfl, hb1⟩
  have g1 := Lib.hid ((hb1.block _ z0).trans g0.out)
  have b1 := Lib.hid (b0.out.trans (hb1.mono (by omega)))
  have z1 : w.heap.size < w1.heap.size := by have := hb1.size; omega
  clear hb1 g0 b0
  by_cases hM : 0 < M
  · have RF := Lib.hid (HFM.out.resolve_left (by omega))
    go_wp2_with (refine load_row_w rfl 24 (.tmp 11) rfl w.heap.size rfl _ _ _ _ g1.out Try.underlying24 rfl (by rw [room10]; rfl) ?_)
    refine (plain_c26 _ _ _ _).mono ?_
    rintro e w2 ⟨rfl, hb2⟩
    have g2 := Lib.hid ((hb2.block _ z1).trans g1.out)
    have b2 := Lib.hid (b1.out.trans (hb2.mono (by omega)))
    have z2 : w.heap.size < w2.heap.size := by have := hb2.size; omega
    clear hb2 g1 b1
    go_wp2_with fail
    refine (RF.out _).mono ?_
    rintro e w3 ⟨rfl, hb3⟩
    have g3 := Lib.hid ((hb3.block _ z2).trans g2.out)
    have b3 := Lib.hid (b2.out.trans (hb3.mono (by omega)))
    have z3 : w.heap.size < w3.heap.size := by have := hb3.size; omega
    clear hb3 g2 b2
    by_cases hnM : n ≤ (M : Int)
    · go_wp2_with fail
      refine (awake26_c _).mono ?_
      rintro e w4 ⟨rfl, hb4⟩
      have b4 := Lib.hid (b3.out.trans (hb4.mono (by omega)))
      clear hb4
      go_wp2
      go_ret
      exact ⟨rfl, b4.out⟩
    · have hnd : decide (n ≤ (M : Int)) = false := by simpa using hnM
      have NF : Hid (∀ w, Calls Try.prog 23 #[.agg (rA free longest s), .int .i64 n] w fun e w' => e = .returned (.bool false) ∧ Below w.heap.size w w') := fun w => by
        have := fits_c free longest s n w
        rw [HMX.out.resolve_left hnM] at this; exact this
      go_wp2_with (refine load_row_w rfl 24 (.tmp 11) rfl w.heap.size rfl _ _ _ _ g3.out Try.underlying24 rfl (by rw [room10]; rfl) ?_)
      refine (NF.out _).mono ?_
      rintro e w4 ⟨rfl, hb4⟩
      have b4 := Lib.hid (b3.out.trans (hb4.mono (by omega)))
      have z4 : w.heap.size < w4.heap.size := by have := hb4.size; omega
      clear hb4
      go_wp2_with fail
      refine (awake26_c _).mono ?_
      rintro e w5 ⟨rfl, hb5⟩
      have b5 := Lib.hid (b4.out.trans (hb5.mono (by omega)))
      clear hb5
      go_wp2
      go_ret
      exact ⟨rfl, b5.out⟩
  · obtain rfl : M = 0 := by omega
    by_cases hnM : n ≤ ((0 : Nat) : Int)
    · go_wp2_with fail
      refine (awake26_c _).mono ?_
      rintro e w4 ⟨rfl, hb4⟩
      have b4 := Lib.hid (b1.out.trans (hb4.mono (by omega)))
      clear hb4
      go_wp2
      go_ret
      exact ⟨rfl, b4.out⟩
    · have hnd : decide (n ≤ (0 : Int)) = false := by simpa using hnM
      have NF : Hid (∀ w, Calls Try.prog 23 #[.agg (rA free longest s), .int .i64 n] w fun e w' => e = .returned (.bool false) ∧ Below w.heap.size w w') := fun w => by
        have := fits_c free longest s n w
        rw [HMX.out.resolve_left hnM] at this; exact this
      go_wp2_with (refine load_row_w rfl 24 (.tmp 11) rfl w.heap.size rfl _ _ _ _ g1.out Try.underlying24 rfl (by rw [room10]; rfl) ?_)
      refine (NF.out _).mono ?_
      rintro e w4 ⟨rfl, hb4⟩
      have b4 := Lib.hid (b1.out.trans (hb4.mono (by omega)))
      have z4 : w.heap.size < w4.heap.size := by have := hb4.size; omega
      clear hb4
      go_wp2_with fail
      refine (awake26_c _).mono ?_
      rintro e w5 ⟨rfl, hb5⟩
      have b5 := Lib.hid (b4.out.trans (hb5.mono (by omega)))
      clear hb5
      go_wp2
      go_ret
      exact ⟨rfl, b5.out⟩
end Go.Proofs.Ytnmjkdmhfogeiaa
