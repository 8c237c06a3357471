/- The walk of the law AesWords. Printed by gen_wordw.py. -/
import Derived.Test.YtnmjkdmhfogeiaaRKey
import Derived.Test.YtnmjkdmhfogeiaaAesV
import Derived.Test.YtnmjkdmhfogeiaaAesZ
import Derived.Test.YtnmjkdmhfogeiaaCtrC
set_option linter.unusedVariables false
set_option linter.unusedSimpArgs false
namespace Go.Proofs.Ytnmjkdmhfogeiaa
open Go Go.RowKit GfM
theorem alloc2 (w : World) (o0 o1 : Obj) : ((w.alloc o0).alloc o1).heap[w.heap.size]? = some o0 ∧ ((w.alloc o0).alloc o1).heap[w.heap.size + 1]? = some o1 ∧ Below w.heap.size w ((w.alloc o0).alloc o1) := by
  refine ⟨?_, ?_, ?_⟩
  · rw [heap_old' _ _ _ (by simp), heap_new']
  · rw [show w.heap.size + 1 = (w.alloc o0).heap.size by simp, heap_new']
  · exact ((Below.refl _ _).alloc (Nat.le_refl _) _).alloc (by simp) _
theorem rcip_range {w : World} {c g n cap r : Nat} {W : List Nat} (h : RCip w c g n cap r W) (k : Nat) (hk : k < n) : w.rangeAt g (k * 4) (v4 (colOf W k)).toList := by
  intro j v hv
  have hj : j < 4 := by
    have := (List.getElem?_eq_some_iff.1 hv).1; simpa [v4] using this
  rw [Array.getElem?_toList, v4_get _ j hj] at hv
  rw [h.wd (k * 4 + j) (by have := h.flen; omega), show k * 4 + j = 4 * k + j by omega]
  exact hv
theorem hR0 {w : World} {c g n cap r : Nat} {W : List Nat} (h : RCip w c g n cap r W) (o : Obj) : RCip (w.alloc o) c g n cap r W := h.up ((Below.refl _ _).alloc (Nat.le_refl _) o) (Nat.le_refl _)
set_option maxRecDepth 100000 in
set_option maxHeartbeats 4000000 in
theorem walkAesWords (a : List Nat) (ha : a.length = 16) (hab : ∀ x ∈ a, x < 256) (b : List Nat) (hb : b.length = 16) (hbb : ∀ x ∈ b, x < 256) (long : Bool)
    (n : Int) (wn : (Lit.int .i64 n).wf = true) (w : World) :
    Calls Try.prog 14 #[.agg (bA a), .agg (bA b), .bool long, .int .i64 n] w fun e w' => e = .returned (.bool true) ∧ Below w.heap.size w w' := by
  obtain ⟨h0, h1, hbl⟩ := alloc2 w (.cells (bA a) 44) (.cells (bA b) 44)
  have HA := Lib.hid (And.intro ha hab)
  have HB := Lib.hid (And.intro hb hbb)
  have H0 := Lib.hid h0
  have H1 := Lib.hid h1
  have HBL := Lib.hid hbl
  clear ha hab hb hbb h0 h1 hbl
  go_enter Try.func14, Try.ntmps14
  generalize hW0 : World.alloc _ _ = W0 at H0 H1 HBL
  go_wp2_with (first
    | (refine wpList_load_row rfl 44 (.tmp 4) rfl w.heap.size rfl _ _ _ _ H0.out Try.underlying44 rfl (by rw [zero16', bA_size, HA.out.1]) ?_)
    | (refine wpList_load_row rfl 44 (.tmp 5) rfl (w.heap.size + 1) rfl _ _ _ _ H1.out Try.underlying44 rfl (by rw [zero16', bA_size, HB.out.1]) ?_)
    | fail)
  refine (key05_c a b HA.out.1 HB.out.1 long W0).mono ?_
  rintro e w1 ⟨gk, capk, rfl, hcap, hgk, hgk2, hkk, hb1⟩
  obtain ⟨key, hkey⟩ : ∃ key, key = keyOf a b long := ⟨_, rfl⟩
  have hkl : key.length = 16 ∨ key.length = 32 := by rw [hkey]; exact keyOf_len HA.out.1 HB.out.1 long
  have hkb : ∀ x ∈ key, x < 256 := by rw [hkey]; exact keyOf_lt HA.out.2 HB.out.2 long
  rw [← hkey] at hcap hkk ⊢
  have HKL := Lib.hid hkl
  have HKB := Lib.hid hkb
  have HCAP := Lib.hid hcap
  have HKK := Lib.hid hkk
  have HGK := Lib.hid hgk2
  have HB1 : Hid (Below w.heap.size w w1) := HBL.out.trans (hb1.mono HBL.out.size)
  obtain ⟨kl, hkl2⟩ : ∃ kl, kl = key.length := ⟨_, rfl⟩
  have HKLE := Lib.hid hkl2
  rw [← hkl2]
  clear hkey hkl hkb hcap hkk hgk hgk2 hb1 hkl2
  go_wp2_with fail
  refine (newbox_c w1).mono ?_
  rintro e w2 ⟨rfl, hbx, hlt2, hb2⟩
  have HBX := Lib.hid hbx
  have HB2 : Hid (Below w1.heap.size w1 w2) := hb2
  have HKC2 : Hid (∀ j, j < key.length → w2.cell? ⟨gk, 0 + j, none⟩ = some (.int .u8 ((key.getD j 0 : Nat) : Int))) := fun j hj => by rw [Nat.zero_add]; exact (hb2.cell (p := ⟨gk, j, none⟩) HGK.out).trans (HKK.out j hj)
  clear hbx hb2 hlt2
  go_wp2_with fail
  rw [HKLE.out]
  refine (new_c w1.heap.size gk 0 capk key HKL.out HKB.out HCAP.out w2 HBX.out (Nat.lt_of_lt_of_le HGK.out HB2.out.size) HKC2.out).mono ?_
  rintro e w3 ⟨c, g, nw, cp, rfl, hC, hcc, hgg, hb3⟩
  have HC := Lib.hid hC
  have HB3 : Hid (Below w1.heap.size w1 w3) := HB2.out.trans (hb3.mono HB2.out.size)
  clear hC hcc hgg hb3
  have HKC3 : Hid (∀ j, j < key.length → w3.cell? ⟨gk, j, none⟩ = some (.int .u8 ((key.getD j 0 : Nat) : Int))) := fun j hj => (HB3.out.cell (p := ⟨gk, j, none⟩) HGK.out).trans (HKK.out j hj)
  have HFIN : Hid (Below w.heap.size w w3) := HB1.out.trans (HB3.out.mono HB1.out.size)
  have HG3 : Hid (gk < w3.heap.size) := Nat.lt_of_lt_of_le HGK.out HB3.out.size
  clear hW0 H0 H1 HBL HA HB HKK HGK HB1 HB2 HB3 HBX HKC2
  go_wp2_with fail
  try rw [HKLE.out]
  refine (rnew_key key HKL.out HKB.out gk capk HCAP.out w3 HG3.out HKC3.out).mono ?_
  rintro e w4 ⟨rc, rg, rcp, rfl, hR, hb4⟩
  have HR := Lib.hid hR
  have HC4 : Hid (Cip w4 c w1.heap.size g nw cp (roundsK key) (wordsK key)) := HC.out.up hb4 (Nat.le_refl _)
  have HB4 : Hid (Below w.heap.size w w4) := HFIN.out.trans (hb4.mono HFIN.out.size)
  have hnw : nw = 4 * (key.length / 4 + 7) := by have h1 := HC4.out.flen; have h2 := hR.flen; omega
  obtain ⟨m, hm⟩ : ∃ m, m = 4 * (key.length / 4 + 7) := ⟨_, rfl⟩
  rw [← hm] at hnw HR
  subst hnw
  have HCW : Hid (∀ o, (w4.alloc o).cell? ⟨rc, 512, none⟩ = some (.slice (some ⟨rg, 0, none⟩) nw rcp)) := fun o => (hR0 HR.out o).ws
  have HRG : Hid (∀ o (k : Nat), k < nw → (w4.alloc o).rangeAt rg (k * 4) (v4 (colOf (wordsK key) k)).toList) := fun o k hk => rcip_range (hR0 HR.out o) k hk
  clear hR hb4 HKC3 HC HFIN hm
  have cws := HCW.out
  by_cases hin : 0 ≤ n ∧ n < (nw : Int)
  · obtain ⟨k, rfl⟩ : ∃ k : Nat, n = (k : Int) := ⟨n.toNat, by omega⟩
    have hk : k < nw := by omega
    have HKN := Lib.hid hk
    have g1 : (0 : Int) ≤ (k : Int) := by omega
    have g2 : (k : Int) < (nw : Int) := by omega
    have d1 : decide ((k : Int) ≥ 0) = true := by simp
    have d2 : decide ((k : Int) < (nw : Int)) = true := by simp; omega
    clear hin wn hk
    obtain ⟨T, hT⟩ : ∃ T, T = colOf (wordsK key) k := ⟨_, rfl⟩
    have HT := Lib.hid hT
    have hr1 := fun o => HRG.out o k HKN.out
    rw [← hT] at hr1
    have HR1 := Lib.hid hr1
    clear hr1 hT
    go_wp2_with (first
      | (refine wpList_load_mid rfl 49 (.tmp 42) rfl rg (k * 4) rfl (v4 T).toList _ (HR1.out _) Try.underlying49 rfl (by rw [four4]; simp [v4]) ?_)
      | (refine wpList_store_row rfl 49 (.tmp 13) (.tmp 43) rfl w4.heap.size (v4 T) rfl rfl 49 _ (heap_new' _ _) (by rw [four4]; simp [v4]) (by simp [v4]) (v4_one _) ?_; generalize hW5 : World.setRow _ _ _ = W5; have HP5 : Hid (W5.heap[w4.heap.size]? = some (.cells (v4 T) 49 (0, 0))) := (by rw [← hW5]; exact setRow_heap _ _ _ _ _ _ (heap_new' _ _)); have HB45 : Hid (Below w4.heap.size w4 W5) := (by rw [← hW5]; exact below_setRow ((Below.refl _ _).alloc (Nat.le_refl _) _) (Nat.le_refl _) _); clear hW5)
      | fail)
    have HWD : Hid (∀ w', Cip w' c w1.heap.size g nw cp (roundsK key) (wordsK key) → Calls Try.prog 50 #[.pointer (some ⟨c, 0, none⟩), .int .i64 (k : Int)] w' fun e w'' => e = .returned (.agg (v4 T)) ∧ Below w'.heap.size w' w'') := fun w' h => by rw [HT.out]; exact word_in k HKN.out w' h
    have HCW5 : Hid (Cip W5 c w1.heap.size g nw cp (roundsK key) (wordsK key)) := HC4.out.up HB45.out (Nat.le_refl _)
    have HR5 : Hid (RCip W5 rc rg nw rcp (roundsK key) (wordsK key)) := HR.out.up HB45.out (Nat.le_refl _)
    have HBF : Hid (Below w.heap.size w W5) := HB4.out.trans (HB45.out.mono HB4.out.size)
    obtain ⟨S, f, hne, h1, h2⟩ := bclass W5
    have HKP : Hid (∀ s', (f s').heap[w4.heap.size]? = some (.cells (v4 T) 49 (0, 0))) := fun s' => ((h1 s').block _ (lt_of_block HP5.out)).trans HP5.out
    have cr : ∀ s', (f s').cell? ⟨rc, 513, none⟩ = some (.int .i64 ((roundsK key : Nat) : Int)) := fun s' => (HR5.out.up (h1 s') (Nat.le_refl _)).rs
    have M1 : Hid (∀ x : S, Calls Try.prog 50 #[.pointer (some ⟨c, 0, none⟩), .int .i64 (k : Int)] (f x) fun e w' => e = .returned (.agg (v4 T)) ∧ ∃ s', w' = f s') := fun x => bcall h1 h2 (HWD.out _ (HCW5.out.up (h1 x) (Nat.le_refl _)))
    have M2 : Hid (∀ x : S, Calls Try.prog 51 #[.pointer (some ⟨c, 0, none⟩)] (f x) fun e w' => e = .returned (.int .i64 ((roundsK key : Nat) : Int)) ∧ ∃ s', w' = f s') := fun x => bcall_same (rounds_c _ (HCW5.out.up (h1 x) (Nat.le_refl _)))
    have M3 : Hid (∀ x : S, Calls Try.prog 49 #[] (f x) fun e w' => e = .returned (.bool true) ∧ ∃ s', w' = f s') := fun x => bcall h1 h2 (awake05_c _)
    have e4 := eq4 T
    have HF1 := Lib.hid h1
    have HF2 := Lib.hid h2
    clear h1 h2 HCW HRG cws
    generalize roundsK key = rk at *
    try go_wp2
    refine wp_region_quiet (C := fun w' => ∃ s, w' = f s) (by kernel_rfl) (by kernel_rfl) (HF2.out _ (Below.refl _ _).drew) ?_
    try simp only [Act.put, List.setIfInBounds_toArray, List.set_cons_succ, List.set_cons_zero]
    try simp only
    repeat first
      | (refine quiet_row rfl 49 (.tmp 13) rfl w4.heap.size rfl 49 (v4 T) (0, 0) _ (by rintro _ ⟨x, rfl⟩; exact HKP.out x) Try.underlying49 rfl (by rw [four4]; simp [v4]) ?_; simp only [Act.put, List.setIfInBounds_toArray, List.set_cons_succ, List.set_cons_zero])
      | go_big_quiet_step ((with_reducible first | exact M1.out _ | exact M2.out _ | exact M3.out _))
    refine wpQuiet_nil ?_
    rintro _ ⟨s0, rfl⟩
    go_wp2
    go_ret
    exact ⟨rfl, HBF.out.trans ((HF1.out s0).mono HBF.out.size)⟩
  · have HWD : Hid (∀ w', Cip w' c w1.heap.size g nw cp (roundsK key) (wordsK key) → Calls Try.prog 50 #[.pointer (some ⟨c, 0, none⟩), .int .i64 n] w' fun e w'' => e = .returned (.agg (v4 fun _ => 0)) ∧ Below w'.heap.size w' w'') := fun w' h => word_out n (by omega) w' h
    have hZ4 := heap_new' w4 (.cells (v4 fun _ => 0) 49)
    have HZ4 : Hid ((w4.alloc (.cells #[.int .u8 0, .int .u8 0, .int .u8 0, .int .u8 0] 49)).heap[w4.heap.size]? = some (.cells (v4 fun _ => 0) 49 (0, 0))) := hZ4
    clear hZ4
    obtain ⟨T, hT⟩ : ∃ T : Nat → Nat, T = fun _ => 0 := ⟨_, rfl⟩
    rw [← hT] at HWD HZ4
    clear hT
    by_cases hneg : n < 0
    · have g1 : ¬ (0 : Int) ≤ n := by omega
      have d1 : decide (n ≥ 0) = false := by simp; omega
      clear hin wn
      go_wp2
      generalize hW5 : World.alloc w4 _ = W5 at HZ4 ⊢
      have HB45 : Hid (Below w4.heap.size w4 W5) := by rw [← hW5]; exact (Below.refl _ _).alloc (Nat.le_refl _) _
      have HP5 := HZ4
      clear hW5 HZ4
      have HCW5 : Hid (Cip W5 c w1.heap.size g nw cp (roundsK key) (wordsK key)) := HC4.out.up HB45.out (Nat.le_refl _)
      have HR5 : Hid (RCip W5 rc rg nw rcp (roundsK key) (wordsK key)) := HR.out.up HB45.out (Nat.le_refl _)
      have HBF : Hid (Below w.heap.size w W5) := HB4.out.trans (HB45.out.mono HB4.out.size)
      obtain ⟨S, f, hne, h1, h2⟩ := bclass W5
      have HKP : Hid (∀ s', (f s').heap[w4.heap.size]? = some (.cells (v4 T) 49 (0, 0))) := fun s' => ((h1 s').block _ (lt_of_block HP5.out)).trans HP5.out
      have cr : ∀ s', (f s').cell? ⟨rc, 513, none⟩ = some (.int .i64 ((roundsK key : Nat) : Int)) := fun s' => (HR5.out.up (h1 s') (Nat.le_refl _)).rs
      have M1 : Hid (∀ x : S, Calls Try.prog 50 #[.pointer (some ⟨c, 0, none⟩), .int .i64 n] (f x) fun e w' => e = .returned (.agg (v4 T)) ∧ ∃ s', w' = f s') := fun x => bcall h1 h2 (HWD.out _ (HCW5.out.up (h1 x) (Nat.le_refl _)))
      have M2 : Hid (∀ x : S, Calls Try.prog 51 #[.pointer (some ⟨c, 0, none⟩)] (f x) fun e w' => e = .returned (.int .i64 ((roundsK key : Nat) : Int)) ∧ ∃ s', w' = f s') := fun x => bcall_same (rounds_c _ (HCW5.out.up (h1 x) (Nat.le_refl _)))
      have M3 : Hid (∀ x : S, Calls Try.prog 49 #[] (f x) fun e w' => e = .returned (.bool true) ∧ ∃ s', w' = f s') := fun x => bcall h1 h2 (awake05_c _)
      have e4 := eq4 T
      have HF1 := Lib.hid h1
      have HF2 := Lib.hid h2
      clear h1 h2 HCW HRG cws
      generalize roundsK key = rk at *
      try go_wp2
      refine wp_region_quiet (C := fun w' => ∃ s, w' = f s) (by kernel_rfl) (by kernel_rfl) (HF2.out _ (Below.refl _ _).drew) ?_
      try simp only [Act.put, List.setIfInBounds_toArray, List.set_cons_succ, List.set_cons_zero]
      try simp only
      repeat first
        | (refine quiet_row rfl 49 (.tmp 13) rfl w4.heap.size rfl 49 (v4 T) (0, 0) _ (by rintro _ ⟨x, rfl⟩; exact HKP.out x) Try.underlying49 rfl (by rw [four4]; simp [v4]) ?_; simp only [Act.put, List.setIfInBounds_toArray, List.set_cons_succ, List.set_cons_zero])
        | go_big_quiet_step ((with_reducible first | exact M1.out _ | exact M2.out _ | exact M3.out _))
      refine wpQuiet_nil ?_
      rintro _ ⟨s0, rfl⟩
      go_wp2
      go_ret
      exact ⟨rfl, HBF.out.trans ((HF1.out s0).mono HBF.out.size)⟩
    · have g1 : (0 : Int) ≤ n := by omega
      have d1 : decide (n ≥ 0) = true := by simp; omega
      have g2 : ¬ n < (nw : Int) := by omega
      have d2 : decide (n < (nw : Int)) = false := by simp; omega
      clear hin wn
      go_wp2
      generalize hW5 : World.alloc w4 _ = W5 at HZ4 ⊢
      have HB45 : Hid (Below w4.heap.size w4 W5) := by rw [← hW5]; exact (Below.refl _ _).alloc (Nat.le_refl _) _
      have HP5 := HZ4
      clear hW5 HZ4
      have HCW5 : Hid (Cip W5 c w1.heap.size g nw cp (roundsK key) (wordsK key)) := HC4.out.up HB45.out (Nat.le_refl _)
      have HR5 : Hid (RCip W5 rc rg nw rcp (roundsK key) (wordsK key)) := HR.out.up HB45.out (Nat.le_refl _)
      have HBF : Hid (Below w.heap.size w W5) := HB4.out.trans (HB45.out.mono HB4.out.size)
      obtain ⟨S, f, hne, h1, h2⟩ := bclass W5
      have HKP : Hid (∀ s', (f s').heap[w4.heap.size]? = some (.cells (v4 T) 49 (0, 0))) := fun s' => ((h1 s').block _ (lt_of_block HP5.out)).trans HP5.out
      have cr : ∀ s', (f s').cell? ⟨rc, 513, none⟩ = some (.int .i64 ((roundsK key : Nat) : Int)) := fun s' => (HR5.out.up (h1 s') (Nat.le_refl _)).rs
      have M1 : Hid (∀ x : S, Calls Try.prog 50 #[.pointer (some ⟨c, 0, none⟩), .int .i64 n] (f x) fun e w' => e = .returned (.agg (v4 T)) ∧ ∃ s', w' = f s') := fun x => bcall h1 h2 (HWD.out _ (HCW5.out.up (h1 x) (Nat.le_refl _)))
      have M2 : Hid (∀ x : S, Calls Try.prog 51 #[.pointer (some ⟨c, 0, none⟩)] (f x) fun e w' => e = .returned (.int .i64 ((roundsK key : Nat) : Int)) ∧ ∃ s', w' = f s') := fun x => bcall_same (rounds_c _ (HCW5.out.up (h1 x) (Nat.le_refl _)))
      have M3 : Hid (∀ x : S, Calls Try.prog 49 #[] (f x) fun e w' => e = .returned (.bool true) ∧ ∃ s', w' = f s') := fun x => bcall h1 h2 (awake05_c _)
      have e4 := eq4 T
      have HF1 := Lib.hid h1
      have HF2 := Lib.hid h2
      clear h1 h2 HCW HRG cws
      generalize roundsK key = rk at *
      try go_wp2
      refine wp_region_quiet (C := fun w' => ∃ s, w' = f s) (by kernel_rfl) (by kernel_rfl) (HF2.out _ (Below.refl _ _).drew) ?_
      try simp only [Act.put, List.setIfInBounds_toArray, List.set_cons_succ, List.set_cons_zero]
      try simp only
      repeat first
        | (refine quiet_row rfl 49 (.tmp 13) rfl w4.heap.size rfl 49 (v4 T) (0, 0) _ (by rintro _ ⟨x, rfl⟩; exact HKP.out x) Try.underlying49 rfl (by rw [four4]; simp [v4]) ?_; simp only [Act.put, List.setIfInBounds_toArray, List.set_cons_succ, List.set_cons_zero])
        | go_big_quiet_step ((with_reducible first | exact M1.out _ | exact M2.out _ | exact M3.out _))
      refine wpQuiet_nil ?_
      rintro _ ⟨s0, rfl⟩
      go_wp2
      go_ret
      exact ⟨rfl, HBF.out.trans ((HF1.out s0).mono HBF.out.size)⟩
end Go.Proofs.Ytnmjkdmhfogeiaa
