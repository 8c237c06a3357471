/- The walk of the law AesNew. -/
import Derived.Test.YtnmjkdmhfogeiaaAesN
import Derived.Test.YtnmjkdmhfogeiaaAesY
import Derived.Test.YtnmjkdmhfogeiaaArrOpen
set_option linter.unusedVariables false
set_option linter.unusedSimpArgs false
namespace Go.Proofs.Ytnmjkdmhfogeiaa
open Go Go.RowKit GfM
theorem zA16_bA : zA16 = bA (List.replicate 16 0) := rfl
theorem eqz4 (w : World) : (binOp .eql 49 (.agg #[.int .u8 0, .int .u8 0, .int .u8 0, .int .u8 0]) (.agg #[.int .u8 0, .int .u8 0, .int .u8 0, .int .u8 0])).run Try.prog w = .ok (.bool true) w := eq4 (fun _ => 0) w
theorem eqz16 (w : World) : (binOp .eql 44 (.agg zA16) (.agg zA16)).run Try.prog w = .ok (.bool true) w := by
  obtain ⟨i8, hi8⟩ := u8some
  have := eql_bytes Try.prog 16 44 5 i8 Try.underlying44 Try.underlying5 u8plain hi8 u8cells (List.replicate 16 0) (List.replicate 16 0) (by simp) (by simp) w
  rw [zA16_bA, this]; simp
/-- the key behind the cut to 80 bytes -/
theorem cut80 {w : World} {a : Option Addr} {len cap : Nat} {l : List Nat} (hl : l.length = len) (h : RowIn w (.slice a len cap) l) (h80 : ¬ len > 80) (h16 : len = 16 ∨ len = 32) : ∃ g o, a = some ⟨g, o, none⟩ ∧ len ≤ cap ∧ g < w.heap.size ∧ ∀ j, j < l.length → w.cell? ⟨g, o + j, none⟩ = some (.int .u8 ((l.getD j 0 : Nat) : Int)) := by
  rcases h.2 with ⟨h1, h2⟩ | ⟨g, o, cap', sp, h1, h2, h3, h4, h5⟩
  · rw [h2] at hl; simp at hl; omega
  · obtain ⟨rfl, hg⟩ := h4 (by omega)
    cases h1
    exact ⟨g, o, rfl, by omega, hg, h5⟩
theorem new_as (b g oo cap len : Nat) (l : List Nat) (hl : l.length = len) (h16 : len = 16 ∨ len = 32) (hlb : ∀ x ∈ l, x < 256) (hlc : len ≤ cap) (w : World) (hB : IsBox w b) (hg : g < w.heap.size) (hk : ∀ j, j < l.length → w.cell? ⟨g, oo + j, none⟩ = some (.int .u8 ((l.getD j 0 : Nat) : Int))) :
    Calls Try.prog 45 #[.pointer (some ⟨b, 0, none⟩), .slice (some ⟨g, oo, none⟩) len cap] w fun e w' => ∃ c, e = .returned (.tuple #[.pointer (some ⟨c, 0, none⟩), .int .i64 0]) ∧ Below w.heap.size w w' := by
  subst hl
  exact (new_c b g oo cap l h16 hlb hlc w hB hg hk).mono fun e w' ⟨c, _, _, _, h1, _, _, _, h2⟩ => ⟨c, h1, h2⟩
set_option maxRecDepth 100000 in
set_option maxHeartbeats 8000000 in
theorem walkAesNew (w : World) (a : Option Addr) (len cap : Nat) (zs : List Int) (hrow : IsRow .u8 w a len cap zs) (p : List Nat) (hp : p.length = 16) (hpb : ∀ x ∈ p, x < 256) :
    Calls Try.prog 16 #[.slice a len cap, .agg (bA p)] w fun e w' => e = .returned (.bool true) ∧ Below w.heap.size w w' := by
  obtain ⟨l, hl, hR⟩ := rowIn hrow
  have hsz : len ≤ cap ∧ cap ≤ maxLen := by
    rcases hrow with ⟨rfl, rfl, rfl, _⟩ | ⟨_, _, h1, h2, _⟩
    · exact ⟨Nat.le_refl _, Nat.zero_le _⟩
    · exact ⟨h1, h2⟩
  have h0 := heap_new' w (.cells (bA p) 44)
  have hbl : Below w.heap.size w (w.alloc (.cells (bA p) 44)) := (Below.refl _ _).alloc (Nat.le_refl _) _
  have HR := Lib.hid hR
  have HL := Lib.hid hl
  have HP := Lib.hid (And.intro hp hpb)
  have H0 := Lib.hid h0
  have HBL := Lib.hid hbl
  have HSZ := Lib.hid hsz
  have hmx : len ≤ 9223372036854775807 := by have := hsz.1; have := hsz.2; unfold maxLen at *; omega
  have hmc : cap ≤ 9223372036854775807 := by have := hsz.2; unfold maxLen at *; omega
  clear hR hp hpb h0 hbl hrow hsz
  generalize hW0 : (w.alloc (.cells (bA p) 44)) = W0 at *
  by_cases h80 : len > 80
  · have hd : decide ((len : Int) > 80) = true := by simp; omega
    have hs1 : (80 : Int) ≤ (cap : Int) := by have := HSZ.out.1; omega
    go_enter Try.func16, Try.ntmps16
    go_wp2_with fail
    refine (newbox_c W0).mono ?_
    rintro e w1 ⟨rfl, _, _, hb1⟩
    have HP1 := Lib.hid ((hb1.block _ (lt_of_block H0.out)).trans H0.out)
    have HB1 : Hid (Below w.heap.size w w1) := HBL.out.trans (hb1.mono HBL.out.size)
    clear hb1
    go_wp2_with fail
    refine (new_bad _ a 80 cap (by omega) (by omega) w1).mono ?_
    rintro e w2 ⟨rfl, rfl⟩
    go_wp2_with fail
    refine (new_nil _ w1).mono ?_
    rintro e w2 ⟨rfl, rfl⟩
    go_wp2
    generalize hW5 : World.alloc w1 _ = W5
    have HP5 : Hid (W5.heap[w.heap.size]? = some (.cells (bA p) 44 (0, 0))) := by rw [← hW5]; exact (heap_old' _ _ _ (lt_of_block HP1.out)).trans HP1.out
    have HZ5 : Hid (W5.heap[w1.heap.size]? = some (.cells zA16 44 (0, 0))) := by rw [← hW5]; exact heap_new' _ _
    have HB5 : Hid (Below w.heap.size w W5) := by rw [← hW5]; exact HB1.out.alloc HB1.out.size _
    clear hW5
    obtain ⟨S, f, hne, h1, h2⟩ := bclass W5
    have HKP : Hid (∀ s', (f s').heap[w.heap.size]? = some (.cells (bA p) 44 (0, 0))) := fun s' => ((h1 s').block _ (lt_of_block HP5.out)).trans HP5.out
    have HKZ : Hid (∀ s', (f s').heap[w1.heap.size]? = some (.cells zA16 44 (0, 0))) := fun s' => ((h1 s').block _ (lt_of_block HZ5.out)).trans HZ5.out
    have M1 : Hid (∀ x : S, Calls Try.prog 46 #[.pointer none, .agg (bA p)] (f x) fun e w' => e = .returned (.agg zA16) ∧ ∃ s', w' = f s') := fun x => bcall h1 h2 (encrypt_nil p _)
    have M2 : Hid (∀ x : S, Calls Try.prog 52 #[.pointer none, .agg (bA p)] (f x) fun e w' => e = .returned (.agg zA16) ∧ ∃ s', w' = f s') := fun x => bcall h1 h2 (decrypt_nil p _)
    have M3 : Hid (∀ x : S, Calls Try.prog 49 #[] (f x) fun e w' => e = .returned (.bool true) ∧ ∃ s', w' = f s') := fun x => bcall h1 h2 (awake05_c _)
    have M4 : Hid (∀ x : S, Calls Try.prog 51 #[.pointer none] (f x) fun e w' => e = .returned (.int .i64 0) ∧ ∃ s', w' = f s') := fun x => bcall_same (rounds_nil _)
    have M5 : Hid (∀ x : S, Calls Try.prog 50 #[.pointer none, .int .i64 1] (f x) fun e w' => e = .returned (.agg #[.int .u8 0, .int .u8 0, .int .u8 0, .int .u8 0]) ∧ ∃ s', w' = f s') := fun x => bcall h1 h2 (word_nil 1 _)
    have e2 := eqz16
    have e3 := eqz4
    have HF1 := Lib.hid h1
    have HF2 := Lib.hid h2
    have HP1 := Lib.hid HP.out.1
    clear h1 h2
    go_wp2
    refine wp_region_quiet (C := fun w' => ∃ s, w' = f s) (by kernel_rfl) (by kernel_rfl) (HF2.out _ (Below.refl _ _).drew) ?_
    simp only
    repeat first
      | (refine quiet_row rfl 44 (.tmp 3) rfl w.heap.size rfl 44 (bA p) (0, 0) _ (by rintro _ ⟨x, rfl⟩; exact HKP.out x) Try.underlying44 rfl (by rw [zero16', bA_size, HP1.out]) ?_; simp only [Act.put, List.setIfInBounds_toArray, List.set_cons_succ, List.set_cons_zero])
      | (refine quiet_row rfl 44 (.tmp 10) rfl w1.heap.size rfl 44 zA16 (0, 0) _ (by rintro _ ⟨x, rfl⟩; exact HKZ.out x) Try.underlying44 rfl (by rw [zero16']; rfl) ?_; simp only [Act.put, List.setIfInBounds_toArray, List.set_cons_succ, List.set_cons_zero])
      | go_big_quiet_step ((with_reducible first | exact M1.out _ | exact M2.out _ | exact M3.out _ | exact M4.out _ | exact M5.out _))
    refine wpQuiet_nil ?_
    rintro _ ⟨s0, rfl⟩
    go_wp2
    go_ret
    exact ⟨rfl, HB5.out.trans ((HF1.out s0).mono HB5.out.size)⟩
  · have hd : decide ((len : Int) > 80) = false := by simp; omega
    by_cases hr : len = 16 ∨ len = 32
    · obtain ⟨g, oo, ha, hlc, hgl, hcell⟩ := cut80 HL.out HR.out h80 hr
      subst ha
      have hgl2 := Lib.hid hgl
      have hcell2 := Lib.hid hcell
      have hrr := Lib.hid hr
      have hlc2 := Lib.hid hlc
      have hor : ((len : Int) == 16 || (len : Int) == 32) = true := by rcases hr with rfl | rfl <;> rfl
      clear hgl hcell hr hlc
      go_enter Try.func16, Try.ntmps16
      go_wp2_with fail
      refine (newbox_c W0).mono ?_
      rintro e w1 ⟨rfl, hbx, hlt1, hb1⟩
      have HP1 := Lib.hid ((hb1.block _ (lt_of_block H0.out)).trans H0.out)
      have HB1 : Hid (Below w.heap.size w w1) := HBL.out.trans (hb1.mono HBL.out.size)
      have HBX := Lib.hid hbx
      have HC1 : Hid (∀ j, j < l.length → w1.cell? ⟨g, oo + j, none⟩ = some (.int .u8 ((l.getD j 0 : Nat) : Int))) := fun j hj => (HB1.out.cell (p := ⟨g, oo + j, none⟩) hgl2.out).trans (hcell2.out j hj)
      have HG1 : Hid (g < w1.heap.size) := Nat.lt_of_lt_of_le hgl2.out HB1.out.size
      clear hb1 hbx hlt1
      go_wp2_with fail
      refine (new_as W0.heap.size g oo cap len l HL.out hrr.out HR.out.1 hlc2.out w1 HBX.out HG1.out HC1.out).mono ?_
      rintro e w2 ⟨c, rfl, hb2⟩
      have HP2 := Lib.hid ((hb2.block _ (lt_of_block HP1.out)).trans HP1.out)
      have HB2 : Hid (Below w.heap.size w w2) := HB1.out.trans (hb2.mono HB1.out.size)
      clear hb2
      go_wp2_with fail
      refine (new_nil _ w2).mono ?_
      rintro e w3 ⟨rfl, rfl⟩
      go_wp2
      all_goals (
        generalize hW5 : World.alloc w2 _ = W5
        have HP5 : Hid (W5.heap[w.heap.size]? = some (.cells (bA p) 44 (0, 0))) := by rw [← hW5]; exact (heap_old' _ _ _ (lt_of_block HP2.out)).trans HP2.out
        have HZ5 : Hid (W5.heap[w2.heap.size]? = some (.cells zA16 44 (0, 0))) := by rw [← hW5]; exact heap_new' _ _
        have HB5 : Hid (Below w.heap.size w W5) := by rw [← hW5]; exact HB2.out.alloc HB2.out.size _
        clear hW5
        obtain ⟨S, f, hne, h1, h2⟩ := bclass W5
        have HKP : Hid (∀ s', (f s').heap[w.heap.size]? = some (.cells (bA p) 44 (0, 0))) := fun s' => ((h1 s').block _ (lt_of_block HP5.out)).trans HP5.out
        have HKZ : Hid (∀ s', (f s').heap[w2.heap.size]? = some (.cells zA16 44 (0, 0))) := fun s' => ((h1 s').block _ (lt_of_block HZ5.out)).trans HZ5.out
        have M1 : Hid (∀ x : S, Calls Try.prog 46 #[.pointer none, .agg (bA p)] (f x) fun e w' => e = .returned (.agg zA16) ∧ ∃ s', w' = f s') := fun x => bcall h1 h2 (encrypt_nil p _)
        have M2 : Hid (∀ x : S, Calls Try.prog 52 #[.pointer none, .agg (bA p)] (f x) fun e w' => e = .returned (.agg zA16) ∧ ∃ s', w' = f s') := fun x => bcall h1 h2 (decrypt_nil p _)
        have M3 : Hid (∀ x : S, Calls Try.prog 49 #[] (f x) fun e w' => e = .returned (.bool true) ∧ ∃ s', w' = f s') := fun x => bcall h1 h2 (awake05_c _)
        have M4 : Hid (∀ x : S, Calls Try.prog 51 #[.pointer none] (f x) fun e w' => e = .returned (.int .i64 0) ∧ ∃ s', w' = f s') := fun x => bcall_same (rounds_nil _)
        have M5 : Hid (∀ x : S, Calls Try.prog 50 #[.pointer none, .int .i64 1] (f x) fun e w' => e = .returned (.agg #[.int .u8 0, .int .u8 0, .int .u8 0, .int .u8 0]) ∧ ∃ s', w' = f s') := fun x => bcall h1 h2 (word_nil 1 _)
        have e2 := eqz16
        have e3 := eqz4
        have HF1 := Lib.hid h1
        have HF2 := Lib.hid h2
        have HP1 := Lib.hid HP.out.1
        clear h1 h2
        go_wp2
        refine wp_region_quiet (C := fun w' => ∃ s, w' = f s) (by kernel_rfl) (by kernel_rfl) (HF2.out _ (Below.refl _ _).drew) ?_
        simp only
        repeat first
          | (refine quiet_row rfl 44 (.tmp 3) rfl w.heap.size rfl 44 (bA p) (0, 0) _ (by rintro _ ⟨x, rfl⟩; exact HKP.out x) Try.underlying44 rfl (by rw [zero16', bA_size, HP1.out]) ?_; simp only [Act.put, List.setIfInBounds_toArray, List.set_cons_succ, List.set_cons_zero])
          | (refine quiet_row rfl 44 (.tmp 10) rfl w2.heap.size rfl 44 zA16 (0, 0) _ (by rintro _ ⟨x, rfl⟩; exact HKZ.out x) Try.underlying44 rfl (by rw [zero16']; rfl) ?_; simp only [Act.put, List.setIfInBounds_toArray, List.set_cons_succ, List.set_cons_zero])
          | go_big_quiet_step ((with_reducible first | exact M1.out _ | exact M2.out _ | exact M3.out _ | exact M4.out _ | exact M5.out _))
        refine wpQuiet_nil ?_
        rintro _ ⟨s0, rfl⟩
        go_wp2
        go_ret
        exact ⟨rfl, HB5.out.trans ((HF1.out s0).mono HB5.out.size)⟩)
    · have n16 : len ≠ 16 := fun h => hr (.inl h)
      have n32 : len ≠ 32 := fun h => hr (.inr h)
      have hor : ((len : Int) == 16) = false := by simp; omega
      have hor2 : ((len : Int) == 32) = false := by simp; omega
      go_enter Try.func16, Try.ntmps16
      go_wp2_with fail
      refine (newbox_c W0).mono ?_
      rintro e w1 ⟨rfl, _, _, hb1⟩
      have HP1 := Lib.hid ((hb1.block _ (lt_of_block H0.out)).trans H0.out)
      have HB1 : Hid (Below w.heap.size w w1) := HBL.out.trans (hb1.mono HBL.out.size)
      clear hb1
      go_wp2_with fail
      refine (new_bad _ a len cap n16 n32 w1).mono ?_
      rintro e w2 ⟨rfl, rfl⟩
      go_wp2_with fail
      refine (new_nil _ w1).mono ?_
      rintro e w2 ⟨rfl, rfl⟩
      go_wp2
      generalize hW5 : World.alloc w1 _ = W5
      have HP5 : Hid (W5.heap[w.heap.size]? = some (.cells (bA p) 44 (0, 0))) := by rw [← hW5]; exact (heap_old' _ _ _ (lt_of_block HP1.out)).trans HP1.out
      have HZ5 : Hid (W5.heap[w1.heap.size]? = some (.cells zA16 44 (0, 0))) := by rw [← hW5]; exact heap_new' _ _
      have HB5 : Hid (Below w.heap.size w W5) := by rw [← hW5]; exact HB1.out.alloc HB1.out.size _
      clear hW5
      obtain ⟨S, f, hne, h1, h2⟩ := bclass W5
      have HKP : Hid (∀ s', (f s').heap[w.heap.size]? = some (.cells (bA p) 44 (0, 0))) := fun s' => ((h1 s').block _ (lt_of_block HP5.out)).trans HP5.out
      have HKZ : Hid (∀ s', (f s').heap[w1.heap.size]? = some (.cells zA16 44 (0, 0))) := fun s' => ((h1 s').block _ (lt_of_block HZ5.out)).trans HZ5.out
      have M1 : Hid (∀ x : S, Calls Try.prog 46 #[.pointer none, .agg (bA p)] (f x) fun e w' => e = .returned (.agg zA16) ∧ ∃ s', w' = f s') := fun x => bcall h1 h2 (encrypt_nil p _)
      have M2 : Hid (∀ x : S, Calls Try.prog 52 #[.pointer none, .agg (bA p)] (f x) fun e w' => e = .returned (.agg zA16) ∧ ∃ s', w' = f s') := fun x => bcall h1 h2 (decrypt_nil p _)
      have M3 : Hid (∀ x : S, Calls Try.prog 49 #[] (f x) fun e w' => e = .returned (.bool true) ∧ ∃ s', w' = f s') := fun x => bcall h1 h2 (awake05_c _)
      have M4 : Hid (∀ x : S, Calls Try.prog 51 #[.pointer none] (f x) fun e w' => e = .returned (.int .i64 0) ∧ ∃ s', w' = f s') := fun x => bcall_same (rounds_nil _)
      have M5 : Hid (∀ x : S, Calls Try.prog 50 #[.pointer none, .int .i64 1] (f x) fun e w' => e = .returned (.agg #[.int .u8 0, .int .u8 0, .int .u8 0, .int .u8 0]) ∧ ∃ s', w' = f s') := fun x => bcall h1 h2 (word_nil 1 _)
      have e2 := eqz16
      have e3 := eqz4
      have HF1 := Lib.hid h1
      have HF2 := Lib.hid h2
      have HP1 := Lib.hid HP.out.1
      clear h1 h2
      go_wp2
      refine wp_region_quiet (C := fun w' => ∃ s, w' = f s) (by kernel_rfl) (by kernel_rfl) (HF2.out _ (Below.refl _ _).drew) ?_
      simp only
      repeat first
        | (refine quiet_row rfl 44 (.tmp 3) rfl w.heap.size rfl 44 (bA p) (0, 0) _ (by rintro _ ⟨x, rfl⟩; exact HKP.out x) Try.underlying44 rfl (by rw [zero16', bA_size, HP1.out]) ?_; simp only [Act.put, List.setIfInBounds_toArray, List.set_cons_succ, List.set_cons_zero])
        | (refine quiet_row rfl 44 (.tmp 10) rfl w1.heap.size rfl 44 zA16 (0, 0) _ (by rintro _ ⟨x, rfl⟩; exact HKZ.out x) Try.underlying44 rfl (by rw [zero16']; rfl) ?_; simp only [Act.put, List.setIfInBounds_toArray, List.set_cons_succ, List.set_cons_zero])
        | go_big_quiet_step ((with_reducible first | exact M1.out _ | exact M2.out _ | exact M3.out _ | exact M4.out _ | exact M5.out _))
      refine wpQuiet_nil ?_
      rintro _ ⟨s0, rfl⟩
      go_wp2
      go_ret
      exact ⟨rfl, HB5.out.trans ((HF1.out s0).mono HB5.out.size)⟩
end Go.Proofs.Ytnmjkdmhfogeiaa
