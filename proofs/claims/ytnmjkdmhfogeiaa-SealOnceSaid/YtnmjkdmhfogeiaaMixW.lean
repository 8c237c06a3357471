/- The walk of the law GfMix. -/
import Derived.Test.YtnmjkdmhfogeiaaMixD
import Derived.Test.YtnmjkdmhfogeiaaArrEq
import Derived.Test.YtnmjkdmhfogeiaaReg
set_option linter.unusedVariables false
namespace Go.Proofs.Ytnmjkdmhfogeiaa
open Go Go.RowKit GfM
theorem u8some : ∃ i, Try.prog.info? 5 = some i := by
  have h : (Try.prog.info? 5).isSome = true := by kernel_rfl
  exact Option.isSome_iff_exists.1 h
theorem u8plain : Try.prog.plainKey 5 = true := by kernel_rfl
theorem u8cells : Try.prog.cellsOf 5 = 1 := by kernel_rfl
theorem eq4 (g : Nat → Nat) (w : World) : (binOp .eql 49 (.agg (v4 g)) (.agg (v4 g))).run Try.prog w = .ok (.bool true) w := by
  obtain ⟨i, hi⟩ := u8some
  have := eql_bytes Try.prog 4 49 5 i Try.underlying49 Try.underlying5 u8plain hi u8cells [g 0, g 1, g 2, g 3] [g 0, g 1, g 2, g 3] rfl rfl w
  rw [show Value.agg (v4 g) = .agg (bA [g 0, g 1, g 2, g 3]) from rfl, this]
  simp
theorem v4_lit (g : Nat → Nat) : #[.int .u8 (g 0 : Int), .int .u8 (g 1 : Int), .int .u8 (g 2 : Int), .int .u8 (g 3 : Int)] = v4 g := rfl
theorem vec2311 : #[.int .u8 2, .int .u8 3, .int .u8 1, .int .u8 1] = v4 (vec 2 3 1 1) := rfl
theorem vecebd9 : #[.int .u8 14, .int .u8 11, .int .u8 13, .int .u8 9] = v4 (vec 14 11 13 9) := rfl
theorem vec_lt (a b c d : Nat) (ha : a < 256) (hb : b < 256) (hc : c < 256) (hd : d < 256) : ∀ j, j < 4 → vec a b c d j < 256 := fun j hj => by
  match j, hj with
  | 0, _ => exact ha
  | 1, _ => exact hb
  | 2, _ => exact hc
  | 3, _ => exact hd
theorem mix_as (A : Array Value) (c g : Nat → Nat) (hc : ∀ j, j < 4 → c j < 256) (hA : A = v4 c) (hg : ∀ j, j < 4 → mixN c j = g j) (w : World) :
    Calls Try.prog 41 #[.agg A] w fun e w' => e = .returned (.agg (v4 g)) ∧ Below w.heap.size w w' := by
  subst hA; rw [← v4_ext hg]; exact mix_c c hc w
theorem unmix_as (A : Array Value) (c g : Nat → Nat) (hc : ∀ j, j < 4 → c j < 256) (hA : A = v4 c) (hg : ∀ j, j < 4 → plainN c j = g j) (w : World) :
    Calls Try.prog 43 #[.agg A] w fun e w' => e = .returned (.agg (v4 g)) ∧ Below w.heap.size w w' := by
  subst hA; rw [← v4_ext hg]; exact unmix_c c hc w
theorem col_as (A B : Array Value) (c f g : Nat → Nat) (hc : ∀ j, j < 4 → c j < 256) (hf : ∀ j, j < 4 → f j < 256) (hA : A = v4 c) (hB : B = v4 f) (hg : ∀ j, j < 4 → colN c f j = g j) (w : World) :
    Calls Try.prog 42 #[.agg A, .agg B] w fun e w' => e = .returned (.agg (v4 g)) ∧ Below w.heap.size w w' := by
  subst hA hB; rw [← v4_ext hg]; exact column_c c f hc hf w
set_option maxRecDepth 100000 in
set_option maxHeartbeats 2000000 in
theorem walkGfMix (a : Int) (wa : (Lit.int .u8 a).wf = true) (b : Int) (wb : (Lit.int .u8 b).wf = true) (c : Int) (wc : (Lit.int .u8 c).wf = true) (d : Int) (wd : (Lit.int .u8 d).wf = true) (w : World) :
    Calls Try.prog 11 #[.int .u8 a, .int .u8 b, .int .u8 c, .int .u8 d] w fun e w' => e = .returned (.bool true) ∧ Below w.heap.size w w' := by
  obtain ⟨a, ha, rfl⟩ := wf_nat8 wa
  obtain ⟨b, hb, rfl⟩ := wf_nat8 wb
  obtain ⟨c, hc, rfl⟩ := wf_nat8 wc
  obtain ⟨d, hd, rfl⟩ := wf_nat8 wd
  clear wa wb wc wd
  obtain ⟨x, hx⟩ : ∃ x, x = vec a b c d := ⟨_, rfl⟩
  have hlt : ∀ j, j < 4 → x j < 256 := fun j hj => by
    subst hx
    match j, hj with
    | 0, _ => exact ha
    | 1, _ => exact hb
    | 2, _ => exact hc
    | 3, _ => exact hd
  have hxa : (a : Int) = (x 0 : Int) := by rw [hx]; rfl
  have hxb : (b : Int) = (x 1 : Int) := by rw [hx]; rfl
  have hxc : (c : Int) = (x 2 : Int) := by rw [hx]; rfl
  have hxd : (d : Int) = (x 3 : Int) := by rw [hx]; rfl
  rw [hxa, hxb, hxc, hxd]
  clear hxa hxb hxc hxd hx ha hb hc hd a b c d
  go_enter Try.func11, Try.ntmps11
  go_wp2
  obtain ⟨W, hW⟩ : ∃ W, W = w.alloc (.cells #[.int .u8 (x 0 : Int), .int .u8 (x 1 : Int), .int .u8 (x 2 : Int), .int .u8 (x 3 : Int)] 49) := ⟨_, rfl⟩
  rw [← hW]
  have k0 : W.cell? ⟨w.heap.size, 0, none⟩ = some (.int .u8 (x 0 : Int)) := by rw [hW, World.cell?_alloc_new]; rfl
  have k1 : W.cell? ⟨w.heap.size, 1, none⟩ = some (.int .u8 (x 1 : Int)) := by rw [hW, World.cell?_alloc_new]; rfl
  have k2 : W.cell? ⟨w.heap.size, 2, none⟩ = some (.int .u8 (x 2 : Int)) := by rw [hW, World.cell?_alloc_new]; rfl
  have k3 : W.cell? ⟨w.heap.size, 3, none⟩ = some (.int .u8 (x 3 : Int)) := by rw [hW, World.cell?_alloc_new]; rfl
  have hz : w.heap.size < W.heap.size := by rw [hW]; simp
  have hbW : Below w.heap.size w W := by rw [hW]; exact (Below.refl _ _).alloc (Nat.le_refl _) _
  clear hW
  obtain ⟨S, f, hne, h1, h2⟩ := bclass W
  have c0 : ∀ s, (f s).cell? ⟨w.heap.size, 0, none⟩ = some (.int .u8 (x 0 : Int)) := fun s => (below_cell (h1 s) hz).trans k0
  have c1 : ∀ s, (f s).cell? ⟨w.heap.size, 1, none⟩ = some (.int .u8 (x 1 : Int)) := fun s => (below_cell (h1 s) hz).trans k1
  have c2 : ∀ s, (f s).cell? ⟨w.heap.size, 2, none⟩ = some (.int .u8 (x 2 : Int)) := fun s => (below_cell (h1 s) hz).trans k2
  have c3 : ∀ s, (f s).cell? ⟨w.heap.size, 3, none⟩ = some (.int .u8 (x 3 : Int)) := fun s => (below_cell (h1 s) hz).trans k3
  have H1 := Lib.hid h1
  have H2 := Lib.hid h2
  have HL := Lib.hid hlt
  have HB := Lib.hid hbW
  clear k0 k1 k2 k3 h1 h2 hlt hbW
  have e4 := eq4
  have pmx := PM_any x HL.out
  have m1 : ∀ s : S, Calls Try.prog 41 #[.agg #[.int .u8 (x 0 : Int), .int .u8 (x 1 : Int), .int .u8 (x 2 : Int), .int .u8 (x 3 : Int)]] (f s) fun e w' => e = .returned (.agg (v4 (mixN x))) ∧ ∃ s', w' = f s' := fun s =>
    bcall H1.out H2.out (mix_as _ x (mixN x) HL.out (v4_lit x) (fun _ _ => rfl) _)
  have m2 : ∀ s : S, Calls Try.prog 42 #[.agg #[.int .u8 (x 0 : Int), .int .u8 (x 1 : Int), .int .u8 (x 2 : Int), .int .u8 (x 3 : Int)], .agg #[.int .u8 2, .int .u8 3, .int .u8 1, .int .u8 1]] (f s) fun e w' => e = .returned (.agg (v4 (mixN x))) ∧ ∃ s', w' = f s' := fun s =>
    bcall H1.out H2.out (col_as _ _ x (vec 2 3 1 1) (mixN x) HL.out (vec_lt _ _ _ _ (by omega) (by omega) (by omega) (by omega)) (v4_lit x) vec2311 (fun j hj => (mix_col x HL.out j hj).symm) _)
  have m3 : ∀ s : S, Calls Try.prog 43 #[.agg #[.int .u8 (x 0 : Int), .int .u8 (x 1 : Int), .int .u8 (x 2 : Int), .int .u8 (x 3 : Int)]] (f s) fun e w' => e = .returned (.agg (v4 (plainN x))) ∧ ∃ s', w' = f s' := fun s =>
    bcall H1.out H2.out (unmix_as _ x (plainN x) HL.out (v4_lit x) (fun _ _ => rfl) _)
  have m4 : ∀ s : S, Calls Try.prog 42 #[.agg #[.int .u8 (x 0 : Int), .int .u8 (x 1 : Int), .int .u8 (x 2 : Int), .int .u8 (x 3 : Int)], .agg #[.int .u8 14, .int .u8 11, .int .u8 13, .int .u8 9]] (f s) fun e w' => e = .returned (.agg (v4 (plainN x))) ∧ ∃ s', w' = f s' := fun s =>
    bcall H1.out H2.out (col_as _ _ x (vec 14 11 13 9) (plainN x) HL.out (vec_lt _ _ _ _ (by omega) (by omega) (by omega) (by omega)) (v4_lit x) vecebd9 (fun j hj => (plain_col x j hj).symm) _)
  have m5 : ∀ s : S, Calls Try.prog 43 #[.agg (v4 (mixN x))] (f s) fun e w' => e = .returned (.agg (v4 x)) ∧ ∃ s', w' = f s' := fun s =>
    bcall H1.out H2.out (unmix_as _ (mixN x) x (mixN_lt x HL.out) rfl (fun j hj => (pmx j hj).1) _)
  have m6 : ∀ s : S, Calls Try.prog 41 #[.agg (v4 (plainN x))] (f s) fun e w' => e = .returned (.agg (v4 x)) ∧ ∃ s', w' = f s' := fun s =>
    bcall H1.out H2.out (mix_as _ (plainN x) x (fun j _ => plainN_lt x j) rfl (fun j hj => (pmx j hj).2) _)
  have m7 : ∀ s : S, Calls Try.prog 30 #[] (f s) fun e w' => e = .returned (.bool true) ∧ ∃ s', w' = f s' := fun s =>
    bcall H1.out H2.out (awake02_c _)
  have e5 : ∀ w : World, (binOp .eql 49 (.agg (v4 x)) (.agg #[.int .u8 (x 0 : Int), .int .u8 (x 1 : Int), .int .u8 (x 2 : Int), .int .u8 (x 3 : Int)])).run Try.prog w = .ok (.bool true) w := fun w => eq4 x w
  have M1 := Lib.hid m1
  have M2 := Lib.hid m2
  have M3 := Lib.hid m3
  have M4 := Lib.hid m4
  have M5 := Lib.hid m5
  have M6 := Lib.hid m6
  have M7 := Lib.hid m7
  clear m1 m2 m3 m4 m5 m6 m7 pmx
  refine wp_region_quiet (C := fun w' => ∃ s, w' = f s) (by kernel_rfl) (by kernel_rfl) (H2.out _ (Below.refl _ _).drew) ?_
  simp only
  repeat (go_big_quiet_step ((with_reducible first | exact M1.out _ | exact M2.out _ | exact M3.out _ | exact M4.out _ | exact M5.out _ | exact M6.out _ | exact M7.out _)))
  refine wpQuiet_nil ?_
  rintro _ ⟨s, rfl⟩
  go_wp2
  go_ret
  exact ⟨rfl, HB.out.trans ((H1.out s).mono (by omega))⟩
end Go.Proofs.Ytnmjkdmhfogeiaa
