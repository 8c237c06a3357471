/- package pages: slots, head, may, bad. -/
import Derived.Test.YtpbmjfjnmcpieaaChP
set_option linter.unusedVariables false
set_option linter.unusedSimpArgs false
namespace Go.Proofs.Ytpbmjfjnmcpieaa
open Go Go.RowKit
set_option maxRecDepth 100000 in
set_option maxHeartbeats 2000000 in
theorem pgslots_c (p : Pg) (w : World) :
    Calls Try.prog 79 #[.agg (pgA p)] w fun e w' => e = .returned (.bool (slotsP p)) ∧ Below w.heap.size w w' := by
  have HBLK := Lib.hid (heap_new' w (.cells (pgA p) 81))
  have HE := Lib.hid (below_box w (.cells (pgA p) 81))
  have c1 := (cells_at HBLK.out 1).trans (show _ = some (Value.int .i64 (p.cls : Int)) from rfl)
  obtain ⟨z, hz⟩ : ∃ z, z = sz p.cls := ⟨_, rfl⟩
  have HS := Lib.hid (fun w => size_c p.cls w)
  rw [← hz] at HS
  have HEQ : Hid (∀ w, (binOp .eql 81 (.agg (pgA p)) (.agg (pgA ⟨1, p.cls, 0, 0, 0⟩))).run Try.prog w = .ok (.bool (pgEq p ⟨1, p.cls, 0, 0, 0⟩)) w) := fun w => eql_pg p _ w
  have hp : slotsP p = (pgEq p ⟨1, p.cls, 0, 0, 0⟩ && decide (0 < z)) := by
    have hd : decide (p.cls < 8) = decide (0 < z) := by
      rw [hz]
      have := sz_zero p.cls
      rw [decide_eq_decide]; omega
    unfold slotsP pgEq
    rw [hd]; simp
  have HP := Lib.hid hp
  generalize pgEq p ⟨1, p.cls, 0, 0, 0⟩ = r at *
  clear hz hp
  cases r with
  | false =>
    go_enter Try.func79, Try.ntmps79
    go_wp2_with (first
    | (refine wpList_load_row rfl 81 (.tmp 1) rfl w.heap.size rfl _ _ _ _ HBLK.out Try.underlying81 rfl (by rw [page5]; rfl) ?_)
    | (refine wpList_eql_agg rfl 81 _ (.tmp 3) (.tmp 6) rfl (pgA p) (pgA ⟨1, p.cls, 0, 0, 0⟩) rfl rfl (by kernel_rfl) false (HEQ.out _) ?_)
    | fail)
    go_ret
    exact ⟨by rw [HP.out]; rfl, HE.out⟩
  | true =>
    go_enter Try.func79, Try.ntmps79
    go_wp2_with (first
  | (refine wpList_load_row rfl 81 (.tmp 1) rfl w.heap.size rfl _ _ _ _ HBLK.out Try.underlying81 rfl (by rw [page5]; rfl) ?_)
  | (refine wpList_eql_agg rfl 81 _ (.tmp 3) (.tmp 6) rfl (pgA p) (pgA ⟨1, p.cls, 0, 0, 0⟩) rfl rfl (by kernel_rfl) true (HEQ.out _) ?_)
  | fail)
    refine (HS.out _).mono ?_
    rintro e w1 ⟨rfl, rfl⟩
    go_wp2
    go_ret
    exact ⟨by rw [HP.out]; rfl, HE.out⟩
theorem head_split (p : Pg) : headP p = (decide (120 < p.size ∧ p.size ≤ 4096) && pgEq p ⟨2, 0, pagesOf p.size, p.size, p.ser⟩ && decide (0 < p.ser) && decide (p.ser ≤ 281474976710655)) := by
  unfold headP pgEq
  simp only
  rw [show decide (p.ser < 281474976710656) = decide (p.ser ≤ 281474976710655) by rw [decide_eq_decide]; omega]
  rw [show (p.size == p.size) = true by simp, show (p.ser == p.ser) = true by simp]
  by_cases h1 : 120 < p.size <;> by_cases h2 : p.size ≤ 4096 <;> simp [h1, h2]
set_option maxRecDepth 100000 in
set_option maxHeartbeats 4000000 in
theorem pghead_c (p : Pg) (hsz : p.size < 4611686018427387904) (w : World) :
    Calls Try.prog 80 #[.agg (pgA p)] w fun e w' => e = .returned (.bool (headP p)) ∧ Below w.heap.size w w' := by
  have HBLK := Lib.hid (heap_new' w (.cells (pgA p) 81))
  have HE := Lib.hid (below_box w (.cells (pgA p) 81))
  have c3 := (cells_at HBLK.out 3).trans (show _ = some (Value.int .i64 (p.size : Int)) from rfl)
  have c4 := (cells_at HBLK.out 4).trans (show _ = some (Value.int .u64 (p.ser : Int)) from rfl)
  have HS := Lib.hid (fun w => pages_c p.size hsz w)
  have HEQ : Hid (∀ w, (binOp .eql 81 (.agg (pgA p)) (.agg (pgA ⟨2, 0, pagesOf p.size, p.size, p.ser⟩))).run Try.prog w = .ok (.bool (pgEq p ⟨2, 0, pagesOf p.size, p.size, p.ser⟩)) w) := fun w => eql_pg p _ w
  have HP := Lib.hid (head_split p)
  obtain ⟨n, hn⟩ : ∃ n, n = p.size := ⟨_, rfl⟩
  obtain ⟨s, hs⟩ : ∃ s, s = p.ser := ⟨_, rfl⟩
  obtain ⟨m, hm⟩ : ∃ m, m = pagesOf p.size := ⟨_, rfl⟩
  rw [← hm, ← hn] at HS
  rw [← hm, ← hn, ← hs] at HEQ HP
  rw [← hn] at c3
  rw [← hs] at c4
  generalize hr : pgEq p ⟨2, 0, m, n, s⟩ = r at *
  clear hr hn hs hm hsz
  by_cases h1 : 120 < n ∧ n ≤ 4096
  · rw [if_pos h1] at HS
    rw [decide_eq_true h1] at HP
    clear h1
    cases r with
    | false =>
      go_enter Try.func80, Try.ntmps80
      go_wp2_with fail
      refine (HS.out _).mono ?_
      rintro e w1 ⟨rfl, rfl⟩
      go_wp2_with (first
        | (refine load_row_w rfl 81 (.tmp 1) rfl w.heap.size rfl _ _ _ _ HBLK.out Try.underlying81 rfl (by rw [page5]; rfl) ?_)
        | (refine wpList_eql_agg rfl 81 _ (.tmp 13) (.tmp 19) rfl (pgA p) (pgA ⟨2, 0, m, n, s⟩) rfl rfl (by kernel_rfl) false (HEQ.out _) ?_)
        | fail)
      go_ret
      exact ⟨by rw [HP.out]; rfl, HE.out⟩
    | true =>
      by_cases h2 : 0 < s
      · have d2 : decide ((s : Int) > 0) = true := by simp; omega
        have i2 : 0 < (s : Int) := by omega
        by_cases h3 : s ≤ 281474976710655
        · have d3 : decide ((s : Int) ≤ 281474976710655) = true := by simp; omega
          have i3 : (s : Int) ≤ 281474976710655 := by omega
          have HP2 : Hid (headP p = true) := by show _ = _; rw [HP.out]; simp; omega
          clear h2 h3
          go_enter Try.func80, Try.ntmps80
          go_wp2_with fail
          refine (HS.out _).mono ?_
          rintro e w1 ⟨rfl, rfl⟩
          go_wp2_with (first
            | (refine load_row_w rfl 81 (.tmp 1) rfl w.heap.size rfl _ _ _ _ HBLK.out Try.underlying81 rfl (by rw [page5]; rfl) ?_)
            | (refine wpList_eql_agg rfl 81 _ (.tmp 13) (.tmp 19) rfl (pgA p) (pgA ⟨2, 0, m, n, s⟩) rfl rfl (by kernel_rfl) true (HEQ.out _) ?_)
            | fail)
          go_ret
          exact ⟨by rw [HP2.out]; rfl, HE.out⟩
        · have d3 : decide ((s : Int) ≤ 281474976710655) = false := by simp; omega
          have i3 : ¬ (s : Int) ≤ 281474976710655 := by omega
          have HP2 : Hid (headP p = false) := by show _ = _; rw [HP.out]; simp; omega
          clear h2 h3
          go_enter Try.func80, Try.ntmps80
          go_wp2_with fail
          refine (HS.out _).mono ?_
          rintro e w1 ⟨rfl, rfl⟩
          go_wp2_with (first
            | (refine load_row_w rfl 81 (.tmp 1) rfl w.heap.size rfl _ _ _ _ HBLK.out Try.underlying81 rfl (by rw [page5]; rfl) ?_)
            | (refine wpList_eql_agg rfl 81 _ (.tmp 13) (.tmp 19) rfl (pgA p) (pgA ⟨2, 0, m, n, s⟩) rfl rfl (by kernel_rfl) true (HEQ.out _) ?_)
            | fail)
          go_ret
          exact ⟨by rw [HP2.out]; rfl, HE.out⟩
      · have d2 : decide ((s : Int) > 0) = false := by simp; omega
        have i2 : ¬ 0 < (s : Int) := by omega
        have HP2 : Hid (headP p = false) := by show _ = _; rw [HP.out]; simp; omega
        clear h2
        go_enter Try.func80, Try.ntmps80
        go_wp2_with fail
        refine (HS.out _).mono ?_
        rintro e w1 ⟨rfl, rfl⟩
        go_wp2_with (first
          | (refine load_row_w rfl 81 (.tmp 1) rfl w.heap.size rfl _ _ _ _ HBLK.out Try.underlying81 rfl (by rw [page5]; rfl) ?_)
          | (refine wpList_eql_agg rfl 81 _ (.tmp 13) (.tmp 19) rfl (pgA p) (pgA ⟨2, 0, m, n, s⟩) rfl rfl (by kernel_rfl) true (HEQ.out _) ?_)
          | fail)
        go_ret
        exact ⟨by rw [HP2.out]; rfl, HE.out⟩
  · rw [if_neg h1] at HS
    rw [decide_eq_false h1] at HP
    clear h1
    go_enter Try.func80, Try.ntmps80
    go_wp2_with fail
    refine (HS.out _).mono ?_
    rintro e w1 ⟨rfl, rfl⟩
    go_wp2
    go_ret
    exact ⟨by rw [HP.out]; rfl, HE.out⟩
def mayK (p : Pg) : Nat → Bool
  | 0 => freeP p || slotsP p || headP p || tailP p
  | 1 => slotsP p || headP p || tailP p
  | 2 => headP p || tailP p
  | 3 => tailP p
  | _ => false
theorem oneP_order (p : Pg) : oneP p = (freeP p || slotsP p || headP p || tailP p) := rfl
set_option maxRecDepth 100000 in
set_option maxHeartbeats 4000000 in
theorem pgmay_c (p : Pg) (hsz : p.size < 4611686018427387904) (w : World) :
    Calls Try.prog 71 #[.agg (pgA p)] w fun e w' => e = .returned (.bool (oneP p)) ∧ Below w.heap.size w w' := by
  have HBLK := Lib.hid (heap_new' w (.cells (pgA p) 81))
  have HE := Lib.hid (below_box w (.cells (pgA p) 81))
  have HF := Lib.hid (fun w => pgfree_c p w)
  have HS := Lib.hid (fun w => pgslots_c p w)
  have HH := Lib.hid (fun w => pghead_c p hsz w)
  have HT := Lib.hid (fun w => pgtail_c p w)
  have HO := Lib.hid (oneP_order p)
  clear hsz
  go_enter Try.func71, Try.ntmps71
  go_wp2
  have HBF : Hid (((w.alloc (.cells (pgA p) 81)).alloc (.cells #[.func (.func 78) #[] #[], .func (.func 79) #[] #[], .func (.func 80) #[] #[], .func (.func 73) #[] #[]] 83)).heap[w.heap.size + 1]? = some (.cells #[.func (.func 78) #[] #[], .func (.func 79) #[] #[], .func (.func 80) #[] #[], .func (.func 73) #[] #[]] 83 (0, 0))) := by
    show _ = _; rw [show w.heap.size + 1 = (w.alloc (.cells (pgA p) 81)).heap.size by simp]; exact heap_new' _ _
  have HB0 : Hid (((w.alloc (.cells (pgA p) 81)).alloc (.cells #[.func (.func 78) #[] #[], .func (.func 79) #[] #[], .func (.func 80) #[] #[], .func (.func 73) #[] #[]] 83)).heap[w.heap.size]? = some (.cells (pgA p) 81 (0, 0))) := (heap_old' _ _ _ (by simp)).trans HBLK.out
  have HE0 : Hid (Below w.heap.size w ((w.alloc (.cells (pgA p) 81)).alloc (.cells #[.func (.func 78) #[] #[], .func (.func 79) #[] #[], .func (.func 80) #[] #[], .func (.func 73) #[] #[]] 83))) := HE.out.alloc (by simp) _
  generalize (w.alloc (.cells (pgA p) 81)).alloc (.cells #[.func (.func 78) #[] #[], .func (.func 79) #[] #[], .func (.func 80) #[] #[], .func (.func 73) #[] #[]] 83) = w0 at *
  go_loopw [7] (fun vi wr => ∃ k : Nat, k ≤ 4 ∧ vi = .int .i64 (k : Int) ∧ Hid (oneP p = mayK p k) ∧ Hid (wr.heap[w.heap.size + 1]? = some (.cells #[.func (.func 78) #[] #[], .func (.func 79) #[] #[], .func (.func 80) #[] #[], .func (.func 73) #[] #[]] 83 (0, 0))) ∧ Hid (wr.heap[w.heap.size]? = some (.cells (pgA p) 81 (0, 0))) ∧ Hid (Below w.heap.size w wr)) (fun vi _ => 4 - (intOf vi).toNat)
  case atStart => exact ⟨0, by omega, rfl, HO.out, HBF.out, HB0.out, HE0.out⟩
  case round =>
    clear HO HBF HB0 HE0 HBLK HE
    obtain ⟨k, hk, rfl, ho, hf, hb, hbel⟩ := hrel
    by_cases hlt : k < 4
    · have hd : decide ((k : Int) < 4) = true := by simp; omega
      have dl : (k : Int) < 4 := by omega
      have dk0 : ¬ (k : Int) < 0 := by omega
      have ek : IntKind.i64.wrap ((k : Int) + 1) = (k : Int) + 1 := IntWalk.i64_in _ (by omega)
      have hc : k = 0 ∨ k = 1 ∨ k = 2 ∨ k = 3 := by omega
      clear hk hlt
      rcases hc with hk | hk | hk | hk
      · have cc : wr.cell? ⟨w.heap.size + 1, k, none⟩ = some (.func (.func 78) #[] #[]) := by rw [cells_at hf.out k, hk]; rfl
        have ho2 := ho.out
        rw [hk] at ho2
        have HK := Lib.hid hk
        cases hr : freeP p with
        | true =>
          have HR : Hid (oneP p = true) := by show _ = _; rw [ho2]; simp [mayK, hr]
          have HC := Lib.hid HF.out
          rw [hr] at HC
          clear ho ho2 hk hr
          go_wp2_with (first
            | (refine wpList_load_row rfl 81 (.tmp 1) rfl w.heap.size rfl _ _ _ _ hb.out Try.underlying81 rfl (by rw [page5]; rfl) ?_)
            | fail)
          refine (HC.out wr).mono ?_
          rintro e w1 ⟨rfl, hb1⟩
          have HE1 : Hid (Below w.heap.size w w1) := hbel.out.trans (hb1.mono hbel.out.size)
          clear hb1 hbel hb hf
          go_wp2
          go_ret
          exact ⟨by rw [HR.out]; rfl, HE1.out⟩
        | false =>
          have HR : Hid (oneP p = mayK p (k + 1)) := by show _ = _; rw [ho2, hk]; simp [mayK, hr]
          have HC := Lib.hid HF.out
          rw [hr] at HC
          clear ho ho2 hk hr
          go_wp2_with (first
            | (refine wpList_load_row rfl 81 (.tmp 1) rfl w.heap.size rfl _ _ _ _ hb.out Try.underlying81 rfl (by rw [page5]; rfl) ?_)
            | fail)
          refine (HC.out wr).mono ?_
          rintro e w1 ⟨rfl, hb1⟩
          have HE1 : Hid (Below w.heap.size w w1) := hbel.out.trans (hb1.mono hbel.out.size)
          have HB1 := Lib.hid ((hb1.block _ (lt_of_block hb.out)).trans hb.out)
          have HF1 := Lib.hid ((hb1.block _ (lt_of_block hf.out)).trans hf.out)
          clear hb1 hbel hb hf
          go_wp2
          go_roundw
          case rel => exact ⟨k + 1, by have := HK.out; omega, by go_num, HR.out, HF1.out, HB1.out, HE1.out⟩
          case measure => simp [intOf]; have := HK.out; omega
      · have cc : wr.cell? ⟨w.heap.size + 1, k, none⟩ = some (.func (.func 79) #[] #[]) := by rw [cells_at hf.out k, hk]; rfl
        have ho2 := ho.out
        rw [hk] at ho2
        have HK := Lib.hid hk
        cases hr : slotsP p with
        | true =>
          have HR : Hid (oneP p = true) := by show _ = _; rw [ho2]; simp [mayK, hr]
          have HC := Lib.hid HS.out
          rw [hr] at HC
          clear ho ho2 hk hr
          go_wp2_with (first
            | (refine wpList_load_row rfl 81 (.tmp 1) rfl w.heap.size rfl _ _ _ _ hb.out Try.underlying81 rfl (by rw [page5]; rfl) ?_)
            | fail)
          refine (HC.out wr).mono ?_
          rintro e w1 ⟨rfl, hb1⟩
          have HE1 : Hid (Below w.heap.size w w1) := hbel.out.trans (hb1.mono hbel.out.size)
          clear hb1 hbel hb hf
          go_wp2
          go_ret
          exact ⟨by rw [HR.out]; rfl, HE1.out⟩
        | false =>
          have HR : Hid (oneP p = mayK p (k + 1)) := by show _ = _; rw [ho2, hk]; simp [mayK, hr]
          have HC := Lib.hid HS.out
          rw [hr] at HC
          clear ho ho2 hk hr
          go_wp2_with (first
            | (refine wpList_load_row rfl 81 (.tmp 1) rfl w.heap.size rfl _ _ _ _ hb.out Try.underlying81 rfl (by rw [page5]; rfl) ?_)
            | fail)
          refine (HC.out wr).mono ?_
          rintro e w1 ⟨rfl, hb1⟩
          have HE1 : Hid (Below w.heap.size w w1) := hbel.out.trans (hb1.mono hbel.out.size)
          have HB1 := Lib.hid ((hb1.block _ (lt_of_block hb.out)).trans hb.out)
          have HF1 := Lib.hid ((hb1.block _ (lt_of_block hf.out)).trans hf.out)
          clear hb1 hbel hb hf
          go_wp2
          go_roundw
          case rel => exact ⟨k + 1, by have := HK.out; omega, by go_num, HR.out, HF1.out, HB1.out, HE1.out⟩
          case measure => simp [intOf]; have := HK.out; omega
      · have cc : wr.cell? ⟨w.heap.size + 1, k, none⟩ = some (.func (.func 80) #[] #[]) := by rw [cells_at hf.out k, hk]; rfl
        have ho2 := ho.out
        rw [hk] at ho2
        have HK := Lib.hid hk
        cases hr : headP p with
        | true =>
          have HR : Hid (oneP p = true) := by show _ = _; rw [ho2]; simp [mayK, hr]
          have HC := Lib.hid HH.out
          rw [hr] at HC
          clear ho ho2 hk hr
          go_wp2_with (first
            | (refine wpList_load_row rfl 81 (.tmp 1) rfl w.heap.size rfl _ _ _ _ hb.out Try.underlying81 rfl (by rw [page5]; rfl) ?_)
            | fail)
          refine (HC.out wr).mono ?_
          rintro e w1 ⟨rfl, hb1⟩
          have HE1 : Hid (Below w.heap.size w w1) := hbel.out.trans (hb1.mono hbel.out.size)
          clear hb1 hbel hb hf
          go_wp2
          go_ret
          exact ⟨by rw [HR.out]; rfl, HE1.out⟩
        | false =>
          have HR : Hid (oneP p = mayK p (k + 1)) := by show _ = _; rw [ho2, hk]; simp [mayK, hr]
          have HC := Lib.hid HH.out
          rw [hr] at HC
          clear ho ho2 hk hr
          go_wp2_with (first
            | (refine wpList_load_row rfl 81 (.tmp 1) rfl w.heap.size rfl _ _ _ _ hb.out Try.underlying81 rfl (by rw [page5]; rfl) ?_)
            | fail)
          refine (HC.out wr).mono ?_
          rintro e w1 ⟨rfl, hb1⟩
          have HE1 : Hid (Below w.heap.size w w1) := hbel.out.trans (hb1.mono hbel.out.size)
          have HB1 := Lib.hid ((hb1.block _ (lt_of_block hb.out)).trans hb.out)
          have HF1 := Lib.hid ((hb1.block _ (lt_of_block hf.out)).trans hf.out)
          clear hb1 hbel hb hf
          go_wp2
          go_roundw
          case rel => exact ⟨k + 1, by have := HK.out; omega, by go_num, HR.out, HF1.out, HB1.out, HE1.out⟩
          case measure => simp [intOf]; have := HK.out; omega
      · have cc : wr.cell? ⟨w.heap.size + 1, k, none⟩ = some (.func (.func 73) #[] #[]) := by rw [cells_at hf.out k, hk]; rfl
        have ho2 := ho.out
        rw [hk] at ho2
        have HK := Lib.hid hk
        cases hr : tailP p with
        | true =>
          have HR : Hid (oneP p = true) := by show _ = _; rw [ho2]; simp [mayK, hr]
          have HC := Lib.hid HT.out
          rw [hr] at HC
          clear ho ho2 hk hr
          go_wp2_with (first
            | (refine wpList_load_row rfl 81 (.tmp 1) rfl w.heap.size rfl _ _ _ _ hb.out Try.underlying81 rfl (by rw [page5]; rfl) ?_)
            | fail)
          refine (HC.out wr).mono ?_
          rintro e w1 ⟨rfl, hb1⟩
          have HE1 : Hid (Below w.heap.size w w1) := hbel.out.trans (hb1.mono hbel.out.size)
          clear hb1 hbel hb hf
          go_wp2
          go_ret
          exact ⟨by rw [HR.out]; rfl, HE1.out⟩
        | false =>
          have HR : Hid (oneP p = mayK p (k + 1)) := by show _ = _; rw [ho2, hk]; simp [mayK, hr]
          have HC := Lib.hid HT.out
          rw [hr] at HC
          clear ho ho2 hk hr
          go_wp2_with (first
            | (refine wpList_load_row rfl 81 (.tmp 1) rfl w.heap.size rfl _ _ _ _ hb.out Try.underlying81 rfl (by rw [page5]; rfl) ?_)
            | fail)
          refine (HC.out wr).mono ?_
          rintro e w1 ⟨rfl, hb1⟩
          have HE1 : Hid (Below w.heap.size w w1) := hbel.out.trans (hb1.mono hbel.out.size)
          have HB1 := Lib.hid ((hb1.block _ (lt_of_block hb.out)).trans hb.out)
          have HF1 := Lib.hid ((hb1.block _ (lt_of_block hf.out)).trans hf.out)
          clear hb1 hbel hb hf
          go_wp2
          go_roundw
          case rel => exact ⟨k + 1, by have := HK.out; omega, by go_num, HR.out, HF1.out, HB1.out, HE1.out⟩
          case measure => simp [intOf]; have := HK.out; omega
    · have hk4 : k = 4 := by omega
      have hd : decide ((k : Int) < 4) = false := by simp; omega
      have dl : ¬ (k : Int) < 4 := by omega
      have HR : Hid (oneP p = false) := by show _ = _; rw [ho.out, hk4]; rfl
      clear ho hk4 hk hlt
      go_wp2
      go_ret
      exact ⟨by rw [HR.out]; rfl, hbel.out⟩
set_option maxRecDepth 100000 in
set_option maxHeartbeats 1000000 in
theorem pgbad_c (p : Pg) (hsz : p.size < 4611686018427387904) (w : World) :
    Calls Try.prog 51 #[.agg (pgA p)] w fun e w' => e = .returned (.bool (!oneP p)) ∧ Below w.heap.size w w' := by
  have HBLK := Lib.hid (heap_new' w (.cells (pgA p) 81))
  have HE := Lib.hid (below_box w (.cells (pgA p) 81))
  have HM := Lib.hid (fun w => pgmay_c p hsz w)
  clear hsz
  generalize oneP p = r at *
  go_enter Try.func51, Try.ntmps51
  go_wp2_with (first
    | (refine wpList_load_row rfl 81 (.tmp 1) rfl w.heap.size rfl _ _ _ _ HBLK.out Try.underlying81 rfl (by rw [page5]; rfl) ?_)
    | fail)
  refine (HM.out _).mono ?_
  rintro e w1 ⟨rfl, hb1⟩
  have HE1 : Hid (Below w.heap.size w w1) := HE.out.trans (hb1.mono HE.out.size)
  clear hb1
  go_wp2
  go_ret
  exact ⟨rfl, HE1.out⟩
end Go.Proofs.Ytpbmjfjnmcpieaa
