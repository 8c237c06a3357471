/- The law's awake (05). -/
import Derived.Test.YtnmjkdmhfogeiaaAesW
set_option linter.unusedVariables false
set_option linter.unusedSimpArgs false
namespace Go.Proofs.Ytnmjkdmhfogeiaa
open Go Go.RowKit GfM
def zr16 : List Nat := List.replicate 16 0
def p17 (i : Nat) : Nat := 17 * i
theorem own_keep {W W' : World} {base : Nat} {e : TypeId} {sz : Nat} {v : Value} {n : Nat} {xs : List Value} (h : W.ownsRow base e sz v n xs) (hb : ∀ k, base ≤ k → k < W.heap.size → W'.heap[k]? = W.heap[k]?) : W'.ownsRow base e sz v n xs := by
  refine ⟨h.1, ?_⟩
  rcases h.2 with h | ⟨g, cap, cur, e1, e2, e3, e4⟩
  · exact .inl h
  · exact .inr ⟨g, cap, cur, e1, e2, (hb g e2 (lt_of_block e3)).trans e3, e4⟩
set_option maxRecDepth 100000 in
set_option maxHeartbeats 2000000 in
theorem awake05_c (w : World) : Calls Try.prog 49 #[] w fun e w' => e = .returned (.bool true) ∧ Below w.heap.size w w' := by
  obtain ⟨i0, hi, hz0, hz1, hz2⟩ := info_parts u8info
  have B0 : Hid ((w.alloc (Obj.cells (bA (upd p17 zr16 0)) 44)).heap[w.heap.size]? = some (.cells (bA (upd p17 zr16 0)) 44 (0, 0))) := heap_new' _ _
  go_enter Try.func49, Try.ntmps49
  go_wp2
  go_loopw [2, 7] (fun vs vi wr => ∃ k : Nat, k ≤ 16 ∧ vi = .int .i64 k ∧ Hid (wr.heap[w.heap.size]? = some (.cells (bA (upd p17 zr16 k)) 44 (0, 0))) ∧ Hid (wr.ownsRow (w.heap.size + 1) 5 1 vs k (bA (List.range k)).toList) ∧ Hid (Below w.heap.size w wr)) (fun _ vi _ => 16 - (intOf vi).toNat)
  case atStart => exact ⟨0, by omega, rfl, B0.out, ⟨rfl, .inl ⟨rfl, rfl⟩⟩, (Below.refl _ _).alloc (Nat.le_refl _) _⟩
  case round =>
    clear B0
    obtain ⟨k, hk, rfl, h0, h1, hbel⟩ := hrel
    by_cases hlt : k < 16
    · have hd : decide ((k : Int) < 16) = true := by simp; omega
      have f0 := free_at h0.out k
      have c0 := (cells_at h0.out k).trans (bA_get (upd p17 zr16 k) k (by rw [upd_len _ _ _ (by simpa [zr16] using hk)]; simpa [zr16] using hlt))
      have hset : ∀ x q, w.heap.size + 1 ≤ q → q < wr.heap.size → (wr.setCell ⟨w.heap.size, k, none⟩ x).heap[q]? = wr.heap[q]? := fun x q hq _ => Below.heap_setCell _ _ _ _ (by simp; omega)
      have e1 : IntKind.u8.wrap (17 * (k : Int)) = ((17 * k : Nat) : Int) := by rw [IntKind.wrap_u8]; omega
      have e2 : IntKind.u8.wrap (k : Int) = (k : Int) := by rw [IntKind.wrap_u8]; omega
      have HOW : Hid (∀ x y, ((wr.setCell ⟨w.heap.size, k, none⟩ x).alloc (.cells #[y] 5)).ownsRow (w.heap.size + 1) 5 1 u2 k (bA (List.range k)).toList) := fun x y => own_keep h1.out (fun q hq hq2 => (heap_old' _ _ _ (by simp [World.setCell]; exact hq2)).trans (hset x q hq hq2))
      have HNW : Hid (∀ x y, ((wr.setCell ⟨w.heap.size, k, none⟩ x).alloc (.cells #[y] 5)).heap[wr.heap.size]? = some (.cells #[y] 5 (0, 0))) := fun x y => by
        have := heap_new' (wr.setCell ⟨w.heap.size, k, none⟩ x) (.cells #[y] 5)
        rw [show (wr.setCell ⟨w.heap.size, k, none⟩ x).heap.size = wr.heap.size by simp [World.setCell]] at this
        exact this
      have zw : w.heap.size + 1 ≤ wr.heap.size := lt_of_block h0.out
      have n0 := block_at h0.out k (.int .u8 ((17 * k : Nat) : Int))
      rw [bA_set, show (upd p17 zr16 k).set k (17 * k) = upd p17 zr16 (k + 1) from upd_set p17 zr16 k (by simpa [zr16] using hlt)] at n0
      have nb := hbel.out.setCell (p := ⟨w.heap.size, k, none⟩) (by simp) (.int .u8 ((17 * k : Nat) : Int))
      have ns : (wr.setCell ⟨w.heap.size, k, none⟩ (.int .u8 ((17 * k : Nat) : Int))).heap.size = wr.heap.size := by simp [World.setCell]
      have N0 := Lib.hid n0
      have NB := Lib.hid nb
      have NS := Lib.hid ns
      clear n0 nb ns
      go_wp2_with (refine wpList_append_lies _ rfl (.tmp 15) (.tmp 18) 71 rfl (w.heap.size + 1) 5 i0 _ 1 1 Try.underlying71 hi hz0 hz1 hz2 rfl (by omega) u2 k _ rfl (HOW.out _ _) ⟨wr.heap.size, 0, none⟩ 1 1 [.int .u8 (k : Int)] rfl rfl (World.news_of_block (HNW.out _ _)) (by simp [Value.oneCell']) (by omega) (by unfold maxLen; omega) (by omega) (by simp [World.setCell]; omega) _ rfl ?_; intro g cap w1 hown1 hgrow hat hlt1)
      go_roundw
      case rel =>
        refine ⟨k + 1, by omega, by go_num, ?_, ?_, ?_⟩
        · exact (hgrow.block _ (by rw [World.size_alloc]; simp [World.setCell]; omega) (fun e => by have := own_ge h1.out _ e.symm; omega)).trans ((heap_old' _ _ _ (by simp [World.setCell]; omega)).trans N0.out)
        · have e : (bA (List.range (k + 1))).toList = (bA (List.range k)).toList ++ [.int .u8 (k : Int)] := by simp [bA, List.range_succ]
          rw [e]; exact hown1
        · exact (NB.out.alloc (by rw [NS.out]; omega) _).grown hgrow (by rw [World.size_alloc]; simp [World.setCell]; omega) (fun q e => by have := own_ge h1.out q e; omega)
      case measure => simp [intOf]; omega
    · obtain rfl : k = 16 := by omega
      have hd : decide (((16 : Nat) : Int) < 16) = false := by simp
      have hL : upd p17 zr16 16 = (List.range 16).map fun i => 17 * i := upd_full p17 zr16 16 (by simp [zr16])
      rw [hL] at h0
      rcases h1.out.2 with ⟨_, hz⟩ | ⟨g', cap', cur, rfl, e2, e3, e4, e5, e6, e7⟩
      · omega
      · have hkk : ∀ j, j < (List.range 16).length → wr.cell? ⟨g', 0 + j, none⟩ = some (.int .u8 (((List.range 16).getD j 0 : Nat) : Int)) := fun j hj => by
          rw [Nat.zero_add, cells_at e3 j]
          have := congrArg (fun l => l[j]?) e7
          simp only [Nat.mul_one] at this
          rw [List.getElem?_take_of_lt (by simpa using hj), Array.getElem?_toList, Array.getElem?_toList, bA_get _ j hj] at this
          exact this
        have HKK := Lib.hid hkk
        have HG := Lib.hid (lt_of_block e3)
        have HE4 := Lib.hid e4
        have HZ := Lib.hid (lt_of_block h0.out)
        clear hkk e2 e3 e4 e5 e6 e7 h1 hL hi hz0 hz1 hz2
        go_wp2_with fail
        refine (newbox_c wr).mono ?_
        rintro e w1 ⟨rfl, hbx, hlt1, hb1⟩
        have HBX := Lib.hid hbx
        have HK1 : Hid (∀ j, j < (List.range 16).length → w1.cell? ⟨g', 0 + j, none⟩ = some (.int .u8 (((List.range 16).getD j 0 : Nat) : Int))) := fun j hj => (hb1.cell (p := ⟨g', 0 + j, none⟩) HG.out).trans (HKK.out j hj)
        have H01 := Lib.hid ((hb1.block _ (lt_of_block h0.out)).trans h0.out)
        have HB1 : Hid (Below w.heap.size w w1) := hbel.out.trans (hb1.mono hbel.out.size)
        have HS1 := Lib.hid hlt1
        clear hbx hb1 HKK hlt1
        go_wp2_with fail
        refine (new_c wr.heap.size g' 0 cap' (List.range 16) (Or.inl rfl) (by simp; omega) HE4.out w1 HBX.out (Nat.lt_trans HG.out HS1.out) HK1.out).mono ?_
        rintro e w2 ⟨c, gg, n, cp, rfl, hC, hcc, hgg, hb2⟩
        have HC := Lib.hid hC
        have H02 := Lib.hid ((hb2.block _ (lt_of_block H01.out)).trans H01.out)
        have HB2 : Hid (Below w.heap.size w w2) := HB1.out.trans (hb2.mono HB1.out.size)
        have HX : Hid (By ((List.range 16).map fun i => 17 * i)) := ⟨by simp, fun j hj => by simp [hj]; omega⟩
        clear hC hcc hgg hb2 hbel H01 h0
        go_wp2_with (first
          | (refine wpList_load_row rfl 44 (.tmp 1) rfl w.heap.size rfl _ _ _ _ H02.out Try.underlying44 rfl (by rw [zero16', bA_size, HX.out.1]) ?_)
          | fail)
        refine (enc_c (key := List.range 16) (l := (List.range 16).map fun i => 17 * i) (Or.inl rfl) HX.out w2 HC.out).mono ?_
        rintro e w3 ⟨rfl, hb3⟩
        obtain ⟨X, hX⟩ : ∃ X, X = encK (List.range 16) ((List.range 16).map fun i => 17 * i) := ⟨_, rfl⟩
        obtain ⟨x0, x1, x15⟩ := ex05
        rw [← hX] at x0 x1 x15 ⊢
        have hXl : X.length = 16 := by rw [hX]; simp [encK, encL, keyL]
        have hc0 : ∀ W' : World, W'.heap[w3.heap.size]? = some (.cells (bA X) 44 (0, 0)) → W'.cell? ⟨w3.heap.size, 0, none⟩ = some (.int .u8 105) ∧ W'.cell? ⟨w3.heap.size, 1, none⟩ = some (.int .u8 196) ∧ W'.cell? ⟨w3.heap.size, 15, none⟩ = some (.int .u8 90) := fun W' h =>
          ⟨(cells_at h 0).trans (by rw [bA_get X 0 (by omega), x0]; rfl), (cells_at h 1).trans (by rw [bA_get X 1 (by omega), x1]; rfl), (cells_at h 15).trans (by rw [bA_get X 15 (by omega), x15]; rfl)⟩
        have HC0 := Lib.hid hc0
        have HXL := Lib.hid hXl
        have HB3 : Hid (Below w.heap.size w w3) := HB2.out.trans (hb3.mono HB2.out.size)
        clear hc0 x0 x1 x15 hX hXl hb3
        go_wp2_with (first
          | (refine wpList_store_row rfl 44 (.tmp 6) (.tmp 29) rfl w3.heap.size _ rfl rfl 44 _ (heap_new' _ _) (by rw [zero16', bA_size, HXL.out]) (by rw [bA_size, HXL.out]; rfl) (bA_one _) ?_; generalize hW5 : World.setRow _ _ _ = W5; obtain ⟨q0, q1, q2⟩ := HC0.out W5 (by rw [← hW5]; exact setRow_heap _ _ _ _ _ _ (heap_new' w3 _)); have HB5 : Hid (Below w.heap.size w W5) := (by rw [← hW5]; exact below_setRow (HB3.out.alloc HB3.out.size _) HB3.out.size _); clear hW5)
          | fail)
        go_ret
        exact ⟨rfl, HB5.out⟩
end Go.Proofs.Ytnmjkdmhfogeiaa
