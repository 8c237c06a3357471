/- Texts RefE, put together by pack.py. -/
import Derived.Test.YtinjafacnekkcaaSPm
set_option linter.unusedVariables false
set_option linter.unusedSimpArgs false
namespace Go.Proofs.Ytinjafacnekkcaa
open Go Go.RowKit GfM
theorem getD_lt' {l : List Nat} (h : ∀ x ∈ l, x < 256) (j : Nat) : l.getD j 0 < 256 := by
  rw [List.getD_eq_getElem?_getD]
  rcases Nat.lt_or_ge j l.length with hj | hj
  · rw [List.getElem?_eq_getElem hj]; exact h _ (List.getElem_mem _)
  · rw [List.getElem?_eq_none hj]; decide
theorem shsub_at (S : List Nat) (a b : Nat) (ha : a < 4) (hb : b < 4) : (shiftL (ssubL S)).getD (4 * b + a) 0 = sbx (S.getD (4 * ((b + a) % 4) + a) 0) := by
  unfold shiftL
  rw [get_map16 _ _ (by omega)]
  unfold ssubL
  rw [get_map16 _ _ (by unfold sig; omega), show sig (4 * b + a) = 4 * ((b + a) % 4) + a by unfold sig; omega]
theorem key_at (M W : List Nat) (n i : Nat) (h : i < 16) : (keyL M W n).getD i 0 = M.getD i 0 ^^^ W.getD (16 * n + i) 0 := by
  unfold keyL; rw [get_map16 _ _ h]
/-- the square behind i rounds -/
def stR (W p : List Nat) (r i : Nat) : List Nat := if i < r then encS W p i else encL W r p
theorem stR_last (W p : List Nat) (r : Nat) : stR W p r r = encL W r p := by unfold stR; rw [if_neg (by omega)]
theorem stR_mid (W p : List Nat) (r i : Nat) (h : i < r) : stR W p r i = encS W p i := by unfold stR; rw [if_pos h]
theorem stR_end (W p : List Nat) (r i : Nat) (h : i + 1 = r) : keyL (shiftL (ssubL (encS W p i))) W (i + 1) = stR W p r (i + 1) := by
  subst h; rw [stR_last]; rfl
theorem stR_step (W p : List Nat) (r i : Nat) (h : i + 1 < r) : keyL (smixL (shiftL (ssubL (encS W p i)))) W (i + 1) = stR W p r (i + 1) := by
  rw [stR_mid _ _ _ _ h]; rfl
theorem sq_set2 (f : Nat → Nat) (O : List Nat) (hO : O.length = 16) (a b v : Nat) (ha : a < 4) (hb : b < 4) (hf : f (a * 4 + b) = v) : (bA (upd f O (a * 4 + b))).setIfInBounds (a * 4 + b) (.int .u8 (v : Int)) = bA (upd f O (a * 4 + (b + 1))) := by
  rw [bA_set, ← hf, upd_set _ _ _ (by omega)]; rfl
theorem upd_len16 (f : Nat → Nat) (O : List Nat) (hO : O.length = 16) (i : Nat) (h : i ≤ 16) : (upd f O i).length = 16 := by rw [upd_len _ _ _ (by omega), hO]
theorem upd_id (S : List Nat) (hS : S.length = 16) (O : List Nat) (hO : O.length = 16) : upd (fun k => S.getD k 0) O 16 = S := by
  rw [upd_full _ _ 16 hO]
  exact ext16 (by simp) hS fun j hj => get_map16 _ _ hj
def sqF (X : List Nat) (i : Nat) : Nat := X.getD (tr i) 0
theorem upd_sqF (X O : List Nat) (hO : O.length = 16) : upd (sqF X) O 16 = sqL X := by rw [upd_full _ _ 16 hO]; rfl
theorem sqF_at (X : List Nat) (a b : Nat) (ha : a < 4) (hb : b < 4) : sqF X (a * 4 + b) = X.getD (4 * b + a) 0 := by unfold sqF; rw [tr_rk a b ha hb]
set_option maxRecDepth 100000 in
set_option maxHeartbeats 16000000 in
theorem renc_c (c g nw cap r : Nat) (W p : List Nat) (hp : By p) (hr1 : 1 ≤ r) (hr : 16 * r + 16 ≤ W.length) (hr2 : r < 100) (w : World) (hC : RCip w c g nw cap r W) :
    Calls Try.prog 50 #[.pointer (some ⟨c, 0, none⟩), .agg (bA p)] w fun e w' => e = .returned (.agg (bA (encL W r p))) ∧ Below w.heap.size w w' := by
  have HP := Lib.hid hp
  have HC := Lib.hid hC
  have HB := Lib.hid hC.fbyte
  have hnw := hC.flen
  have hncap := hC.fcap
  have hcm := hC.fcapm
  unfold maxLen at hcm
  have hn4 : 4 * r + 4 ≤ nw := by omega
  have hES : Hid (∀ i, i ≤ r → By (encS W p i)) := fun i hi => encS_by W p hp hC.fbyte i (by omega)
  have b0 : ∀ (o1 o2 : Obj), (((w.alloc (Obj.cells (bA p) 22)).alloc o1).alloc o2).heap[w.heap.size]? = some (.cells (bA p) 22 (0, 0)) := fun o1 o2 => by
    rw [heap_old' _ _ _ (by simp <;> omega), heap_old' _ _ _ (by simp), heap_new']
  have b1 : ∀ (o0 o2 : Obj) (Z : Array Value), (((w.alloc o0).alloc (Obj.cells Z 22)).alloc o2).heap[w.heap.size + 1]? = some (.cells Z 22 (0, 0)) := fun o0 o2 Z => by
    rw [heap_old' _ _ _ (by simp), show w.heap.size + 1 = (w.alloc o0).heap.size by simp, heap_new']
  have b2 : ∀ (o0 o1 : Obj), (((w.alloc o0).alloc o1).alloc (Obj.cells #[.int .u8 0, .int .u8 0, .int .u8 0, .int .u8 0, .int .u8 0, .int .u8 0, .int .u8 0, .int .u8 0, .int .u8 0, .int .u8 0, .int .u8 0, .int .u8 0, .int .u8 0, .int .u8 0, .int .u8 0, .int .u8 0] 118)).heap[w.heap.size + 1 + 1]? = some (.cells (bA (sqL (upd (fun k => p.getD k 0 ^^^ W.getD (16 * 0 + k) 0) (List.replicate 16 0) 0))) 118 (0, 0)) := fun o0 o1 => by
    rw [upd_zero, sq_zero, show w.heap.size + 1 + 1 = ((w.alloc o0).alloc o1).heap.size by simp, heap_new']; rfl
  have HBW : Hid (∀ (o0 o1 o2 : Obj), Below w.heap.size w (((w.alloc o0).alloc o1).alloc o2)) := fun o0 o1 o2 => (((Below.refl _ _).alloc (Nat.le_refl _) _).alloc (by simp) _).alloc (by simp <;> omega) _
  have B0 := Lib.hid b0
  have B1 := Lib.hid b1
  have B2 := Lib.hid b2
  have HNW := Lib.hid hnw
  clear b0 b1 b2 hp hC hnw
  go_enter Try.func50, Try.ntmps50
  go_wp2
  go_loopw [6] (fun vi wr => ∃ k : Nat, k ≤ 16 ∧ vi = .int .i64 (k : Int) ∧ Hid (wr.heap[w.heap.size]? = some (.cells (bA p) 22 (0, 0))) ∧ Hid (∃ Z, Z.size = 16 ∧ wr.heap[w.heap.size + 1]? = some (.cells Z 22 (0, 0))) ∧
    Hid (wr.heap[w.heap.size + 1 + 1]? = some (.cells (bA (sqL (upd (fun k => p.getD k 0 ^^^ W.getD (16 * 0 + k) 0) (List.replicate 16 0) k))) 118 (0, 0))) ∧ Hid (Below w.heap.size w wr)) (fun vi _ => 16 - (intOf vi).toNat)
  case atStart => exact ⟨0, by omega, rfl, B0.out _ _, ⟨_, rfl, B1.out _ _ _⟩, B2.out _ _, HBW.out _ _ _⟩
  case round =>
    clear B0 B1 B2 HBW
    obtain ⟨k, hk, rfl, h0, h1, h2, hbel⟩ := hrel
    by_cases hlt : k < 16
    · have hd : decide ((k : Int) < 16) = true := by simp; omega
      obtain ⟨q, hq⟩ : ∃ q, q = k / 4 := ⟨_, rfl⟩
      obtain ⟨m, hm⟩ : ∃ m, m = k % 4 := ⟨_, rfl⟩
      have hCr := HC.out.up hbel.out (Nat.le_refl _)
      have c1 := hCr.ws
      have c2 := hCr.wd (q * 4 + m) (by have := HNW.out; omega)
      have c0 := (cells_at h0.out k).trans (bA_get p k (by rw [HP.out.1]; exact hlt))
      have hlen := upd_len16 (fun k => p.getD k 0 ^^^ W.getD (16 * 0 + k) 0) (List.replicate 16 0) (by simp) k hk
      have hvu : (fun k => p.getD k 0 ^^^ W.getD (16 * 0 + k) 0) k = p.getD k 0 ^^^ W.getD (q * 4 + m) 0 := by
        show p.getD k 0 ^^^ W.getD (16 * 0 + k) 0 = _
        rw [show 16 * 0 + k = q * 4 + m by omega]
      have x0l := HP.out.2 k hlt
      have x1l := getD_lt' HB.out (q * 4 + m)
      generalize p.getD k 0 = x0 at c0 hvu x0l
      generalize W.getD (q * 4 + m) 0 = x1 at c2 hvu x1l
      have hx : bits BinOp.xor IntKind.u8 (x0 : Int) (x1 : Int) = ((x0 ^^^ x1 : Nat) : Int) := u8x rfl rfl x0l x1l
      generalize hy : x0 ^^^ x1 = y at hx hvu
      have f0 := free_at h2.out (m * 4 + q)
      have cc := (cells_at h2.out (m * 4 + q)).trans (bA_get _ _ (by rw [sqL_len]; omega))
      have n0 := block_at h2.out (m * 4 + q) (.int .u8 (y : Int))
      rw [sq_store _ hlen m q y (by omega) (by omega), show 4 * q + m = k by omega, ← hvu, upd_set _ _ _ (by simp; omega), hvu] at n0
      have N0 := Lib.hid n0
      have e2 : IntKind.i64.wrap ((k : Int) / 4) = (q : Int) := by rw [IntWalk.i64_in _ (by omega)]; omega
      have e3 : (k : Int).tmod 4 = (m : Int) := by rw [Int.tmod_eq_emod_of_nonneg (by omega)]; omega
      have d6 : (k : Int) < 16 := by omega
      have d7 : (m : Int) < 4 := by omega
      have d8 : (q : Int) < 4 := by omega
      have d9 : (q : Int) < (nw : Int) := by omega
      have hwsz := lt_of_block h2.out
      clear hq hm hCr hlen hvu hy x0l x1l n0
      go_wp2
      refine wp_region_still_tail 21 (by kernel_rfl) (by kernel_rfl) ?_
      simp only [List.take_succ_cons, List.take_zero, List.drop_succ_cons, List.drop_zero]
      change wpStill _ _ wr.drew _ _ _
      repeat still_step
      refine wpStill_nil ?_
      change wpList _ _ _ _ _ wr.drew
      go_wp2
      go_roundw
      case rel =>
        obtain ⟨Z, hZ, hZ2⟩ := h1.out
        exact ⟨k + 1, by omega, by go_num, (Below.heap_setCell _ _ _ _ (by simp <;> omega)).trans h0.out, ⟨Z, hZ, (Below.heap_setCell _ _ _ _ (by simp <;> omega)).trans hZ2⟩, N0.out, hbel.out.drew.setCell (by simp <;> omega) _⟩
      case measure => simp [intOf]; omega
    · have hk16 : k = 16 := by omega
      have hd : decide ((k : Int) < 16) = false := by simp; omega
      have h3 := h2.out
      rw [hk16, upd_full _ _ 16 (by simp)] at h3
      have H3 : Hid (wr.heap[w.heap.size + 1 + 1]? = some (.cells (bA (sqL (stR W p r 0))) 118 (0, 0))) := by rw [stR_mid _ _ _ _ (by omega)]; exact h3
      clear h2 h3 h0 hk16
      go_wp2
      go_loopw [7] (fun vi wr => ∃ i : Nat, i ≤ r ∧ vi = .int .i64 ((i + 1 : Nat) : Int) ∧ Hid (∃ Z, Z.size = 16 ∧ wr.heap[w.heap.size + 1]? = some (.cells Z 22 (0, 0))) ∧
        Hid (wr.heap[w.heap.size + 1 + 1]? = some (.cells (bA (sqL (stR W p r i))) 118 (0, 0))) ∧ Hid (Below w.heap.size w wr)) (fun vi _ => r + 1 - (intOf vi).toNat)
      case atStart => exact ⟨0, by omega, rfl, h1, H3, hbel⟩
      case round =>
        clear h1 H3 hbel
        obtain ⟨i, hi, rfl, h1, h2, hbel⟩ := hrel
        obtain ⟨n, hn⟩ : ∃ n, n = i + 1 := ⟨_, rfl⟩
        have HN := Lib.hid hn
        rw [← hn]
        clear hn
        have hCr := HC.out.up hbel.out (Nat.le_refl _)
        have c3 := hCr.rs
        by_cases hlt : i < r
        · have hd : (n : Int) ≤ (r : Int) := by have := HN.out; omega
          obtain ⟨S, hS⟩ : ∃ S, S = stR W p r i := ⟨_, rfl⟩
          have HSS := Lib.hid hS
          have HSB : Hid (By S) := by rw [hS, stR_mid _ _ _ _ hlt]; exact hES.out i (by omega)
          have HSE : Hid (S = encS W p i) := by rw [hS, stR_mid _ _ _ _ hlt]; exact rfl
          rw [← hS] at h2
          have HX : Hid (By (shiftL (ssubL S))) := stp_shift.okay _ (stp_sub.okay _ HSB.out)
          obtain ⟨tb, htb⟩ : ∃ tb, tb = wr.heap.size := ⟨_, rfl⟩
          have hT0 : ∀ w1, w1 = wr.alloc (.cells #[.int .u8 0, .int .u8 0, .int .u8 0, .int .u8 0, .int .u8 0, .int .u8 0, .int .u8 0, .int .u8 0, .int .u8 0, .int .u8 0, .int .u8 0, .int .u8 0, .int .u8 0, .int .u8 0, .int .u8 0, .int .u8 0] 118) → w1.heap[tb]? = some (.cells (bA (upd (sqF (shiftL (ssubL S))) (List.replicate 16 0) (0 * 4))) 118 (0, 0)) := fun w1 h => by
            rw [h, htb, heap_new', Nat.zero_mul, upd_zero]; rfl
          have hK0 : ∀ w1, w1 = wr.alloc (.cells #[.int .u8 0, .int .u8 0, .int .u8 0, .int .u8 0, .int .u8 0, .int .u8 0, .int .u8 0, .int .u8 0, .int .u8 0, .int .u8 0, .int .u8 0, .int .u8 0, .int .u8 0, .int .u8 0, .int .u8 0, .int .u8 0] 118) → ∀ q x, wr.heap[q]? = some x → w1.heap[q]? = some x := fun w1 h q x hx => by
            rw [h]; exact (heap_old' _ _ _ (by
              rcases Nat.lt_or_ge q wr.heap.size with h | h
              · exact h
              · rw [Array.getElem?_eq_none h] at hx; cases hx)).trans hx
          have HT0 := Lib.hid hT0
          have HK0 := Lib.hid hK0
          have hszt : w.heap.size + 1 + 1 < tb := by rw [htb]; exact lt_of_block h2.out
          have HBA : Hid (Below w.heap.size w (wr.alloc (.cells #[.int .u8 0, .int .u8 0, .int .u8 0, .int .u8 0, .int .u8 0, .int .u8 0, .int .u8 0, .int .u8 0, .int .u8 0, .int .u8 0, .int .u8 0, .int .u8 0, .int .u8 0, .int .u8 0, .int .u8 0, .int .u8 0] 118))) := hbel.out.alloc hbel.out.size _
          have HTB := Lib.hid htb
          clear hS hT0 hK0 hCr c3 htb
          have c3 : wr.cell? ⟨c, 513, none⟩ = some (.int .i64 (r : Int)) := (HC.out.up hbel.out (Nat.le_refl _)).rs
          go_wp2
          rw [← HTB.out]
          go_loopw [9] (fun vi wr => ∃ a : Nat, a ≤ 4 ∧ vi = .int .i64 (a : Int) ∧ Hid (∃ Z, Z.size = 16 ∧ wr.heap[w.heap.size + 1]? = some (.cells Z 22 (0, 0))) ∧
            Hid (wr.heap[w.heap.size + 1 + 1]? = some (.cells (bA (sqL S)) 118 (0, 0))) ∧ Hid (wr.heap[tb]? = some (.cells (bA (upd (sqF (shiftL (ssubL S))) (List.replicate 16 0) (a * 4))) 118 (0, 0))) ∧ Hid (Below w.heap.size w wr)) (fun vi _ => 4 - (intOf vi).toNat)
          case atStart =>
            obtain ⟨Z, hZ, hZ2⟩ := h1.out
            exact ⟨0, by omega, rfl, ⟨Z, hZ, HK0.out _ rfl _ _ hZ2⟩, HK0.out _ rfl _ _ h2.out, HT0.out _ rfl, HBA.out⟩
          case round =>
            clear h1 h2 hbel HT0 HK0 HBA c3 HTB
            obtain ⟨a, ha, rfl, h1, h2, h3, hbel⟩ := hrel
            by_cases hla : a < 4
            · have hda : decide ((a : Int) < 4) = true := by simp; omega
              go_wp2
              go_loopw [10] (fun vi wr => ∃ b : Nat, b ≤ 4 ∧ vi = .int .i64 (b : Int) ∧ Hid (∃ Z, Z.size = 16 ∧ wr.heap[w.heap.size + 1]? = some (.cells Z 22 (0, 0))) ∧
                Hid (wr.heap[w.heap.size + 1 + 1]? = some (.cells (bA (sqL S)) 118 (0, 0))) ∧ Hid (wr.heap[tb]? = some (.cells (bA (upd (sqF (shiftL (ssubL S))) (List.replicate 16 0) (a * 4 + b))) 118 (0, 0))) ∧ Hid (Below w.heap.size w wr)) (fun vi _ => 4 - (intOf vi).toNat)
              case atStart => exact ⟨0, by omega, rfl, h1, h2, h3, hbel⟩
              case round =>
                clear h1 h2 h3 hbel
                obtain ⟨b, hb, rfl, h1, h2, h3, hbel⟩ := hrel
                by_cases hlb : b < 4
                · have hdb : decide ((b : Int) < 4) = true := by simp; omega
                  obtain ⟨v, hv⟩ : ∃ v, v = (b + a) % 4 := ⟨_, rfl⟩
                  have q0 := sq_cell h2.out a v hla (by omega)
                  have hval : sqF (shiftL (ssubL S)) (a * 4 + b) = sbx (S.getD (4 * v + a) 0) := by rw [sqF_at _ a b hla hlb, shsub_at S a b hla hlb, hv]
                  have x0l := HSB.out.2 (4 * v + a) (by omega)
                  generalize S.getD (4 * v + a) 0 = x0 at q0 hval x0l
                  have hCr := HC.out.up hbel.out (Nat.le_refl _)
                  have c4 := hCr.bx x0 x0l
                  generalize sbx x0 = y at c4 hval
                  have e1 : IntKind.i64.wrap ((b : Int) + (a : Int)) = (b : Int) + (a : Int) := IntWalk.i64_in _ (by omega)
                  have e3 : ((b : Int) + (a : Int)).tmod 4 = (v : Int) := by rw [Int.tmod_eq_emod_of_nonneg (by omega)]; omega
                  have d1 : (a : Int) < 4 := by omega
                  have d2 : (b : Int) < 4 := by omega
                  have d3 : (v : Int) < 4 := by omega
                  have d4 : (x0 : Int) < 256 := by omega
                  have f0 := free_at h3.out (a * 4 + b)
                  have cc := (cells_at h3.out (a * 4 + b)).trans (bA_get _ _ (by rw [upd_len16 _ _ (by simp) _ (by omega)]; omega))
                  have n0 := block_at h3.out (a * 4 + b) (.int .u8 (y : Int))
                  rw [sq_set2 _ _ (by simp) a b y hla hlb hval] at n0
                  have N0 := Lib.hid n0
                  clear hv hval x0l hCr n0
                  go_wp2
                  refine wp_region_still_tail 17 (by kernel_rfl) (by kernel_rfl) ?_
                  simp only [List.take_succ_cons, List.take_zero, List.drop_succ_cons, List.drop_zero]
                  change wpStill _ _ wr.drew _ _ _
                  repeat still_step
                  refine wpStill_nil ?_
                  change wpList _ _ _ _ _ wr.drew
                  go_wp2
                  go_roundw
                  case rel =>
                    obtain ⟨Z, hZ, hZ2⟩ := h1.out
                    exact ⟨b + 1, by omega, by go_num, ⟨Z, hZ, (Below.heap_setCell _ _ _ _ (by simp <;> omega)).trans hZ2⟩, (Below.heap_setCell _ _ _ _ (by simp <;> omega)).trans h2.out, N0.out, hbel.out.drew.setCell (by simp <;> omega) _⟩
                  case measure => simp [intOf]; omega
                · obtain rfl : b = 4 := by omega
                  have hdb : decide (((4 : Nat) : Int) < 4) = false := by simp
                  have h4 : Hid (wr.heap[tb]? = some (.cells (bA (upd (sqF (shiftL (ssubL S))) (List.replicate 16 0) ((a + 1) * 4))) 118 (0, 0))) := by
                    have := h3.out
                    rw [show a * 4 + 4 = (a + 1) * 4 by omega] at this; exact this
                  clear h3
                  go_wp2
                  go_roundw
                  case rel => exact ⟨a + 1, by omega, by go_num, h1, h2, h4, hbel⟩
                  case measure => simp [intOf]; omega
            · have ha4 : a = 4 := by omega
              have hda : decide ((a : Int) < 4) = false := by simp; omega
              have h4 : Hid (wr.heap[tb]? = some (.cells (bA (sqL (shiftL (ssubL S)))) 118 (0, 0))) := by
                have := h3.out
                rw [ha4, show 4 * 4 = 16 by rfl, upd_sqF _ _ (by simp)] at this; exact this
              clear ha4
              have c3 : wr.cell? ⟨c, 513, none⟩ = some (.int .i64 (r : Int)) := (HC.out.up hbel.out (Nat.le_refl _)).rs
              clear h3
              by_cases hnr : i + 1 < r
              · have hdn : (n : Int) < (r : Int) := by have := HN.out; omega
                go_wp2_with (first
                  | (refine wpList_load_row rfl 118 (.tmp 8) rfl tb rfl _ _ _ _ h4.out Try.underlying118 rfl (by rw [sq16n, bA_size, sqL_len]) ?_)
                  | fail)
                refine (rmix_c c g nw cap r W (shiftL (ssubL S)) HX.out wr (HC.out.up hbel.out (Nat.le_refl _))).mono ?_
                rintro e w1 ⟨rfl, hb1⟩
                have h5 : Hid (w1.heap[tb]? = some (.cells (bA (sqL (shiftL (ssubL S)))) 118 (0, 0))) := (hb1.block _ (lt_of_block h4.out)).trans h4.out
                have h6 : Hid (w1.heap[w.heap.size + 1 + 1]? = some (.cells (bA (sqL S)) 118 (0, 0))) := (hb1.block _ (lt_of_block h2.out)).trans h2.out
                have h7 : Hid (∃ Z, Z.size = 16 ∧ w1.heap[w.heap.size + 1]? = some (.cells Z 22 (0, 0))) := by
                  obtain ⟨Z, hZ, hZ2⟩ := h1.out
                  exact ⟨Z, hZ, (hb1.block _ (lt_of_block hZ2)).trans hZ2⟩
                have hbel1 : Hid (Below w.heap.size w w1) := hbel.out.trans (hb1.mono hbel.out.size)
                clear hb1 c3 h1 h2 h4 hbel
                go_wp2_with (first
                  | (refine wpList_store_row rfl 118 (.tmp 8) (.tmp 81) rfl tb _ rfl rfl 118 _ h5.out (by rw [sq16n, bA_size, sqL_len]) (by rw [bA_size, bA_size, sqL_len, sqL_len]) (bA_one _) ?_; generalize hW5 : World.setRow _ _ _ = W5; have h4 : Hid (W5.heap[tb]? = some (.cells (bA (sqL (smixL (shiftL (ssubL S))))) 118 (0, 0))) := (by rw [← hW5]; exact setRow_heap _ _ _ _ _ _ h5.out); have h2 : Hid (W5.heap[w.heap.size + 1 + 1]? = some (.cells (bA (sqL S)) 118 (0, 0))) := (by rw [← hW5]; exact (setRow_other _ _ _ _ (by omega)).trans h6.out); have h1 : Hid (∃ Z, Z.size = 16 ∧ W5.heap[w.heap.size + 1]? = some (.cells Z 22 (0, 0))) := (by rw [← hW5]; obtain ⟨Z, hZ, hZ2⟩ := h7.out; exact ⟨Z, hZ, (setRow_other _ _ _ _ (by omega)).trans hZ2⟩); have hbel : Hid (Below w.heap.size w W5) := (by rw [← hW5]; exact below_setRow hbel1.out (by omega) _); clear hW5 h5 h6 h7 hbel1)
                  | fail)
                have HMB : Hid (By (smixL (shiftL (ssubL S)))) := stp_mix.okay _ HX.out
                go_loopw [11] (fun vi wr => ∃ a : Nat, a ≤ 4 ∧ vi = .int .i64 (a : Int) ∧ Hid (∃ Z, Z.size = 16 ∧ wr.heap[w.heap.size + 1]? = some (.cells Z 22 (0, 0))) ∧
                  Hid (wr.heap[w.heap.size + 1 + 1]? = some (.cells (bA (upd (sqF (keyL (smixL (shiftL (ssubL S))) W (i + 1))) (sqL S) (a * 4))) 118 (0, 0))) ∧ Hid (wr.heap[tb]? = some (.cells (bA (sqL (smixL (shiftL (ssubL S))))) 118 (0, 0))) ∧ Hid (Below w.heap.size w wr)) (fun vi _ => 4 - (intOf vi).toNat)
                case atStart => exact ⟨0, by omega, rfl, h1, by rw [Nat.zero_mul, upd_zero]; exact h2, h4, hbel⟩
                case round =>
                  clear h1 h2 h4 hbel
                  obtain ⟨a, ha, rfl, h1, h2, h4, hbel⟩ := hrel
                  by_cases hla : a < 4
                  · have hda : decide ((a : Int) < 4) = true := by simp; omega
                    go_wp2
                    go_loopw [12] (fun vi wr => ∃ b : Nat, b ≤ 4 ∧ vi = .int .i64 (b : Int) ∧ Hid (∃ Z, Z.size = 16 ∧ wr.heap[w.heap.size + 1]? = some (.cells Z 22 (0, 0))) ∧
                      Hid (wr.heap[w.heap.size + 1 + 1]? = some (.cells (bA (upd (sqF (keyL (smixL (shiftL (ssubL S))) W (i + 1))) (sqL S) (a * 4 + b))) 118 (0, 0))) ∧ Hid (wr.heap[tb]? = some (.cells (bA (sqL (smixL (shiftL (ssubL S))))) 118 (0, 0))) ∧ Hid (Below w.heap.size w wr)) (fun vi _ => 4 - (intOf vi).toNat)
                    case atStart => exact ⟨0, by omega, rfl, h1, h2, h4, hbel⟩
                    case round =>
                      clear h1 h2 h4 hbel
                      obtain ⟨b, hb, rfl, h1, h2, h4, hbel⟩ := hrel
                      by_cases hlb : b < 4
                      · have hdb : decide ((b : Int) < 4) = true := by simp; omega
                        have q0 := sq_cell h4.out a b hla hlb
                        have hCr := HC.out.up hbel.out (Nat.le_refl _)
                        have c1 := hCr.ws
                        have c2 := hCr.wd ((4 * n + b) * 4 + a) (by have := HNW.out; have := HN.out; omega)
                        have hval : sqF (keyL (smixL (shiftL (ssubL S))) W (i + 1)) (a * 4 + b) = ((smixL (shiftL (ssubL S)))).getD (4 * b + a) 0 ^^^ W.getD ((4 * n + b) * 4 + a) 0 := by
                          rw [sqF_at _ a b hla hlb, key_at _ _ _ _ (by omega), show 16 * (i + 1) + (4 * b + a) = (4 * n + b) * 4 + a by have := HN.out; omega]
                        have x0l := HMB.out.2 (4 * b + a) (by omega)
                        have x1l := getD_lt' HB.out ((4 * n + b) * 4 + a)
                        generalize ((smixL (shiftL (ssubL S)))).getD (4 * b + a) 0 = x0 at q0 hval x0l
                        generalize W.getD ((4 * n + b) * 4 + a) 0 = x1 at c2 hval x1l
                        have hx : bits BinOp.xor IntKind.u8 (x0 : Int) (x1 : Int) = ((x0 ^^^ x1 : Nat) : Int) := u8x rfl rfl x0l x1l
                        generalize hy : x0 ^^^ x1 = y at hx hval
                        have hnr3 : n ≤ r := by have := HN.out; omega
                        have e1 : IntKind.i64.wrap (4 * (n : Int)) = 4 * (n : Int) := IntWalk.i64_in _ (by omega)
                        have e4 : IntKind.i64.wrap (4 * (n : Int) + (b : Int)) = 4 * (n : Int) + (b : Int) := IntWalk.i64_in _ (by omega)
                        have e5 : (0 : Int) ≤ 4 * (n : Int) + (b : Int) ∧ 4 * (n : Int) + (b : Int) < (nw : Int) := by omega
                        have e6 : (4 * (n : Int) + (b : Int)).toNat = 4 * n + b := by omega
                        have d1 : (a : Int) < 4 := by omega
                        have d2 : (b : Int) < 4 := by omega
                        have f0 := free_at h2.out (a * 4 + b)
                        have cc := (cells_at h2.out (a * 4 + b)).trans (bA_get _ _ (by rw [upd_len16 _ _ (sqL_len _) _ (by omega)]; omega))
                        have n0 := block_at h2.out (a * 4 + b) (.int .u8 (y : Int))
                        rw [sq_set2 _ _ (sqL_len _) a b y hla hlb hval] at n0
                        have N0 := Lib.hid n0
                        clear hval x0l x1l hCr n0 hy
                        go_wp2
                        refine wp_region_still_tail 22 (by kernel_rfl) (by kernel_rfl) ?_
                        simp only [List.take_succ_cons, List.take_zero, List.drop_succ_cons, List.drop_zero]
                        change wpStill _ _ wr.drew _ _ _
                        repeat still_step
                        refine wpStill_nil ?_
                        change wpList _ _ _ _ _ wr.drew
                        go_wp2
                        go_roundw
                        case rel =>
                          obtain ⟨Z, hZ, hZ2⟩ := h1.out
                          exact ⟨b + 1, by omega, by go_num, ⟨Z, hZ, (Below.heap_setCell _ _ _ _ (by simp <;> omega)).trans hZ2⟩, N0.out, (Below.heap_setCell _ _ _ _ (by simp <;> omega)).trans h4.out, hbel.out.drew.setCell (by simp <;> omega) _⟩
                        case measure => simp [intOf]; omega
                      · obtain rfl : b = 4 := by omega
                        have hdb : decide (((4 : Nat) : Int) < 4) = false := by simp
                        have h5 : Hid (wr.heap[w.heap.size + 1 + 1]? = some (.cells (bA (upd (sqF (keyL (smixL (shiftL (ssubL S))) W (i + 1))) (sqL S) ((a + 1) * 4))) 118 (0, 0))) := by
                          have := h2.out
                          rw [show a * 4 + 4 = (a + 1) * 4 by omega] at this; exact this
                        clear h2
                        go_wp2
                        go_roundw
                        case rel => exact ⟨a + 1, by omega, by go_num, h1, h5, h4, hbel⟩
                        case measure => simp [intOf]; omega
                  · obtain rfl : a = 4 := by omega
                    have hda : decide (((4 : Nat) : Int) < 4) = false := by simp
                    have h5 : Hid (wr.heap[w.heap.size + 1 + 1]? = some (.cells (bA (sqL (stR W p r (i + 1)))) 118 (0, 0))) := by
                      have := h2.out
                      rw [show 4 * 4 = 16 by rfl, upd_sqF _ _ (sqL_len _), HSE.out, stR_step W p r i hnr] at this; exact this
                    clear h2 h4
                    go_wp2
                    go_roundw
                    case rel => exact ⟨i + 1, by omega, by have h := HN.out; subst h; go_num, h1, h5, hbel⟩
                    case measure => have := HN.out; simp [intOf]; omega
              · have hdn : ¬ (n : Int) < (r : Int) := by have := HN.out; omega
                go_wp2
                have HMB : Hid (By (shiftL (ssubL S))) := HX.out
                go_loopw [11] (fun vi wr => ∃ a : Nat, a ≤ 4 ∧ vi = .int .i64 (a : Int) ∧ Hid (∃ Z, Z.size = 16 ∧ wr.heap[w.heap.size + 1]? = some (.cells Z 22 (0, 0))) ∧
                  Hid (wr.heap[w.heap.size + 1 + 1]? = some (.cells (bA (upd (sqF (keyL (shiftL (ssubL S)) W (i + 1))) (sqL S) (a * 4))) 118 (0, 0))) ∧ Hid (wr.heap[tb]? = some (.cells (bA (sqL (shiftL (ssubL S)))) 118 (0, 0))) ∧ Hid (Below w.heap.size w wr)) (fun vi _ => 4 - (intOf vi).toNat)
                case atStart => exact ⟨0, by omega, rfl, h1, by rw [Nat.zero_mul, upd_zero]; exact h2, h4, hbel⟩
                case round =>
                  clear h1 h2 h4 hbel
                  obtain ⟨a, ha, rfl, h1, h2, h4, hbel⟩ := hrel
                  by_cases hla : a < 4
                  · have hda : decide ((a : Int) < 4) = true := by simp; omega
                    go_wp2
                    go_loopw [12] (fun vi wr => ∃ b : Nat, b ≤ 4 ∧ vi = .int .i64 (b : Int) ∧ Hid (∃ Z, Z.size = 16 ∧ wr.heap[w.heap.size + 1]? = some (.cells Z 22 (0, 0))) ∧
                      Hid (wr.heap[w.heap.size + 1 + 1]? = some (.cells (bA (upd (sqF (keyL (shiftL (ssubL S)) W (i + 1))) (sqL S) (a * 4 + b))) 118 (0, 0))) ∧ Hid (wr.heap[tb]? = some (.cells (bA (sqL (shiftL (ssubL S)))) 118 (0, 0))) ∧ Hid (Below w.heap.size w wr)) (fun vi _ => 4 - (intOf vi).toNat)
                    case atStart => exact ⟨0, by omega, rfl, h1, h2, h4, hbel⟩
                    case round =>
                      clear h1 h2 h4 hbel
                      obtain ⟨b, hb, rfl, h1, h2, h4, hbel⟩ := hrel
                      by_cases hlb : b < 4
                      · have hdb : decide ((b : Int) < 4) = true := by simp; omega
                        have q0 := sq_cell h4.out a b hla hlb
                        have hCr := HC.out.up hbel.out (Nat.le_refl _)
                        have c1 := hCr.ws
                        have c2 := hCr.wd ((4 * n + b) * 4 + a) (by have := HNW.out; have := HN.out; omega)
                        have hval : sqF (keyL (shiftL (ssubL S)) W (i + 1)) (a * 4 + b) = ((shiftL (ssubL S))).getD (4 * b + a) 0 ^^^ W.getD ((4 * n + b) * 4 + a) 0 := by
                          rw [sqF_at _ a b hla hlb, key_at _ _ _ _ (by omega), show 16 * (i + 1) + (4 * b + a) = (4 * n + b) * 4 + a by have := HN.out; omega]
                        have x0l := HMB.out.2 (4 * b + a) (by omega)
                        have x1l := getD_lt' HB.out ((4 * n + b) * 4 + a)
                        generalize ((shiftL (ssubL S))).getD (4 * b + a) 0 = x0 at q0 hval x0l
                        generalize W.getD ((4 * n + b) * 4 + a) 0 = x1 at c2 hval x1l
                        have hx : bits BinOp.xor IntKind.u8 (x0 : Int) (x1 : Int) = ((x0 ^^^ x1 : Nat) : Int) := u8x rfl rfl x0l x1l
                        generalize hy : x0 ^^^ x1 = y at hx hval
                        have hnr3 : n ≤ r := by have := HN.out; omega
                        have e1 : IntKind.i64.wrap (4 * (n : Int)) = 4 * (n : Int) := IntWalk.i64_in _ (by omega)
                        have e4 : IntKind.i64.wrap (4 * (n : Int) + (b : Int)) = 4 * (n : Int) + (b : Int) := IntWalk.i64_in _ (by omega)
                        have e5 : (0 : Int) ≤ 4 * (n : Int) + (b : Int) ∧ 4 * (n : Int) + (b : Int) < (nw : Int) := by omega
                        have e6 : (4 * (n : Int) + (b : Int)).toNat = 4 * n + b := by omega
                        have d1 : (a : Int) < 4 := by omega
                        have d2 : (b : Int) < 4 := by omega
                        have f0 := free_at h2.out (a * 4 + b)
                        have cc := (cells_at h2.out (a * 4 + b)).trans (bA_get _ _ (by rw [upd_len16 _ _ (sqL_len _) _ (by omega)]; omega))
                        have n0 := block_at h2.out (a * 4 + b) (.int .u8 (y : Int))
                        rw [sq_set2 _ _ (sqL_len _) a b y hla hlb hval] at n0
                        have N0 := Lib.hid n0
                        clear hval x0l x1l hCr n0 hy
                        go_wp2
                        refine wp_region_still_tail 22 (by kernel_rfl) (by kernel_rfl) ?_
                        simp only [List.take_succ_cons, List.take_zero, List.drop_succ_cons, List.drop_zero]
                        change wpStill _ _ wr.drew _ _ _
                        repeat still_step
                        refine wpStill_nil ?_
                        change wpList _ _ _ _ _ wr.drew
                        go_wp2
                        go_roundw
                        case rel =>
                          obtain ⟨Z, hZ, hZ2⟩ := h1.out
                          exact ⟨b + 1, by omega, by go_num, ⟨Z, hZ, (Below.heap_setCell _ _ _ _ (by simp <;> omega)).trans hZ2⟩, N0.out, (Below.heap_setCell _ _ _ _ (by simp <;> omega)).trans h4.out, hbel.out.drew.setCell (by simp <;> omega) _⟩
                        case measure => simp [intOf]; omega
                      · obtain rfl : b = 4 := by omega
                        have hdb : decide (((4 : Nat) : Int) < 4) = false := by simp
                        have h5 : Hid (wr.heap[w.heap.size + 1 + 1]? = some (.cells (bA (upd (sqF (keyL (shiftL (ssubL S)) W (i + 1))) (sqL S) ((a + 1) * 4))) 118 (0, 0))) := by
                          have := h2.out
                          rw [show a * 4 + 4 = (a + 1) * 4 by omega] at this; exact this
                        clear h2
                        go_wp2
                        go_roundw
                        case rel => exact ⟨a + 1, by omega, by go_num, h1, h5, h4, hbel⟩
                        case measure => simp [intOf]; omega
                  · obtain rfl : a = 4 := by omega
                    have hda : decide (((4 : Nat) : Int) < 4) = false := by simp
                    have h5 : Hid (wr.heap[w.heap.size + 1 + 1]? = some (.cells (bA (sqL (stR W p r (i + 1)))) 118 (0, 0))) := by
                      have := h2.out
                      rw [show 4 * 4 = 16 by rfl, upd_sqF _ _ (sqL_len _), HSE.out, stR_end W p r i (by omega)] at this; exact this
                    clear h2 h4
                    go_wp2
                    go_roundw
                    case rel => exact ⟨i + 1, by omega, by have h := HN.out; subst h; go_num, h1, h5, hbel⟩
                    case measure => have := HN.out; simp [intOf]; omega
        · obtain rfl : i = r := by omega
          have hd : ¬ (n : Int) ≤ (i : Int) := by have := HN.out; omega
          have HEL : Hid (stR W p i i = encL W i p) := stR_last W p i
          have HLE : Hid ((encL W i p).length = 16) := by show _ = _; unfold encL keyL; simp
          rw [HEL.out] at h2
          obtain ⟨X, hX⟩ : ∃ X, X = encL W i p := ⟨_, rfl⟩
          rw [← hX] at h2 HLE
          have HXX := Lib.hid hX
          clear hX
          obtain ⟨ob, hob⟩ : ∃ ob, ob = wr.heap.size := ⟨_, rfl⟩
          have hT0 : ∀ w1, w1 = wr.alloc (.cells #[.int .u8 0, .int .u8 0, .int .u8 0, .int .u8 0, .int .u8 0, .int .u8 0, .int .u8 0, .int .u8 0, .int .u8 0, .int .u8 0, .int .u8 0, .int .u8 0, .int .u8 0, .int .u8 0, .int .u8 0, .int .u8 0] 22) → w1.heap[ob]? = some (.cells (bA (upd (fun k => X.getD k 0) (List.replicate 16 0) 0)) 22 (0, 0)) := fun w1 h => by
            rw [h, hob, heap_new', upd_zero]; rfl
          have hK0 : ∀ w1, w1 = wr.alloc (.cells #[.int .u8 0, .int .u8 0, .int .u8 0, .int .u8 0, .int .u8 0, .int .u8 0, .int .u8 0, .int .u8 0, .int .u8 0, .int .u8 0, .int .u8 0, .int .u8 0, .int .u8 0, .int .u8 0, .int .u8 0, .int .u8 0] 22) → ∀ q x, wr.heap[q]? = some x → w1.heap[q]? = some x := fun w1 h q x hx => by
            rw [h]; exact (heap_old' _ _ _ (by
              rcases Nat.lt_or_ge q wr.heap.size with h | h
              · exact h
              · rw [Array.getElem?_eq_none h] at hx; cases hx)).trans hx
          have HT0 := Lib.hid hT0
          have HK0 := Lib.hid hK0
          have hszt : w.heap.size + 1 + 1 < ob := by rw [hob]; exact lt_of_block h2.out
          have HBA : Hid (Below w.heap.size w (wr.alloc (.cells #[.int .u8 0, .int .u8 0, .int .u8 0, .int .u8 0, .int .u8 0, .int .u8 0, .int .u8 0, .int .u8 0, .int .u8 0, .int .u8 0, .int .u8 0, .int .u8 0, .int .u8 0, .int .u8 0, .int .u8 0, .int .u8 0] 22))) := hbel.out.alloc hbel.out.size _
          have HOB := Lib.hid hob
          clear hT0 hK0 hCr hob
          go_wp2
          rw [← HOB.out]
          go_loopw [14] (fun vi wr => ∃ k : Nat, k ≤ 16 ∧ vi = .int .i64 (k : Int) ∧ Hid (∃ Z, Z.size = 16 ∧ wr.heap[w.heap.size + 1]? = some (.cells Z 22 (0, 0))) ∧
            Hid (wr.heap[w.heap.size + 1 + 1]? = some (.cells (bA (sqL X)) 118 (0, 0))) ∧ Hid (wr.heap[ob]? = some (.cells (bA (upd (fun k => X.getD k 0) (List.replicate 16 0) k)) 22 (0, 0))) ∧ Hid (Below w.heap.size w wr)) (fun vi _ => 16 - (intOf vi).toNat)
          case atStart =>
            obtain ⟨Z, hZ, hZ2⟩ := h1.out
            exact ⟨0, by omega, rfl, ⟨Z, hZ, HK0.out _ rfl _ _ hZ2⟩, HK0.out _ rfl _ _ h2.out, HT0.out _ rfl, HBA.out⟩
          case round =>
            clear h1 h2 hbel HT0 HK0 HBA c3 HOB
            obtain ⟨k, hk, rfl, h1, h2, h3, hbel⟩ := hrel
            by_cases hlk : k < 16
            · have hdk : decide ((k : Int) < 16) = true := by simp; omega
              obtain ⟨q, hq⟩ : ∃ q, q = k / 4 := ⟨_, rfl⟩
              obtain ⟨m, hm⟩ : ∃ m, m = k % 4 := ⟨_, rfl⟩
              have q0 := sq_cell h2.out m q (by omega) (by omega)
              rw [show 4 * q + m = k by omega] at q0
              have f0 := free_at h3.out k
              have cc := (cells_at h3.out k).trans (bA_get _ _ (by rw [upd_len16 _ _ (by simp) _ (by omega)]; omega))
              obtain ⟨y, hy⟩ : ∃ y, y = X.getD k 0 := ⟨_, rfl⟩
              rw [← hy] at q0
              have n0 := block_at h3.out k (.int .u8 (y : Int))
              rw [bA_set, show y = (fun k => X.getD k 0) k from hy, upd_set _ _ _ (by simp; omega), ← show y = (fun k => X.getD k 0) k from hy] at n0
              have N0 := Lib.hid n0
              have e2 : IntKind.i64.wrap ((k : Int) / 4) = (q : Int) := by rw [IntWalk.i64_in _ (by omega)]; omega
              have e3 : (k : Int).tmod 4 = (m : Int) := by rw [Int.tmod_eq_emod_of_nonneg (by omega)]; omega
              have d6 : (k : Int) < 16 := by omega
              have d7 : (m : Int) < 4 := by omega
              have d8 : (q : Int) < 4 := by omega
              clear hq hm hy n0
              go_wp2
              go_roundw
              case rel =>
                obtain ⟨Z, hZ, hZ2⟩ := h1.out
                exact ⟨k + 1, by omega, by go_num, ⟨Z, hZ, (Below.heap_setCell _ _ _ _ (by simp <;> omega)).trans hZ2⟩, (Below.heap_setCell _ _ _ _ (by simp <;> omega)).trans h2.out, N0.out, hbel.out.setCell (by simp <;> omega) _⟩
              case measure => simp [intOf]; omega
            · obtain rfl : k = 16 := by omega
              have hdk : decide (((16 : Nat) : Int) < 16) = false := by simp
              have h4 : Hid (wr.heap[ob]? = some (.cells (bA X) 22 (0, 0))) := by
                have := h3.out
                rw [upd_id X HLE.out _ (by simp)] at this; exact this
              obtain ⟨Z, hZ, hZ2⟩ := h1.out
              have HZ := Lib.hid hZ
              have HZ2 := Lib.hid hZ2
              clear hZ hZ2 h1 h3
              go_wp2_with (first
                | (refine wpList_load_row rfl 22 (.tmp 13) rfl ob rfl _ _ _ _ h4.out Try.underlying22 rfl (by rw [zero16', bA_size, HLE.out]) ?_)
                | (refine wpList_store_row rfl 22 (.tmp 4) (.tmp 125) rfl (w.heap.size + 1) _ rfl rfl 22 _ HZ2.out (by rw [zero16', bA_size, HLE.out]) (by rw [HZ.out, bA_size, HLE.out]) (bA_one _) ?_)
                | fail)
              exact bodyPost_ret (results_cell_row rfl _ _ (w.heap.size + 1) 22 (bA X) (0, 0) _ rfl (setRow_heap _ _ _ _ _ _ HZ2.out) Try.underlying22 rfl (by rw [zero16', bA_size, HLE.out])) rfl ⟨by rw [HXX.out], below_setRow hbel.out (by omega) _⟩
end Go.Proofs.Ytinjafacnekkcaa
