/- Contract of the reference's Counter. -/
import Derived.Test.YtnmjkdmhfogeiaaCtrB
set_option linter.unusedVariables false
namespace Go.Proofs.Ytnmjkdmhfogeiaa
open Go Go.RowKit
def fillE (e : Nat) : Nat → List Nat
  | 0 => List.replicate 16 0
  | k + 1 => (fillE e k).set (7 - k) (upB e k)
def fillB (e b : Nat) : Nat → List Nat
  | 0 => fillE e 8
  | k + 1 => (fillB e b k).set (11 - k) (upB b k)
theorem fillE_len (e k : Nat) : (fillE e k).length = 16 := by
  induction k with
  | zero => rfl
  | succ k ih => simp [fillE, ih]
theorem fillB_len (e b k : Nat) : (fillB e b k).length = 16 := by
  induction k with
  | zero => exact fillE_len e 8
  | succ k ih => simp [fillB, ih]
theorem fill_all (e b l : Nat) (hl : l < 65536) : ((fillB e b 4).set 12 (l / 256)).set 13 (l % 256) = ctrB e b l := by
  have h1 : upB l 1 = l / 256 := by unfold upB; omega
  have h0 : upB l 0 = l % 256 := by simp [upB]
  rw [← h1, ← h0]
  rfl
theorem upB_step (e k : Nat) : e / 2 ^ (8 * k) / 256 = e / 2 ^ (8 * (k + 1)) := by
  rw [Nat.div_div_eq_div_mul, show 8 * (k + 1) = 8 * k + 8 by omega, Nat.pow_add]
theorem upB_lt (e k : Nat) : upB e k < 256 := by unfold upB; omega
theorem z16 : (#[.int .u8 0, .int .u8 0, .int .u8 0, .int .u8 0, .int .u8 0, .int .u8 0, .int .u8 0, .int .u8 0, .int .u8 0, .int .u8 0, .int .u8 0, .int .u8 0, .int .u8 0, .int .u8 0, .int .u8 0, .int .u8 0] : Array Value) = bA (List.replicate 16 0) := rfl
set_option maxRecDepth 100000 in
set_option maxHeartbeats 2000000 in
theorem refcounter_c (e b l : Nat) (he : e < 18446744073709551616) (hb : b < 4294967296) (hl : l < 65536) (w : World) :
    Calls Try.prog 39 #[.int .u64 (e : Int), .int .u32 (b : Int), .int .i64 (l : Int)] w
      fun r w' => r = .returned (.agg (bA (ctrB e b l))) ∧ Below w.heap.size w w' := by
  have s1 : ((w.alloc (.cells (bA (List.replicate 16 0)) 44)).alloc (.cells (bA (List.replicate 16 0)) 44)).heap[w.heap.size]? = some (.cells (bA (List.replicate 16 0)) 44 (0, 0)) := by
    rw [heap_old' _ _ _ (by simp), heap_new']
  have s2 : ((w.alloc (.cells (bA (List.replicate 16 0)) 44)).alloc (.cells (bA (List.replicate 16 0)) 44)).heap[w.heap.size + 1]? = some (.cells (bA (fillE e 0)) 44 (0, 0)) := by
    rw [show w.heap.size + 1 = (w.alloc (.cells (bA (List.replicate 16 0)) 44)).heap.size by simp, heap_new']; rfl
  have S1 := Lib.hid s1
  have S2 := Lib.hid s2
  clear s1 s2
  go_enter Try.func39, Try.ntmps39
  go_wp2
  go_loopw [0, 8] (fun ve vi wr => ∃ k x : Nat, k ≤ 8 ∧ ve = .int .u64 x ∧ vi = .int .i64 (7 - (k : Int)) ∧ x < 18446744073709551616 ∧ Hid (x = e / 2 ^ (8 * k)) ∧ Hid (wr.heap[w.heap.size]? = some (.cells (bA (List.replicate 16 0)) 44 (0, 0))) ∧ Hid (wr.heap[w.heap.size + 1]? = some (.cells (bA (fillE e k)) 44 (0, 0))) ∧ Hid (w.heap.size + 1 < wr.heap.size) ∧ Hid (Below w.heap.size w wr)) (fun _ vi _ => (intOf vi + 1).toNat)
  case atStart => exact ⟨0, e, by omega, rfl, rfl, he, Lib.hid (by simp), S1, S2, Lib.hid (by simp), (((Below.refl _ _).alloc (Nat.le_refl _) _).alloc (by simp) _)⟩
  case round =>
    clear S1 S2
    obtain ⟨k, x, hk, rfl, rfl, hx, hxe, h1, h2, hz, hbel⟩ := hrel
    by_cases hlt : k < 8
    · have c1 := (cells_at h2.out (7 - k)).trans (bA_get _ (7 - k) (by rw [fillE_len]; omega))
      have f1 := free_at h2.out (7 - k)
      have i1 : (0 : Int) ≤ 7 - (k : Int) := by omega
      have i2 : (7 - (k : Int)).toNat = 7 - k := by omega
      have i3 : 7 - (k : Int) < 16 := by omega
      go_wp2
      go_roundw
      case rel =>
        have e1 : x / 256 = e / 2 ^ (8 * (k + 1)) := by rw [hxe.out, upB_step]
        have e2 : x % 256 = upB e k := by rw [hxe.out]; rfl
        have n1 := (Below.heap_setCell wr ⟨w.heap.size + 1, 7 - k, none⟩ (.int .u8 ((x : Int) % 256)) w.heap.size (by simp)).trans h1.out
        have n2 := block_at h2.out (7 - k) (.int .u8 ((x : Int) % 256))
        have e3 : ((x : Int) % 256) = ((upB e k : Nat) : Int) := by omega
        rw [e3, bA_set] at n2
        rw [← e3] at n2
        exact ⟨k + 1, x / 256, by omega, by go_num, vint (by omega), by omega, Lib.hid e1, n1, n2, Lib.hid (by have := hz.out; simp [World.setCell]; exact this), hbel.out.setCell (by simp) _⟩
      case measure => simp [intOf]; omega
    · obtain rfl : k = 8 := by omega
      have HZ1 := hz
      clear hxe
      go_wp2
      go_loopw [1, 9] (fun ve vi wr => ∃ k x : Nat, k ≤ 4 ∧ ve = .int .u32 x ∧ vi = .int .i64 (11 - (k : Int)) ∧ x < 4294967296 ∧ Hid (x = b / 2 ^ (8 * k)) ∧ Hid (wr.heap[w.heap.size]? = some (.cells (bA (List.replicate 16 0)) 44 (0, 0))) ∧ Hid (wr.heap[w.heap.size + 1]? = some (.cells (bA (fillB e b k)) 44 (0, 0))) ∧ Hid (w.heap.size + 1 < wr.heap.size) ∧ Hid (Below w.heap.size w wr)) (fun _ vi _ => (intOf vi + 1).toNat)
      case atStart => exact ⟨0, b, by omega, rfl, rfl, hb, Lib.hid (by simp), h1, h2, hz, hbel⟩
      case round =>
        clear h1 h2 hz hbel HZ1
        obtain ⟨k, y, hk, rfl, rfl, hy, hxe, h1, h2, hz, hbel⟩ := hrel
        by_cases hlt : k < 4
        · have c1 := (cells_at h2.out (11 - k)).trans (bA_get _ (11 - k) (by rw [fillB_len]; omega))
          have f1 := free_at h2.out (11 - k)
          have i1 : (0 : Int) ≤ 11 - (k : Int) := by omega
          have i2 : (11 - (k : Int)).toNat = 11 - k := by omega
          have i3 : 11 - (k : Int) < 16 := by omega
          go_wp2
          go_roundw
          case rel =>
            have e1 : y / 256 = b / 2 ^ (8 * (k + 1)) := by rw [hxe.out, upB_step]
            have e2 : y % 256 = upB b k := by rw [hxe.out]; rfl
            have n1 := (Below.heap_setCell wr ⟨w.heap.size + 1, 11 - k, none⟩ (.int .u8 ((y : Int) % 256)) w.heap.size (by simp)).trans h1.out
            have n2 := block_at h2.out (11 - k) (.int .u8 ((y : Int) % 256))
            have e3 : ((y : Int) % 256) = ((upB b k : Nat) : Int) := by omega
            rw [e3, bA_set] at n2
            rw [← e3] at n2
            exact ⟨k + 1, y / 256, by omega, by go_num, vint (by omega), by omega, Lib.hid e1, n1, n2, Lib.hid (by have := hz.out; simp [World.setCell]; exact this), hbel.out.setCell (by simp) _⟩
          case measure => simp [intOf]; omega
        · obtain rfl : k = 4 := by omega
          have c1 := (cells_at h2.out 12).trans (bA_get _ 12 (by rw [fillB_len]; omega))
          have f1 := free_at h2.out 12
          have c2 := (cells_at h2.out 13).trans (bA_get _ 13 (by rw [fillB_len]; omega))
          have f2 := free_at h2.out 13
          have hd : ((l : Int) / 256) % 256 = ((l / 256 : Nat) : Int) := by omega
          have hr : (l : Int) % 256 % 256 = ((l % 256 : Nat) : Int) := by omega
          have n1 := (Below.heap_setCell (wr.setCell ⟨w.heap.size + 1, 12, none⟩ (.int .u8 ((l / 256 : Nat) : Int))) ⟨w.heap.size + 1, 13, none⟩ (.int .u8 ((l % 256 : Nat) : Int)) w.heap.size (by simp)).trans ((Below.heap_setCell wr ⟨w.heap.size + 1, 12, none⟩ (.int .u8 ((l / 256 : Nat) : Int)) w.heap.size (by simp)).trans h1.out)
          have n2 := block_at (block_at h2.out 12 (.int .u8 ((l / 256 : Nat) : Int))) 13 (.int .u8 ((l % 256 : Nat) : Int))
          rw [bA_set, bA_set, fill_all e b l hl] at n2
          have N1 := Lib.hid n1
          have N2 := Lib.hid n2
          have NB := Lib.hid ((hbel.out.setCell (p := ⟨w.heap.size + 1, 12, none⟩) (by simp) (.int .u8 ((l / 256 : Nat) : Int))).setCell (p := ⟨w.heap.size + 1, 13, none⟩) (by simp) (.int .u8 ((l % 256 : Nat) : Int)))
          clear h1 h2 n1 n2 hbel hz hxe
          obtain ⟨d1, hd1⟩ : ∃ d, d = l / 256 := ⟨_, rfl⟩
          obtain ⟨d2, hd2⟩ : ∃ d, d = l % 256 := ⟨_, rfl⟩
          rw [← hd1] at N1 N2 NB
          rw [← hd2] at N1 N2 NB
          have k1 : (l : Int) / 256 = (d1 : Int) := by omega
          have k2 : (l : Int) % 256 = (d2 : Int) := by omega
          have k3 : d1 < 256 := by omega
          have k4 : d2 < 256 := by omega
          clear hd hr hd1 hd2
          go_wp2_with (first
            | (refine wpList_load_row rfl 44 (.tmp 7) rfl (w.heap.size + 1) rfl _ _ _ _ N2.out Try.underlying44 rfl (by rw [zero16, bA_size, ctrB_len]) ?_)
            | (refine wpList_store_row rfl 44 (.tmp 6) (.tmp 40) rfl w.heap.size _ rfl rfl 44 _ N1.out (by rw [zero16, bA_size, ctrB_len]) (by rw [bA_size, bA_size, ctrB_len]; rfl) (by rw [← Array.all_toList]; simp [bA, Value.oneCell']) ?_))
          exact bodyPost_ret (results_cell_row rfl _ _ w.heap.size 44 (bA (ctrB e b l)) (0, 0) _ rfl (setRow_heap _ _ _ _ _ _ N1.out) Try.underlying44 rfl (by rw [zero16, bA_size, ctrB_len])) rfl ⟨rfl, below_setRow NB.out (Nat.le_refl _) _⟩
/-- bytes tell the number -/
theorem highB_inj8 (e f : Nat) (he : e < 18446744073709551616) (hf : f < 18446744073709551616) (h : highB 8 e = highB 8 f) : e = f := by
  have g : ∀ k, k < 8 → upB e k = upB f k := fun k hk => by
    have : (highB 8 e).getD (7 - k) 0 = (highB 8 f).getD (7 - k) 0 := by rw [h]
    rw [highB_get 8 e _ (by omega), highB_get 8 f _ (by omega), show 8 - 1 - (7 - k) = k by omega] at this
    exact this
  have g0 := g 0 (by omega)
  have g1 := g 1 (by omega)
  have g2 := g 2 (by omega)
  have g3 := g 3 (by omega)
  have g4 := g 4 (by omega)
  have g5 := g 5 (by omega)
  have g6 := g 6 (by omega)
  have g7 := g 7 (by omega)
  simp only [upB, Nat.mul_zero, Nat.pow_zero, Nat.div_one, Nat.reduceMul, Nat.reducePow] at g0 g1 g2 g3 g4 g5 g6 g7
  omega
theorem highB_inj4 (e f : Nat) (he : e < 4294967296) (hf : f < 4294967296) (h : highB 4 e = highB 4 f) : e = f := by
  have g : ∀ k, k < 4 → upB e k = upB f k := fun k hk => by
    have : (highB 4 e).getD (3 - k) 0 = (highB 4 f).getD (3 - k) 0 := by rw [h]
    rw [highB_get 4 e _ (by omega), highB_get 4 f _ (by omega), show 4 - 1 - (3 - k) = k by omega] at this
    exact this
  have g0 := g 0 (by omega)
  have g1 := g 1 (by omega)
  have g2 := g 2 (by omega)
  have g3 := g 3 (by omega)
  simp only [upB, Nat.mul_zero, Nat.pow_zero, Nat.div_one, Nat.reduceMul, Nat.reducePow] at g0 g1 g2 g3
  omega
theorem highB_inj2 (e f : Nat) (he : e < 65536) (hf : f < 65536) (h : highB 2 e = highB 2 f) : e = f := by
  have g : ∀ k, k < 2 → upB e k = upB f k := fun k hk => by
    have : (highB 2 e).getD (1 - k) 0 = (highB 2 f).getD (1 - k) 0 := by rw [h]
    rw [highB_get 2 e _ (by omega), highB_get 2 f _ (by omega), show 2 - 1 - (1 - k) = k by omega] at this
    exact this
  have g0 := g 0 (by omega)
  have g1 := g 1 (by omega)
  simp only [upB, Nat.mul_zero, Nat.pow_zero, Nat.div_one, Nat.reduceMul, Nat.reducePow] at g0 g1
  omega
theorem ctrB_inj (e b l f c m : Nat) (he : e < 18446744073709551616) (hb : b < 4294967296) (hl : l < 65536) (hf : f < 18446744073709551616) (hc : c < 4294967296) (hm : m < 65536) :
    ctrB e b l = ctrB f c m ↔ e = f ∧ b = c ∧ l = m := by
  constructor
  · intro h
    unfold ctrB at h
    obtain ⟨h1, h2⟩ := List.append_inj h (by simp [highB_len])
    obtain ⟨h3, h4⟩ := List.append_inj h2 (by simp [highB_len])
    obtain ⟨h5, _⟩ := List.append_inj h4 (by simp [highB_len])
    exact ⟨highB_inj8 e f he hf h1, highB_inj4 b c hb hc h3, highB_inj2 l m hl hm h5⟩
  · rintro ⟨rfl, rfl, rfl⟩; rfl
theorem u8some' : ∃ i, Try.prog.info? 5 = some i := by
  have h : (Try.prog.info? 5).isSome = true := by kernel_rfl
  exact Option.isSome_iff_exists.1 h
theorem u8plain' : Try.prog.plainKey 5 = true := by kernel_rfl
theorem u8cells' : Try.prog.cellsOf 5 = 1 := by kernel_rfl
theorem eq16 (xs ys : List Nat) (hx : xs.length = 16) (hy : ys.length = 16) (w : World) : (binOp .eql 44 (.agg (bA xs)) (.agg (bA ys))).run Try.prog w = .ok (.bool (decide (xs = ys))) w := by
  obtain ⟨i, hi⟩ := u8some'
  exact eql_bytes Try.prog 16 44 5 i Try.underlying44 Try.underlying5 u8plain' hi u8cells' xs ys hx hy w
theorem ctr_ex : #[.int .u8 0, .int .u8 0, .int .u8 0, .int .u8 0, .int .u8 0, .int .u8 0, .int .u8 0, .int .u8 1, .int .u8 0, .int .u8 0, .int .u8 0, .int .u8 2, .int .u8 0, .int .u8 3, .int .u8 0, .int .u8 0] = bA (ctrB 1 2 3) := rfl
set_option maxRecDepth 100000 in
theorem awake06_c (w : World) : Calls Try.prog 40 #[] w fun e w' => e = .returned (.bool true) ∧ Below w.heap.size w w' := by
  have h := counter_c 1 2 3 (by omega) (by omega) (by omega)
  have q : ∀ w, (binOp .eql 44 (.agg (bA (ctrB 1 2 3))) (.agg #[.int .u8 0, .int .u8 0, .int .u8 0, .int .u8 0, .int .u8 0, .int .u8 0, .int .u8 0, .int .u8 1, .int .u8 0, .int .u8 0, .int .u8 0, .int .u8 2, .int .u8 0, .int .u8 3, .int .u8 0, .int .u8 0])).run Try.prog w = .ok (.bool true) w := fun w => by
    rw [ctr_ex, eq16 _ _ (ctrB_len _ _ _) (ctrB_len _ _ _)]; simp
  go_enter Try.func40, Try.ntmps40
  go_wp2_with fail
  refine (h _).mono ?_
  rintro e w1 ⟨rfl, hb⟩
  clear h
  go_wp2
  go_ret
  exact ⟨rfl, hb⟩
set_option maxRecDepth 100000 in
theorem walkCtrCounter (e : Int) (we : (Lit.int .u64 e).wf = true) (b : Int) (wb : (Lit.int .u32 b).wf = true) (l : Int) (wl : (Lit.int .u16 l).wf = true) (w : World) :
    Calls Try.prog 9 #[.int .u64 e, .int .u32 b, .int .u16 l] w fun e w' => e = .returned (.bool true) ∧ Below w.heap.size w w' := by
  obtain ⟨e, he, rfl⟩ := wf_nat64 we
  obtain ⟨b, hb, rfl⟩ := wf_nat32 wb
  obtain ⟨l, hl, rfl⟩ := wf_nat16 wl
  clear we wb wl
  have q : ∀ w, (binOp .eql 44 (.agg (bA (ctrB e b l))) (.agg (bA (ctrB e b l)))).run Try.prog w = .ok (.bool true) w := fun w => by
    rw [eq16 _ _ (ctrB_len _ _ _) (ctrB_len _ _ _)]; simp
  go_enter Try.func9, Try.ntmps9
  go_wp2_with fail
  refine (counter_c e b l he hb hl _).mono ?_
  rintro r w1 ⟨rfl, hb1⟩
  go_wp2_with fail
  refine (refcounter_c e b l he hb hl _).mono ?_
  rintro r w2 ⟨rfl, hb2⟩
  go_wp2_with fail
  refine (awake06_c _).mono ?_
  rintro r w3 ⟨rfl, hb3⟩
  go_wp2
  go_ret
  exact ⟨rfl, hb1.trans ((hb2.mono hb1.size).trans (hb3.mono (Nat.le_trans hb1.size hb2.size)))⟩
set_option maxRecDepth 100000 in
set_option maxHeartbeats 1000000 in
theorem walkCtrOnce (e : Int) (we : (Lit.int .u64 e).wf = true) (b : Int) (wb : (Lit.int .u32 b).wf = true) (l : Int) (wl : (Lit.int .u16 l).wf = true)
    (f : Int) (wf : (Lit.int .u64 f).wf = true) (c : Int) (wc : (Lit.int .u32 c).wf = true) (m : Int) (wm : (Lit.int .u16 m).wf = true) (w : World) :
    Calls Try.prog 10 #[.int .u64 e, .int .u32 b, .int .u16 l, .int .u64 f, .int .u32 c, .int .u16 m] w fun e w' => e = .returned (.bool true) ∧ Below w.heap.size w w' := by
  obtain ⟨e, he, rfl⟩ := wf_nat64 we
  obtain ⟨b, hb, rfl⟩ := wf_nat32 wb
  obtain ⟨l, hl, rfl⟩ := wf_nat16 wl
  obtain ⟨f, hf, rfl⟩ := wf_nat64 wf
  obtain ⟨c, hc, rfl⟩ := wf_nat32 wc
  obtain ⟨m, hm, rfl⟩ := wf_nat16 wm
  clear we wb wl wf wc wm
  have hinj := ctrB_inj e b l f c m he hb hl hf hc hm
  have q : ∀ w, (binOp .eql 44 (.agg (bA (ctrB e b l))) (.agg (bA (ctrB f c m)))).run Try.prog w = .ok (.bool (decide (e = f ∧ b = c ∧ l = m))) w := fun w => by
    rw [eq16 _ _ (ctrB_len _ _ _) (ctrB_len _ _ _)]; simp only [hinj]
  clear hinj
  have HC1 := Lib.hid (counter_c e b l he hb hl)
  have HC2 := Lib.hid (counter_c f c m hf hc hm)
  by_cases h1 : e = f
  · have hT1 : ((e : Int) == (f : Int)) = true := by rw [h1]; exact beq_self_eq_true _
    by_cases h2 : b = c
    · have hT2 : ((b : Int) == (c : Int)) = true := by rw [h2]; exact beq_self_eq_true _
      by_cases h3 : l = m
      · have hT3 : ((l : Int) == (m : Int)) = true := by rw [h3]; exact beq_self_eq_true _
        have hq : decide (e = f ∧ b = c ∧ l = m) = true := by simp [h1, h2, h3]
        rw [hq] at q
        clear hq h1 h2 h3
        go_enter Try.func10, Try.ntmps10
        go_wp2_with fail
        refine (HC1.out _).mono ?_
        rintro r w1 ⟨rfl, hb1⟩
        go_wp2_with fail
        refine (HC2.out _).mono ?_
        rintro r w2 ⟨rfl, hb2⟩
        go_wp2_with fail
        refine (awake06_c _).mono ?_
        rintro r w3 ⟨rfl, hb3⟩
        go_wp2
        go_ret
        exact ⟨rfl, hb1.trans ((hb2.mono hb1.size).trans (hb3.mono (Nat.le_trans hb1.size hb2.size)))⟩
      · have hT3 : ((l : Int) == (m : Int)) = false := by rw [beq_eq_false_iff_ne]; omega
        have hq : decide (e = f ∧ b = c ∧ l = m) = false := by simp [h1, h2, h3]
        rw [hq] at q
        clear hq h1 h2 h3
        go_enter Try.func10, Try.ntmps10
        go_wp2_with fail
        refine (HC1.out _).mono ?_
        rintro r w1 ⟨rfl, hb1⟩
        go_wp2_with fail
        refine (HC2.out _).mono ?_
        rintro r w2 ⟨rfl, hb2⟩
        go_wp2_with fail
        refine (awake06_c _).mono ?_
        rintro r w3 ⟨rfl, hb3⟩
        go_wp2
        go_ret
        exact ⟨rfl, hb1.trans ((hb2.mono hb1.size).trans (hb3.mono (Nat.le_trans hb1.size hb2.size)))⟩
    · have hT2 : ((b : Int) == (c : Int)) = false := by rw [beq_eq_false_iff_ne]; omega
      have hq : decide (e = f ∧ b = c ∧ l = m) = false := by simp [h1, h2]
      rw [hq] at q
      clear hq h1 h2
      go_enter Try.func10, Try.ntmps10
      go_wp2_with fail
      refine (HC1.out _).mono ?_
      rintro r w1 ⟨rfl, hb1⟩
      go_wp2_with fail
      refine (HC2.out _).mono ?_
      rintro r w2 ⟨rfl, hb2⟩
      go_wp2_with fail
      refine (awake06_c _).mono ?_
      rintro r w3 ⟨rfl, hb3⟩
      go_wp2
      go_ret
      exact ⟨rfl, hb1.trans ((hb2.mono hb1.size).trans (hb3.mono (Nat.le_trans hb1.size hb2.size)))⟩
  · have hT1 : ((e : Int) == (f : Int)) = false := by rw [beq_eq_false_iff_ne]; omega
    have hq : decide (e = f ∧ b = c ∧ l = m) = false := by simp [h1]
    rw [hq] at q
    clear hq h1
    go_enter Try.func10, Try.ntmps10
    go_wp2_with fail
    refine (HC1.out _).mono ?_
    rintro r w1 ⟨rfl, hb1⟩
    go_wp2_with fail
    refine (HC2.out _).mono ?_
    rintro r w2 ⟨rfl, hb2⟩
    go_wp2_with fail
    refine (awake06_c _).mono ?_
    rintro r w3 ⟨rfl, hb3⟩
    go_wp2
    go_ret
    exact ⟨rfl, hb1.trans ((hb2.mono hb1.size).trans (hb3.mono (Nat.le_trans hb1.size hb2.size)))⟩
end Go.Proofs.Ytnmjkdmhfogeiaa
