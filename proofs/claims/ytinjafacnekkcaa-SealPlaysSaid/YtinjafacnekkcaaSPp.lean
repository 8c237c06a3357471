/- Texts RefN, put together by pack.py. -/
import Derived.Test.YtinjafacnekkcaaSPo
import Derived.Test.YtinjafacnekkcaaSPn
import Derived.Test.YtinjafacnekkcaaSPi
import Derived.Test.YtinjafacnekkcaaSPb
set_option linter.unusedVariables false
set_option linter.unusedSimpArgs false
namespace Go.Proofs.Ytinjafacnekkcaa
open Go Go.RowKit GfM
theorem setCells_block (b : Nat) (t : TypeId) (z : Nat × Nat) : ∀ (vs : List Value) (o : Nat) (w : World) (A : Array Value), w.heap[b]? = some (.cells A t z) →
    ∃ A', (w.setCells b o vs).heap[b]? = some (.cells A' t z) ∧ A'.size = A.size ∧ (∀ j, j < vs.length → o + j < A.size → A'[o + j]? = vs[j]?) ∧ ∀ j, j < o ∨ o + vs.length ≤ j → A'[j]? = A[j]?
  | [], o, w, A, h => ⟨A, h, rfl, fun j hj => absurd hj (by simp), fun _ _ => rfl⟩
  | v :: vs, o, w, A, h => by
    obtain ⟨A', h1, h2, h3, h4⟩ := setCells_block b t z vs (o + 1) _ _ (block_at h o v)
    refine ⟨A', h1, by simpa using h2, fun j hj hs => ?_, fun j hj => ?_⟩
    · cases j with
      | zero =>
        rw [Nat.add_zero, h4 o (.inl (by omega))]
        simp only [Nat.add_zero] at hs
        simp [hs]
      | succ j =>
        have := h3 j (by simpa using hj) (by simp; omega)
        rw [show o + (j + 1) = o + 1 + j by omega, this]; rfl
    · rw [h4 j (by simp at hj; omega)]
      have : o ≠ j := by simp at hj; omega
      simp [Array.getElem?_setIfInBounds, this]
theorem below_setCells {B : Nat} {w : World} (b : Nat) (hb : B ≤ b) : ∀ (vs : List Value) (o : Nat) (w' : World), Below B w w' → Below B w (w'.setCells b o vs)
  | [], _, _, h => h
  | v :: vs, o, _, h => below_setCells b hb vs (o + 1) _ (h.setCell hb _)
theorem gmul2 : ∀ k, k < 256 → gmul 2 k = tw k := by decide +kernel
theorem pow2s : ∀ k, k < 30 → powN 2 (k + 1) = tw (powN 2 k) ∧ powN 2 k < 256 := by decide +kernel
/-- the reference's cipher, as it is made -/
def RI (w : World) (c kt : Nat) (v : Value) (r : Int) : Prop :=
  ∃ A, w.heap[c]? = some (.cells A 57 (0, 0)) ∧ A.size = 514 ∧ (∀ j, j < 256 → A[j]? = some (.int .u8 ((sbx j : Nat) : Int))) ∧ (∀ j, j < kt → A[256 + j]? = some (.int .u8 ((tw j : Nat) : Int))) ∧ A[512]? = some v ∧ A[513]? = some (.int .i64 r)
theorem RI.of {w w' : World} {c kt : Nat} {v : Value} {r : Int} (h : RI w c kt v r) (e : w'.heap[c]? = w.heap[c]?) : RI w' c kt v r := by
  obtain ⟨A, h1, h2⟩ := h
  exact ⟨A, e.trans h1, h2⟩
theorem RI.lt {w : World} {c kt : Nat} {v : Value} {r : Int} (h : RI w c kt v r) : c < w.heap.size := by
  obtain ⟨A, h1, _⟩ := h
  exact lt_of_block h1
theorem RI.twice {w : World} {c kt : Nat} {v : Value} {r : Int} (h : RI w c kt v r) (hk : kt < 256) : RI (w.setCell ⟨c, 256 + kt, none⟩ (.int .u8 ((tw kt : Nat) : Int))) c (kt + 1) v r := by
  obtain ⟨A, h1, h2, h3, h4, h5, h6⟩ := h
  refine ⟨_, block_at h1 (256 + kt) _, by simpa using h2, fun j hj => ?_, fun j hj => ?_, ?_, ?_⟩
  · rw [Array.getElem?_setIfInBounds, if_neg (by omega)]; exact h3 j hj
  · rw [Array.getElem?_setIfInBounds]
    by_cases e : kt = j
    · subst e; simp; omega
    · rw [if_neg (by omega)]; exact h4 j (by omega)
  · rw [Array.getElem?_setIfInBounds, if_neg (by omega)]; exact h5
  · rw [Array.getElem?_setIfInBounds, if_neg (by omega)]; exact h6
theorem RI.words {w : World} {c kt : Nat} {v : Value} {r : Int} (h : RI w c kt v r) (hk : kt ≤ 256) (v' : Value) : RI (w.setCell ⟨c, 512, none⟩ v') c kt v' r := by
  obtain ⟨A, h1, h2, h3, h4, h5, h6⟩ := h
  refine ⟨_, block_at h1 512 _, by simpa using h2, fun j hj => ?_, fun j hj => ?_, ?_, ?_⟩
  · rw [Array.getElem?_setIfInBounds, if_neg (by omega)]; exact h3 j hj
  · rw [Array.getElem?_setIfInBounds, if_neg (by omega)]; exact h4 j hj
  · rw [Array.getElem?_setIfInBounds, if_pos rfl, if_pos (by omega)]
  · rw [Array.getElem?_setIfInBounds, if_neg (by omega)]; exact h6
theorem RI.rounds {w : World} {c kt : Nat} {v : Value} {r : Int} (h : RI w c kt v r) (hk : kt ≤ 256) (r' : Int) : RI (w.setCell ⟨c, 513, none⟩ (.int .i64 r')) c kt v r' := by
  obtain ⟨A, h1, h2, h3, h4, h5, h6⟩ := h
  refine ⟨_, block_at h1 513 _, by simpa using h2, fun j hj => ?_, fun j hj => ?_, ?_, ?_⟩
  · rw [Array.getElem?_setIfInBounds, if_neg (by omega)]; exact h3 j hj
  · rw [Array.getElem?_setIfInBounds, if_neg (by omega)]; exact h4 j hj
  · rw [Array.getElem?_setIfInBounds, if_neg (by omega)]; exact h5
  · rw [Array.getElem?_setIfInBounds, if_pos rfl, if_pos (by omega)]
theorem RI.cell {w : World} {c kt : Nat} {v : Value} {r : Int} (h : RI w c kt v r) (o : Nat) (ho : o < 514) : (∃ x, w.cell? ⟨c, o, none⟩ = some x) ∧ w.frozen? ⟨c, o, none⟩ = false := by
  obtain ⟨A, h1, h2, _⟩ := h
  exact ⟨⟨A[o]'(by omega), by rw [cells_at h1 o]; simp [h2, ho]⟩, free_at h1 o⟩
theorem RI.cbox {w : World} {c kt : Nat} {v : Value} {r : Int} (h : RI w c kt v r) (j : Nat) (hj : j < 256) : w.cell? ⟨c, j, none⟩ = some (.int .u8 ((sbx j : Nat) : Int)) := by
  obtain ⟨A, h1, h2, h3, _⟩ := h
  exact (cells_at h1 j).trans (h3 j hj)
theorem RI.ctw {w : World} {c kt : Nat} {v : Value} {r : Int} (h : RI w c kt v r) (j : Nat) (hj : j < kt) : w.cell? ⟨c, 256 + j, none⟩ = some (.int .u8 ((tw j : Nat) : Int)) := by
  obtain ⟨A, h1, h2, h3, h4, _⟩ := h
  exact (cells_at h1 _).trans (h4 j hj)
theorem RI.cwords {w : World} {c kt : Nat} {v : Value} {r : Int} (h : RI w c kt v r) : w.cell? ⟨c, 512, none⟩ = some v := by
  obtain ⟨A, h1, h2, h3, h4, h5, _⟩ := h
  exact (cells_at h1 _).trans h5
theorem RI.crounds {w : World} {c kt : Nat} {v : Value} {r : Int} (h : RI w c kt v r) : w.cell? ⟨c, 513, none⟩ = some (.int .i64 r) := by
  obtain ⟨A, h1, h2, h3, h4, h5, h6⟩ := h
  exact (cells_at h1 _).trans h6
theorem z67 : (Try.zeroCells57 : Array Value).size = 514 ∧ (Try.zeroCells57 : Array Value)[512]? = some (.slice none 0 0) ∧ (Try.zeroCells57 : Array Value)[513]? = some (.int .i64 0) := ⟨by kernel_rfl, by kernel_rfl, by kernel_rfl⟩
theorem own_cells {w : World} {base g m cp : Nat} {L : List Nat} (hL : L.length = 4 * m) (h : w.ownsRow base 61 4 (.slice (some ⟨g, 0, none⟩) m cp) m (u8L L)) (hm : 0 < m) :
    ∃ A, w.heap[g]? = some (.cells A 61 (0, 0)) ∧ A.size = 4 * cp ∧ (∀ j, j < L.length → A[j]? = some (.int .u8 ((L.getD j 0 : Nat) : Int))) ∧ m ≤ cp ∧ cp ≤ maxLen ∧ base ≤ g := by
  rcases h.2 with ⟨h, _⟩ | ⟨g', cap', cur, e1, e2, e3, e4, e5, e6, e7⟩
  · cases h
  · cases e1
    refine ⟨cur, e3, by omega, fun j hj => ?_, e4, e5, e2⟩
    have := congrArg (fun l => l[j]?) e7
    rw [List.getElem?_take_of_lt (by omega), Array.getElem?_toList] at this
    rw [this]
    simp [u8L, hj]
theorem own_range {w : World} {base g m cp : Nat} {L : List Nat} (hL : L.length = 4 * m) (h : w.ownsRow base 61 4 (.slice (some ⟨g, 0, none⟩) m cp) m (u8L L)) (q : Nat) (hq : q < m) : w.rangeAt g (q * 4) (v4 (colOf L q)).toList := by
  obtain ⟨A, h1, h2, h3, _⟩ := own_cells hL h (by omega)
  intro j v hv
  have hj : j < 4 := by
    have := (List.getElem?_eq_some_iff.1 hv).1; simpa [v4] using this
  rw [Array.getElem?_toList, v4_get _ j hj] at hv
  rw [cells_at h1, show q * 4 + j = 4 * q + j by omega, h3 _ (by omega)]
  exact hv
theorem v4_cells {w : World} {b : Nat} {t : TypeId} {z : Nat × Nat} {T : Nat → Nat} (h : w.heap[b]? = some (.cells (v4 T) t z)) (j : Nat) (hj : j < 4) : w.cell? ⟨b, j, none⟩ = some (.int .u8 ((T j : Nat) : Int)) := (cells_at h j).trans (v4_get T j hj)
theorem col_by {L : List Nat} (h : ∀ x ∈ L, x < 256) (q t : Nat) : colOf L q t < 256 := getD_lt' h _
theorem pow_next (n k : Nat) (hn : n = 4 ∨ n = 8) (hk : k < 60) (h : (n + k) % n = 0) : tw (powN 2 ((n + k - 1) / n)) = powN 2 ((n + (k + 1) - 1) / n) := by
  rw [show (n + (k + 1) - 1) / n = (n + k - 1) / n + 1 by rcases hn with rfl | rfl <;> omega]
  exact (pow2s _ (by rcases hn with rfl | rfl <;> omega)).1.symm
theorem pow_same (n k : Nat) (hn : n = 4 ∨ n = 8) (h : ¬ (n + k) % n = 0) : powN 2 ((n + k - 1) / n) = powN 2 ((n + (k + 1) - 1) / n) := by
  rw [show (n + (k + 1) - 1) / n = (n + k - 1) / n by rcases hn with rfl | rfl <;> omega]
theorem nextA (n m : Nat) (T : Nat → Nat) (hn : n = 4 ∨ n = 8) (h : m % n = 0) (hm : n ≤ m) : #[.int .u8 ((sbx (T 1) ^^^ powN 2 ((m - 1) / n) : Nat) : Int), .int .u8 ((sbx (T 2) : Nat) : Int), .int .u8 ((sbx (T 3) : Nat) : Int), .int .u8 ((sbx (T 0) : Nat) : Int)] = v4 (nextN n m T) := by
  unfold nextN
  rw [if_pos h, show (m - 1) / n = m / n - 1 by rcases hn with rfl | rfl <;> omega]
  rfl
theorem nextB (n m : Nat) (T : Nat → Nat) (h8 : n = 8) (h : m % n = 4) : #[.int .u8 ((sbx (T 0) : Nat) : Int), .int .u8 ((sbx (T 1) : Nat) : Int), .int .u8 ((sbx (T 2) : Nat) : Int), .int .u8 ((sbx (T 3) : Nat) : Int)] = v4 (nextN n m T) := by
  unfold nextN
  rw [if_neg (by omega), if_pos ⟨by omega, h⟩]; rfl
theorem nextC (n m : Nat) (T : Nat → Nat) (h : ¬ m % n = 0) (h2 : ¬ (n = 8 ∧ m % n = 4)) (hn : n = 4 ∨ n = 8) : v4 T = v4 (nextN n m T) := by
  unfold nextN
  rw [if_neg h, if_neg (by rintro ⟨a, b⟩; exact h2 ⟨by omega, b⟩)]
theorem sched_next' (n : Nat) (key : List Nat) (k : Nat) : u8L (sched n key (k + 1)) = u8L (sched n key k) ++ (v4 (xorN (colOf (sched n key k) k) (nextN n (n + k) (colOf (sched n key k) (n + k - 1))))).toList := by
  rw [sched_next]; simp [u8L]; rfl
theorem ri_start {w : World} {c : Nat} (h : w.heap[c]? = some (.cells (Try.zeroCells57) 57 (0, 0))) : RI (w.setCells c 0 (bA sbL).toList) c 0 (.slice none 0 0) 0 := by
  obtain ⟨A', h1, h2, h3, h4⟩ := setCells_block c 57 (0, 0) (bA sbL).toList 0 w _ h
  have hl : (bA sbL).toList.length = 256 := by rw [Array.length_toList, bA_size, sbL_len]
  refine ⟨A', h1, h2.trans z67.1, fun j hj => ?_, fun j hj => absurd hj (by omega), ?_, ?_⟩
  · have := h3 j (by omega) (by rw [z67.1]; omega)
    rw [Nat.zero_add] at this
    rw [this, Array.getElem?_toList, bA_get sbL j (by rw [sbL_len]; exact hj)]
    simp [sbL, hj]
  · rw [h4 512 (.inr (by omega))]; exact z67.2.1
  · rw [h4 513 (.inr (by omega))]; exact z67.2.2
theorem take4 (key : List Nat) (i : Nat) (h : 4 * i + 4 ≤ key.length) : key.take (4 * (i + 1)) = key.take (4 * i) ++ [key.getD (4 * i) 0, key.getD (4 * i + 1) 0, key.getD (4 * i + 2) 0, key.getD (4 * i + 3) 0] := by
  have e : ∀ m, m < key.length → key.take (m + 1) = key.take m ++ [key.getD m 0] := fun m hm => by
    rw [List.take_succ_eq_append_getElem hm, List.getD_eq_getElem?_getD, List.getElem?_eq_getElem hm]; rfl
  rw [show 4 * (i + 1) = 4 * i + 1 + 1 + 1 + 1 by omega, e _ (by omega), e _ (by omega), e _ (by omega), e _ (by omega)]
  simp
set_option maxRecDepth 100000 in
set_option maxHeartbeats 16000000 in
theorem rnew_c (n gk o len cap : Nat) (hn : n = 4 ∨ n = 8) (key : List Nat) (hlen : len = 4 * n) (hkl : key.length = 4 * n) (hkb : ∀ x ∈ key, x < 256) (hcap : len ≤ cap) (w : World) (hg : gk < w.heap.size)
    (hk : ∀ j, j < 4 * n → w.cell? ⟨gk, o + j, none⟩ = some (.int .u8 ((key.getD j 0 : Nat) : Int))) :
    Calls Try.prog 5 #[.slice (some ⟨gk, o, none⟩) len cap] w fun e w' =>
      ∃ c g cp, e = .returned (.pointer (some ⟨c, 0, none⟩)) ∧ RCip w' c g (4 * (n + 7)) cp (n + 6) (sched n key (3 * n + 28)) ∧ Below w.heap.size w w' := by
  have HN := Lib.hid hn
  have HLEN := Lib.hid hlen
  have HKL := Lib.hid hkl
  have HKB := Lib.hid hkb
  have HK := Lib.hid hk
  have HCAP := Lib.hid hcap
  clear hn hlen hkl hkb hk hcap
  go_enter Try.func5, Try.ntmps5
  have hW1 := heap_new' w (.cells (Try.zeroCells57) 57)
  have hBL1 : Below w.heap.size w (w.alloc (.cells (Try.zeroCells57) 57)) := (Below.refl _ _).alloc (Nat.le_refl _) _
  have HW1 := Lib.hid hW1
  have HBL1 := Lib.hid hBL1
  clear hW1 hBL1
  go_wp2_with fail
  refine (table_c _).mono ?_
  rintro e w1 ⟨B, rfl, hb1⟩
  have HH1 := Lib.hid ((hb1.block _ (lt_of_block HW1.out)).trans HW1.out)
  have HB1 : Hid (Below w.heap.size w w1) := HBL1.out.trans (hb1.mono HBL1.out.size)
  clear hb1 HW1 HBL1
  have hth : w1.there w.heap.size 0 (bA sbL).size := fun j hj => by
    rw [bA_size, sbL_len] at hj
    refine ⟨?_, ?_⟩
    · rw [cells_at HH1.out]; simp [z67.1]; omega
    · exact free_at HH1.out _
  have HTH := Lib.hid hth
  clear hth
  go_wp2_with (first
    | (refine wpList_store_mid rfl 54 (.tmp 19) (.tmp 16) rfl w.heap.size 0 (bA sbL) rfl rfl HTH.out (by rw [t256, bA_size, sbL_len]) (bA_one _) ?_; generalize hW2 : World.setCells _ _ _ _ = W2; have HRI : Hid (RI W2 w.heap.size 0 (.slice none 0 0) 0) := (by rw [← hW2]; exact ri_start HH1.out); have HB2 : Hid (Below w.heap.size w W2) := (by rw [← hW2]; exact below_setCells _ (Nat.le_refl _) _ _ _ HB1.out); clear hW2)
    | fail)
  go_loopw [4] (fun vi wr => ∃ k : Nat, k ≤ 256 ∧ vi = .int .i64 (k : Int) ∧ Hid (RI wr w.heap.size k (.slice none 0 0) 0) ∧ Hid (Below w.heap.size w wr)) (fun vi _ => 256 - (intOf vi).toNat)
  case atStart => exact ⟨0, by omega, rfl, HRI, HB2⟩
  case round =>
    clear HRI HB2 HB1 HH1 HTH
    obtain ⟨k, hk, rfl, hri, hbel⟩ := hrel
    by_cases hlt : k < 256
    · have hd : decide ((k : Int) < 256) = true := by simp; omega
      obtain ⟨⟨x0, c0⟩, f0⟩ := hri.out.cell (256 + k) (by omega)
      have e1 : IntKind.u8.wrap (k : Int) = (k : Int) := by rw [IntKind.wrap_u8]; omega
      have d6 : (k : Int) < 256 := by omega
      have HM : Hid (∀ w, Calls Try.prog 14 #[.int .u8 2, .int .u8 (k : Int)] w fun e w' => e = .returned (.int .u8 ((tw k : Nat) : Int)) ∧ w' = w) := fun w => (mulref_c 2 k (by omega) hlt w).mono fun _ _ h => ⟨by rw [h.1, gmul2 k hlt], h.2.symm⟩
      have n0 := hri.out.twice hlt
      generalize tw k = y at HM n0
      have N0 := Lib.hid n0
      have hcl := hri.out.lt
      clear n0
      go_wp2
      refine wp_region_still_tail 8 (by kernel_rfl) (by kernel_rfl) ?_
      simp only [List.take_succ_cons, List.take_zero, List.drop_succ_cons, List.drop_zero]
      change wpStill _ _ wr.drew _ _ _
      repeat still_step
      still_call (HM.out _)
      repeat still_step
      refine wpStill_nil ?_
      change wpList _ _ _ _ _ wr.drew
      go_wp2
      go_roundw
      case rel => exact ⟨k + 1, by omega, by go_num, N0.out, hbel.out.drew.setCell (by simp) _⟩
      case measure => simp [intOf]; omega
    · have hk256 : k = 256 := by omega
      have hd : decide ((k : Int) < 256) = false := by simp; omega
      rw [hk256] at hri
      clear hk256
      have en : IntKind.i64.wrap ((len : Int) / 4) = (n : Int) := by have := HLEN.out; have := HN.out; rw [IntWalk.i64_in _ (by omega)]; omega
      have en6 : IntKind.i64.wrap ((n : Int) + 6) = ((n + 6 : Nat) : Int) := by have := HN.out; rw [IntWalk.i64_in _ (by omega)]; omega
      obtain ⟨⟨x0, c0⟩, f0⟩ := hri.out.cell 513 (by omega)
      have n0 := hri.out.rounds (Nat.le_refl _) ((n + 6 : Nat) : Int)
      have HR0 : Hid (RI (wr.setCell ⟨w.heap.size, 513, none⟩ (.int .i64 ((n + 6 : Nat) : Int))) w.heap.size 256 (.slice none 0 0) ((n + 6 : Nat) : Int)) := n0
      have HBL : Hid (Below w.heap.size w (wr.setCell ⟨w.heap.size, 513, none⟩ (.int .i64 ((n + 6 : Nat) : Int)))) := hbel.out.setCell (by simp) _
      obtain ⟨rd, hrd⟩ : ∃ rd, rd = n + 6 := ⟨_, rfl⟩
      have HRD := Lib.hid hrd
      rw [← hrd] at HR0 HBL en6
      clear hri hbel n0 hrd
      go_wp2
      go_loopw [6] (fun vi wr => ∃ i : Nat, i ≤ n ∧ vi = .int .i64 (i : Int) ∧ ∃ v, Hid (RI wr w.heap.size 256 v (rd : Int)) ∧ Hid (wr.ownsRow (w.heap.size + 1) 61 4 v i (u8L (key.take (4 * i)))) ∧ Hid (Below w.heap.size w wr)) (fun vi _ => n - (intOf vi).toNat)
      case atStart => exact ⟨0, by omega, rfl, _, HR0, ⟨rfl, .inl ⟨rfl, rfl⟩⟩, HBL⟩
      case round =>
        clear HR0 HBL c0 f0
        obtain ⟨i, hi, rfl, v, hri, hown, hbel⟩ := hrel
        by_cases hlt : i < n
        · have hd : decide ((i : Int) < (n : Int)) = true := by simp; omega
          have hi8 : i < 8 := by have := HN.out; omega
          have e0 : IntKind.i64.wrap (4 * (i : Int)) = 4 * (i : Int) := IntWalk.i64_in _ (by omega)
          have e1 : IntKind.i64.wrap (4 * (i : Int) + 1) = 4 * (i : Int) + 1 := IntWalk.i64_in _ (by omega)
          have e2 : IntKind.i64.wrap (4 * (i : Int) + 2) = 4 * (i : Int) + 2 := IntWalk.i64_in _ (by omega)
          have e3 : IntKind.i64.wrap (4 * (i : Int) + 3) = 4 * (i : Int) + 3 := IntWalk.i64_in _ (by omega)
          have l0 : 4 * (i : Int) < (len : Int) := by have := HLEN.out; omega
          have l1 : 4 * (i : Int) + 1 < (len : Int) := by have := HLEN.out; omega
          have l2 : 4 * (i : Int) + 2 < (len : Int) := by have := HLEN.out; omega
          have l3 : 4 * (i : Int) + 3 < (len : Int) := by have := HLEN.out; omega
          have p0 : (0 : Int) ≤ 4 * (i : Int) := by omega
          have p1 : (0 : Int) ≤ 4 * (i : Int) + 1 := by omega
          have p2 : (0 : Int) ≤ 4 * (i : Int) + 2 := by omega
          have p3 : (0 : Int) ≤ 4 * (i : Int) + 3 := by omega
          have t0 : (4 * (i : Int)).toNat = 4 * i := by omega
          have t1 : (4 * (i : Int) + 1).toNat = 4 * i + 1 := by omega
          have t2 : (4 * (i : Int) + 2).toNat = 4 * i + 2 := by omega
          have t3 : (4 * (i : Int) + 3).toNat = 4 * i + 3 := by omega
          have HTK := Lib.hid (take4 key i (by rw [HKL.out]; omega))
          have q0 := HK.out (4 * i) (by omega)
          have q1 := HK.out (4 * i + 1) (by omega)
          have q2 := HK.out (4 * i + 2) (by omega)
          have q3 := HK.out (4 * i + 3) (by omega)
          generalize key.getD (4 * i) 0 = x0 at q0 HTK
          generalize key.getD (4 * i + 1) 0 = x1 at q1 HTK
          generalize key.getD (4 * i + 2) 0 = x2 at q2 HTK
          generalize key.getD (4 * i + 3) 0 = x3 at q3 HTK
          have hst : ∀ w' : World, w'.heap[w.heap.size]? = wr.heap[w.heap.size]? → w'.heap[gk]? = wr.heap[gk]? → w'.cell? ⟨w.heap.size, 512, none⟩ = some v ∧ w'.cell? ⟨gk, o + 4 * i, none⟩ = some (.int .u8 (x0 : Int)) ∧ w'.cell? ⟨gk, o + (4 * i + 1), none⟩ = some (.int .u8 (x1 : Int)) ∧ w'.cell? ⟨gk, o + (4 * i + 2), none⟩ = some (.int .u8 (x2 : Int)) ∧ w'.cell? ⟨gk, o + (4 * i + 3), none⟩ = some (.int .u8 (x3 : Int)) := fun w' h1 h2 => by
            have hgb : ∀ j, w'.cell? ⟨gk, j, none⟩ = w.cell? ⟨gk, j, none⟩ := fun j => (World.cell?_of_block (a := ⟨gk, j, none⟩) h2).trans (hbel.out.cell (p := ⟨gk, j, none⟩) hg)
            exact ⟨(hri.out.of h1).cwords, (hgb _).trans q0, (hgb _).trans q1, (hgb _).trans q2, (hgb _).trans q3⟩
          have HST := Lib.hid hst
          have hcl := hri.out.lt
          obtain ⟨i0, hi0, hz0, hz1, hz2⟩ := info_parts info4
          clear hst q0 q1 q2 q3
          go_wp2
          refine wp_region_noPanic ?_
          refine wp_region_T (S := fun w' => w'.cell? ⟨w.heap.size, 512, none⟩ = some v ∧ w'.cell? ⟨gk, o + 4 * i, none⟩ = some (.int .u8 (x0 : Int)) ∧ w'.cell? ⟨gk, o + (4 * i + 1), none⟩ = some (.int .u8 (x1 : Int)) ∧ w'.cell? ⟨gk, o + (4 * i + 2), none⟩ = some (.int .u8 (x2 : Int)) ∧ w'.cell? ⟨gk, o + (4 * i + 3), none⟩ = some (.int .u8 (x3 : Int))) (z := 33) (by kernel_rfl) ?_
          have hS := HST.out wr.drew rfl rfl
          have HGK : Hid (gk < wr.heap.size) := Nat.lt_of_lt_of_le hg hbel.out.size
          have hown0 : Hid (wr.drew.ownsRow (w.heap.size + 1) 61 4 v i (u8L (key.take (4 * i)))) := hown.out
          have hri0 : Hid (RI wr.drew w.heap.size 256 v (rd : Int)) := hri.out
          have hbel0 : Hid (Below w.heap.size w wr.drew) := hbel.out.drew
          have hsz : wr.drew.heap.size = wr.heap.size := rfl
          have hh : wr.drew.heap = wr.heap := rfl
          have HSZ := Lib.hid hsz
          have HH := Lib.hid hh
          clear hsz hh
          generalize wr.drew = WD at *
          change wpAnyT _ _ _ _ _ _ 34 #[false, false, false, false, false, false, false, false, false, false, false, false, false, false, false, false, false, false, false, false, false, false, false, false, false, false, false, false, false, false, false, false, false, false] _ _
          refine wpAnyT_take (i := 0) (v := ?_) rfl (by kernel_rfl) (by kernel_rfl) (by kernel_rfl) (by kernel_rfl) (fun _ _ _ h => h) (Or.inl ⟨by rfl, ?hy⟩) hS ?_
          case hy => intro w' hSw; obtain ⟨hw0, hw1, hw2, hw3, hw4⟩ := hSw; go_simp; try with_reducible rfl
          simp only [List.getElem_toArray, List.getElem_cons_succ, List.getElem_cons_zero, Act.put, List.setIfInBounds_toArray, List.set_cons_zero, List.set_cons_succ]
          change wpAnyT _ _ _ _ _ _ 33 #[true, false, false, false, false, false, false, false, false, false, false, false, false, false, false, false, false, false, false, false, false, false, false, false, false, false, false, false, false, false, false, false, false, false] _ _
          refine wpAnyT_take (i := 1) (v := ?_) rfl (by kernel_rfl) (by kernel_rfl) (by kernel_rfl) (by kernel_rfl) (fun _ _ _ h => h) (Or.inl ⟨by rfl, ?hy⟩) hS ?_
          case hy => intro w' hSw; obtain ⟨hw0, hw1, hw2, hw3, hw4⟩ := hSw; go_simp; try with_reducible rfl
          simp only [List.getElem_toArray, List.getElem_cons_succ, List.getElem_cons_zero, Act.put, List.setIfInBounds_toArray, List.set_cons_zero, List.set_cons_succ]
          change wpAnyT _ _ _ _ _ _ 32 #[true, true, false, false, false, false, false, false, false, false, false, false, false, false, false, false, false, false, false, false, false, false, false, false, false, false, false, false, false, false, false, false, false, false] _ _
          refine wpAnyT_take (i := 2) (v := ?_) rfl (by kernel_rfl) (by kernel_rfl) (by kernel_rfl) (by kernel_rfl) (fun _ _ _ h => h) (Or.inl ⟨by rfl, ?hy⟩) hS ?_
          case hy => intro w' hSw; obtain ⟨hw0, hw1, hw2, hw3, hw4⟩ := hSw; go_simp; try with_reducible rfl
          simp only [List.getElem_toArray, List.getElem_cons_succ, List.getElem_cons_zero, Act.put, List.setIfInBounds_toArray, List.set_cons_zero, List.set_cons_succ]
          change wpAnyT _ _ _ _ _ _ 31 #[true, true, true, false, false, false, false, false, false, false, false, false, false, false, false, false, false, false, false, false, false, false, false, false, false, false, false, false, false, false, false, false, false, false] _ _
          refine wpAnyT_take (i := 3) (v := ?_) rfl (by kernel_rfl) (by kernel_rfl) (by kernel_rfl) (by kernel_rfl) (fun _ _ _ h => h) (Or.inl ⟨by rfl, ?hy⟩) hS ?_
          case hy => intro w' hSw; obtain ⟨hw0, hw1, hw2, hw3, hw4⟩ := hSw; go_simp; try with_reducible rfl
          simp only [List.getElem_toArray, List.getElem_cons_succ, List.getElem_cons_zero, Act.put, List.setIfInBounds_toArray, List.set_cons_zero, List.set_cons_succ]
          change wpAnyT _ _ _ _ _ _ 30 #[true, true, true, true, false, false, false, false, false, false, false, false, false, false, false, false, false, false, false, false, false, false, false, false, false, false, false, false, false, false, false, false, false, false] _ _
          refine wpAnyT_take (i := 4) (v := ?_) rfl (by kernel_rfl) (by kernel_rfl) (by kernel_rfl) (by kernel_rfl) (fun _ _ _ h => h) (Or.inl ⟨by rfl, ?hy⟩) hS ?_
          case hy => intro w' hSw; obtain ⟨hw0, hw1, hw2, hw3, hw4⟩ := hSw; go_simp; try with_reducible rfl
          simp only [List.getElem_toArray, List.getElem_cons_succ, List.getElem_cons_zero, Act.put, List.setIfInBounds_toArray, List.set_cons_zero, List.set_cons_succ]
          change wpAnyT _ _ _ _ _ _ 29 #[true, true, true, true, true, false, false, false, false, false, false, false, false, false, false, false, false, false, false, false, false, false, false, false, false, false, false, false, false, false, false, false, false, false] _ _
          refine wpAnyT_take (i := 5) (v := ?_) rfl (by kernel_rfl) (by kernel_rfl) (by kernel_rfl) (by kernel_rfl) (fun _ _ _ h => h) (Or.inl ⟨by rfl, ?hy⟩) hS ?_
          case hy => intro w' hSw; obtain ⟨hw0, hw1, hw2, hw3, hw4⟩ := hSw; go_simp; try with_reducible rfl
          simp only [List.getElem_toArray, List.getElem_cons_succ, List.getElem_cons_zero, Act.put, List.setIfInBounds_toArray, List.set_cons_zero, List.set_cons_succ]
          change wpAnyT _ _ _ _ _ _ 28 #[true, true, true, true, true, true, false, false, false, false, false, false, false, false, false, false, false, false, false, false, false, false, false, false, false, false, false, false, false, false, false, false, false, false] _ _
          refine wpAnyT_take (i := 6) (v := ?_) rfl (by kernel_rfl) (by kernel_rfl) (by kernel_rfl) (by kernel_rfl) (fun _ _ _ h => h) (Or.inl ⟨by rfl, ?hy⟩) hS ?_
          case hy => intro w' hSw; obtain ⟨hw0, hw1, hw2, hw3, hw4⟩ := hSw; go_simp; try with_reducible rfl
          simp only [List.getElem_toArray, List.getElem_cons_succ, List.getElem_cons_zero, Act.put, List.setIfInBounds_toArray, List.set_cons_zero, List.set_cons_succ]
          change wpAnyT _ _ _ _ _ _ 27 #[true, true, true, true, true, true, true, false, false, false, false, false, false, false, false, false, false, false, false, false, false, false, false, false, false, false, false, false, false, false, false, false, false, false] _ _
          refine wpAnyT_take (i := 7) (v := ?_) rfl (by kernel_rfl) (by kernel_rfl) (by kernel_rfl) (by kernel_rfl) (fun _ _ _ h => h) (Or.inl ⟨by rfl, ?hy⟩) hS ?_
          case hy => intro w' hSw; obtain ⟨hw0, hw1, hw2, hw3, hw4⟩ := hSw; go_simp; try with_reducible rfl
          simp only [List.getElem_toArray, List.getElem_cons_succ, List.getElem_cons_zero, Act.put, List.setIfInBounds_toArray, List.set_cons_zero, List.set_cons_succ]
          change wpAnyT _ _ _ _ _ _ 26 #[true, true, true, true, true, true, true, true, false, false, false, false, false, false, false, false, false, false, false, false, false, false, false, false, false, false, false, false, false, false, false, false, false, false] _ _
          refine wpAnyT_take (i := 8) (v := ?_) rfl (by kernel_rfl) (by kernel_rfl) (by kernel_rfl) (by kernel_rfl) (fun _ _ _ h => h) (Or.inl ⟨by rfl, ?hy⟩) hS ?_
          case hy => intro w' hSw; obtain ⟨hw0, hw1, hw2, hw3, hw4⟩ := hSw; go_simp; try with_reducible rfl
          simp only [List.getElem_toArray, List.getElem_cons_succ, List.getElem_cons_zero, Act.put, List.setIfInBounds_toArray, List.set_cons_zero, List.set_cons_succ]
          change wpAnyT _ _ _ _ _ _ 25 #[true, true, true, true, true, true, true, true, true, false, false, false, false, false, false, false, false, false, false, false, false, false, false, false, false, false, false, false, false, false, false, false, false, false] _ _
          refine wpAnyT_take (i := 9) (v := ?_) rfl (by kernel_rfl) (by kernel_rfl) (by kernel_rfl) (by kernel_rfl) (fun _ _ _ h => h) (Or.inl ⟨by rfl, ?hy⟩) hS ?_
          case hy => intro w' hSw; obtain ⟨hw0, hw1, hw2, hw3, hw4⟩ := hSw; go_simp; try with_reducible rfl
          simp only [List.getElem_toArray, List.getElem_cons_succ, List.getElem_cons_zero, Act.put, List.setIfInBounds_toArray, List.set_cons_zero, List.set_cons_succ]
          change wpAnyT _ _ _ _ _ _ 24 #[true, true, true, true, true, true, true, true, true, true, false, false, false, false, false, false, false, false, false, false, false, false, false, false, false, false, false, false, false, false, false, false, false, false] _ _
          refine wpAnyT_take (i := 10) (v := ?_) rfl (by kernel_rfl) (by kernel_rfl) (by kernel_rfl) (by kernel_rfl) (fun _ _ _ h => h) (Or.inl ⟨by rfl, ?hy⟩) hS ?_
          case hy => intro w' hSw; obtain ⟨hw0, hw1, hw2, hw3, hw4⟩ := hSw; go_simp; try with_reducible rfl
          simp only [List.getElem_toArray, List.getElem_cons_succ, List.getElem_cons_zero, Act.put, List.setIfInBounds_toArray, List.set_cons_zero, List.set_cons_succ]
          change wpAnyT _ _ _ _ _ _ 23 #[true, true, true, true, true, true, true, true, true, true, true, false, false, false, false, false, false, false, false, false, false, false, false, false, false, false, false, false, false, false, false, false, false, false] _ _
          refine wpAnyT_take (i := 11) (v := ?_) rfl (by kernel_rfl) (by kernel_rfl) (by kernel_rfl) (by kernel_rfl) (fun _ _ _ h => h) (Or.inl ⟨by rfl, ?hy⟩) hS ?_
          case hy => intro w' hSw; obtain ⟨hw0, hw1, hw2, hw3, hw4⟩ := hSw; go_simp; try with_reducible rfl
          simp only [List.getElem_toArray, List.getElem_cons_succ, List.getElem_cons_zero, Act.put, List.setIfInBounds_toArray, List.set_cons_zero, List.set_cons_succ]
          change wpAnyT _ _ _ _ _ _ 22 #[true, true, true, true, true, true, true, true, true, true, true, true, false, false, false, false, false, false, false, false, false, false, false, false, false, false, false, false, false, false, false, false, false, false] _ _
          refine wpAnyT_take (i := 12) (v := ?_) rfl (by kernel_rfl) (by kernel_rfl) (by kernel_rfl) (by kernel_rfl) (fun _ _ _ h => h) (Or.inl ⟨by rfl, ?hy⟩) hS ?_
          case hy => intro w' hSw; obtain ⟨hw0, hw1, hw2, hw3, hw4⟩ := hSw; go_simp; try with_reducible rfl
          simp only [List.getElem_toArray, List.getElem_cons_succ, List.getElem_cons_zero, Act.put, List.setIfInBounds_toArray, List.set_cons_zero, List.set_cons_succ]
          change wpAnyT _ _ _ _ _ _ 21 #[true, true, true, true, true, true, true, true, true, true, true, true, true, false, false, false, false, false, false, false, false, false, false, false, false, false, false, false, false, false, false, false, false, false] _ _
          refine wpAnyT_take (i := 13) (v := ?_) rfl (by kernel_rfl) (by kernel_rfl) (by kernel_rfl) (by kernel_rfl) (fun _ _ _ h => h) (Or.inl ⟨by rfl, ?hy⟩) hS ?_
          case hy => intro w' hSw; obtain ⟨hw0, hw1, hw2, hw3, hw4⟩ := hSw; go_simp; try with_reducible rfl
          simp only [List.getElem_toArray, List.getElem_cons_succ, List.getElem_cons_zero, Act.put, List.setIfInBounds_toArray, List.set_cons_zero, List.set_cons_succ]
          change wpAnyT _ _ _ _ _ _ 20 #[true, true, true, true, true, true, true, true, true, true, true, true, true, true, false, false, false, false, false, false, false, false, false, false, false, false, false, false, false, false, false, false, false, false] _ _
          refine wpAnyT_take (i := 14) (v := ?_) rfl (by kernel_rfl) (by kernel_rfl) (by kernel_rfl) (by kernel_rfl) (fun _ _ _ h => h) (Or.inl ⟨by rfl, ?hy⟩) hS ?_
          case hy => intro w' hSw; obtain ⟨hw0, hw1, hw2, hw3, hw4⟩ := hSw; go_simp; try with_reducible rfl
          simp only [List.getElem_toArray, List.getElem_cons_succ, List.getElem_cons_zero, Act.put, List.setIfInBounds_toArray, List.set_cons_zero, List.set_cons_succ]
          change wpAnyT _ _ _ _ _ _ 19 #[true, true, true, true, true, true, true, true, true, true, true, true, true, true, true, false, false, false, false, false, false, false, false, false, false, false, false, false, false, false, false, false, false, false] _ _
          refine wpAnyT_take (i := 15) (v := ?_) rfl (by kernel_rfl) (by kernel_rfl) (by kernel_rfl) (by kernel_rfl) (fun _ _ _ h => h) (Or.inl ⟨by rfl, ?hy⟩) hS ?_
          case hy => intro w' hSw; obtain ⟨hw0, hw1, hw2, hw3, hw4⟩ := hSw; go_simp; try with_reducible rfl
          simp only [List.getElem_toArray, List.getElem_cons_succ, List.getElem_cons_zero, Act.put, List.setIfInBounds_toArray, List.set_cons_zero, List.set_cons_succ]
          change wpAnyT _ _ _ _ _ _ 18 #[true, true, true, true, true, true, true, true, true, true, true, true, true, true, true, true, false, false, false, false, false, false, false, false, false, false, false, false, false, false, false, false, false, false] _ _
          refine wpAnyT_take (i := 16) (v := ?_) rfl (by kernel_rfl) (by kernel_rfl) (by kernel_rfl) (by kernel_rfl) (fun _ _ _ h => h) (Or.inl ⟨by rfl, ?hy⟩) hS ?_
          case hy => intro w' hSw; obtain ⟨hw0, hw1, hw2, hw3, hw4⟩ := hSw; go_simp; try with_reducible rfl
          simp only [List.getElem_toArray, List.getElem_cons_succ, List.getElem_cons_zero, Act.put, List.setIfInBounds_toArray, List.set_cons_zero, List.set_cons_succ]
          change wpAnyT _ _ _ _ _ _ 17 #[true, true, true, true, true, true, true, true, true, true, true, true, true, true, true, true, true, false, false, false, false, false, false, false, false, false, false, false, false, false, false, false, false, false] _ _
          refine wpAnyT_take (i := 17) (v := ?_) rfl (by kernel_rfl) (by kernel_rfl) (by kernel_rfl) (by kernel_rfl) (fun _ _ _ h => h) (Or.inl ⟨by rfl, ?hy⟩) hS ?_
          case hy => intro w' hSw; obtain ⟨hw0, hw1, hw2, hw3, hw4⟩ := hSw; go_simp; try with_reducible rfl
          simp only [List.getElem_toArray, List.getElem_cons_succ, List.getElem_cons_zero, Act.put, List.setIfInBounds_toArray, List.set_cons_zero, List.set_cons_succ]
          change wpAnyT _ _ _ _ _ _ 16 #[true, true, true, true, true, true, true, true, true, true, true, true, true, true, true, true, true, true, false, false, false, false, false, false, false, false, false, false, false, false, false, false, false, false] _ _
          refine wpAnyT_take (i := 18) (v := ?_) rfl (by kernel_rfl) (by kernel_rfl) (by kernel_rfl) (by kernel_rfl) (fun _ _ _ h => h) (Or.inl ⟨by rfl, ?hy⟩) hS ?_
          case hy => intro w' hSw; obtain ⟨hw0, hw1, hw2, hw3, hw4⟩ := hSw; go_simp; try with_reducible rfl
          simp only [List.getElem_toArray, List.getElem_cons_succ, List.getElem_cons_zero, Act.put, List.setIfInBounds_toArray, List.set_cons_zero, List.set_cons_succ]
          change wpAnyT _ _ _ _ _ _ 15 #[true, true, true, true, true, true, true, true, true, true, true, true, true, true, true, true, true, true, true, false, false, false, false, false, false, false, false, false, false, false, false, false, false, false] _ _
          refine wpAnyT_take (i := 19) (v := ?_) rfl (by kernel_rfl) (by kernel_rfl) (by kernel_rfl) (by kernel_rfl) (fun _ _ _ h => h) (Or.inl ⟨by rfl, ?hy⟩) hS ?_
          case hy => intro w' hSw; obtain ⟨hw0, hw1, hw2, hw3, hw4⟩ := hSw; go_simp; try with_reducible rfl
          simp only [List.getElem_toArray, List.getElem_cons_succ, List.getElem_cons_zero, Act.put, List.setIfInBounds_toArray, List.set_cons_zero, List.set_cons_succ]
          change wpAnyT _ _ _ _ _ _ 14 #[true, true, true, true, true, true, true, true, true, true, true, true, true, true, true, true, true, true, true, true, false, false, false, false, false, false, false, false, false, false, false, false, false, false] _ _
          refine wpAnyT_take (i := 20) (v := ?_) rfl (by kernel_rfl) (by kernel_rfl) (by kernel_rfl) (by kernel_rfl) (fun _ _ _ h => h) (Or.inl ⟨by rfl, ?hy⟩) hS ?_
          case hy => intro w' hSw; obtain ⟨hw0, hw1, hw2, hw3, hw4⟩ := hSw; go_simp; try with_reducible rfl
          simp only [List.getElem_toArray, List.getElem_cons_succ, List.getElem_cons_zero, Act.put, List.setIfInBounds_toArray, List.set_cons_zero, List.set_cons_succ]
          change wpAnyT _ _ _ _ _ _ 13 #[true, true, true, true, true, true, true, true, true, true, true, true, true, true, true, true, true, true, true, true, true, false, false, false, false, false, false, false, false, false, false, false, false, false] _ _
          refine wpAnyT_take (i := 21) (v := ?_) rfl (by kernel_rfl) (by kernel_rfl) (by kernel_rfl) (by kernel_rfl) (fun _ _ _ h => h) (Or.inl ⟨by rfl, ?hy⟩) hS ?_
          case hy => intro w' hSw; obtain ⟨hw0, hw1, hw2, hw3, hw4⟩ := hSw; go_simp; try with_reducible rfl
          simp only [List.getElem_toArray, List.getElem_cons_succ, List.getElem_cons_zero, Act.put, List.setIfInBounds_toArray, List.set_cons_zero, List.set_cons_succ]
          change wpAnyT _ _ _ _ _ _ 12 #[true, true, true, true, true, true, true, true, true, true, true, true, true, true, true, true, true, true, true, true, true, true, false, false, false, false, false, false, false, false, false, false, false, false] _ _
          refine wpAnyT_take (i := 22) (v := ?_) rfl (by kernel_rfl) (by kernel_rfl) (by kernel_rfl) (by kernel_rfl) (fun _ _ _ h => h) (Or.inl ⟨by rfl, ?hy⟩) hS ?_
          case hy => intro w' hSw; obtain ⟨hw0, hw1, hw2, hw3, hw4⟩ := hSw; go_simp; try with_reducible rfl
          simp only [List.getElem_toArray, List.getElem_cons_succ, List.getElem_cons_zero, Act.put, List.setIfInBounds_toArray, List.set_cons_zero, List.set_cons_succ]
          change wpAnyT _ _ _ _ _ _ 11 #[true, true, true, true, true, true, true, true, true, true, true, true, true, true, true, true, true, true, true, true, true, true, true, false, false, false, false, false, false, false, false, false, false, false] _ _
          refine wpAnyT_take (i := 23) (v := ?_) rfl (by kernel_rfl) (by kernel_rfl) (by kernel_rfl) (by kernel_rfl) (fun _ _ _ h => h) (Or.inl ⟨by rfl, ?hy⟩) hS ?_
          case hy => intro w' hSw; obtain ⟨hw0, hw1, hw2, hw3, hw4⟩ := hSw; go_simp; try with_reducible rfl
          simp only [List.getElem_toArray, List.getElem_cons_succ, List.getElem_cons_zero, Act.put, List.setIfInBounds_toArray, List.set_cons_zero, List.set_cons_succ]
          change wpAnyT _ _ _ _ _ _ 10 #[true, true, true, true, true, true, true, true, true, true, true, true, true, true, true, true, true, true, true, true, true, true, true, true, false, false, false, false, false, false, false, false, false, false] _ _
          refine wpAnyT_take (i := 24) (v := ?_) rfl (by kernel_rfl) (by kernel_rfl) (by kernel_rfl) (by kernel_rfl) (fun _ _ _ h => h) (Or.inl ⟨by rfl, ?hy⟩) hS ?_
          case hy => intro w' hSw; obtain ⟨hw0, hw1, hw2, hw3, hw4⟩ := hSw; go_simp; try with_reducible rfl
          simp only [List.getElem_toArray, List.getElem_cons_succ, List.getElem_cons_zero, Act.put, List.setIfInBounds_toArray, List.set_cons_zero, List.set_cons_succ]
          change wpAnyT _ _ _ _ _ _ 9 #[true, true, true, true, true, true, true, true, true, true, true, true, true, true, true, true, true, true, true, true, true, true, true, true, true, false, false, false, false, false, false, false, false, false] _ _
          refine wpAnyT_take (i := 25) (v := ?_) rfl (by kernel_rfl) (by kernel_rfl) (by kernel_rfl) (by kernel_rfl) (fun _ _ _ h => h) (Or.inl ⟨by rfl, ?hy⟩) hS ?_
          case hy => intro w' hSw; obtain ⟨hw0, hw1, hw2, hw3, hw4⟩ := hSw; go_simp; try with_reducible rfl
          simp only [List.getElem_toArray, List.getElem_cons_succ, List.getElem_cons_zero, Act.put, List.setIfInBounds_toArray, List.set_cons_zero, List.set_cons_succ]
          change wpAnyT _ _ _ _ _ _ 8 #[true, true, true, true, true, true, true, true, true, true, true, true, true, true, true, true, true, true, true, true, true, true, true, true, true, true, false, false, false, false, false, false, false, false] _ _
          refine wpAnyT_take (i := 26) (v := ?_) rfl (by kernel_rfl) (by kernel_rfl) (by kernel_rfl) (by kernel_rfl) (fun _ _ _ h => h) (Or.inl ⟨by rfl, ?hy⟩) hS ?_
          case hy => intro w' hSw; obtain ⟨hw0, hw1, hw2, hw3, hw4⟩ := hSw; go_simp; try with_reducible rfl
          simp only [List.getElem_toArray, List.getElem_cons_succ, List.getElem_cons_zero, Act.put, List.setIfInBounds_toArray, List.set_cons_zero, List.set_cons_succ]
          change wpAnyT _ _ _ _ _ _ 7 #[true, true, true, true, true, true, true, true, true, true, true, true, true, true, true, true, true, true, true, true, true, true, true, true, true, true, true, false, false, false, false, false, false, false] _ _
          refine wpAnyT_take (i := 27) (v := ?_) rfl (by kernel_rfl) (by kernel_rfl) (by kernel_rfl) (by kernel_rfl) (fun _ _ _ h => h) (Or.inl ⟨by rfl, ?hy⟩) hS ?_
          case hy => intro w' hSw; obtain ⟨hw0, hw1, hw2, hw3, hw4⟩ := hSw; go_simp; try with_reducible rfl
          simp only [List.getElem_toArray, List.getElem_cons_succ, List.getElem_cons_zero, Act.put, List.setIfInBounds_toArray, List.set_cons_zero, List.set_cons_succ]
          change wpAnyT _ _ _ _ _ _ 6 #[true, true, true, true, true, true, true, true, true, true, true, true, true, true, true, true, true, true, true, true, true, true, true, true, true, true, true, true, false, false, false, false, false, false] _ _
          refine wpAnyT_take (i := 28) (v := ?_) rfl (by kernel_rfl) (by kernel_rfl) (by kernel_rfl) (by kernel_rfl) (fun _ _ _ h => h) (Or.inl ⟨by rfl, ?hy⟩) hS ?_
          case hy => intro w' hSw; obtain ⟨hw0, hw1, hw2, hw3, hw4⟩ := hSw; go_simp; try with_reducible rfl
          simp only [List.getElem_toArray, List.getElem_cons_succ, List.getElem_cons_zero, Act.put, List.setIfInBounds_toArray, List.set_cons_zero, List.set_cons_succ]
          change wpAnyT _ _ _ _ _ _ 5 #[true, true, true, true, true, true, true, true, true, true, true, true, true, true, true, true, true, true, true, true, true, true, true, true, true, true, true, true, true, false, false, false, false, false] _ _
          refine wpAnyT_ready (rs := [29]) (by kernel_rfl) (by simp) ?_
          refine AllReadyT.cons rfl (fun K hK => ?_) AllReadyT.nil
          rw [if_pos (by rfl)]
          go_simp
          have hoa : ∀ q, q < WD.heap.size → (World.alloc WD (.cells #[.int .u8 (x0 : Int), .int .u8 (x1 : Int), .int .u8 (x2 : Int), .int .u8 (x3 : Int)] 61)).heap[q]? = WD.heap[q]? := fun q hq => heap_old' WD _ q hq
          have hS1 := HST.out _ ((hoa _ (by have := HSZ.out; omega)).trans (by rw [HH.out])) ((hoa _ (by have := HGK.out; have := HSZ.out; omega)).trans (by rw [HH.out]))
          refine hK.out _ (World.alloc WD (.cells #[.int .u8 (x0 : Int), .int .u8 (x1 : Int), .int .u8 (x2 : Int), .int .u8 (x3 : Int)] 61)) (fun _ => hS1) ?_
          clear hK K
          simp only [List.getElem_toArray, List.getElem_cons_succ, List.getElem_cons_zero, Act.put, List.setIfInBounds_toArray, List.set_cons_zero, List.set_cons_succ]
          change wpAnyT _ _ _ _ _ _ 4 #[true, true, true, true, true, true, true, true, true, true, true, true, true, true, true, true, true, true, true, true, true, true, true, true, true, true, true, true, true, true, false, false, false, false] _ _
          refine wpAnyT_ready (rs := [30]) (by kernel_rfl) (by simp) ?_
          refine AllReadyT.cons rfl (fun K hK => ?_) AllReadyT.nil
          have hown1 := World.ownsRow.alloc hown0.out (.cells #[.int .u8 (x0 : Int), .int .u8 (x1 : Int), .int .u8 (x2 : Int), .int .u8 (x3 : Int)] 61)
          have hnew := heap_new' WD (.cells #[.int .u8 (x0 : Int), .int .u8 (x1 : Int), .int .u8 (x2 : Int), .int .u8 (x3 : Int)] 61)
          refine step_append_lies _ (by rfl) (.tmp 49) (.tmp 74) 55 (by rfl) (w.heap.size + 1) 61 i0 _ 4 4 Try.underlying55 hi0 hz0 hz1 hz2 rfl (by omega) v i (u8L (key.take (4 * i))) (by rfl) hown1 ⟨WD.heap.size, 0, none⟩ 1 1 (#[.int .u8 (x0 : Int), .int .u8 (x1 : Int), .int .u8 (x2 : Int), .int .u8 (x3 : Int)] : Array Value).toList (by rfl) (by simp) (World.news_of_block hnew) (by simp [Value.oneCell']) (by omega) (by unfold maxLen; omega) (by omega) (by have := HSZ.out; rw [World.size_alloc]; omega) _ rfl ?_
          intro g2 cp2 w3 hown3 hgrow3 hat hlt3
          have hlow : ∀ q, q < wr.heap.size → v.ownBlock ≠ some q → w3.heap[q]? = wr.heap[q]? := fun q hq hne => (hgrow3.block q (by have := HSZ.out; rw [World.size_alloc]; omega) (fun e => hne e.symm)).trans ((hoa q (by have := HSZ.out; omega)).trans (by rw [HH.out]))
          have hneC : v.ownBlock ≠ some w.heap.size := fun e => by have := own_ge hown0.out _ e; omega
          have hneG : v.ownBlock ≠ some gk := fun e => by have := own_ge hown0.out _ e; omega
          have hS2 := HST.out w3 (hlow _ hcl hneC) (hlow _ HGK.out hneG)
          refine hK.out _ _ (fun _ => hS2) ?_
          clear hK K
          simp only [List.getElem_toArray, List.getElem_cons_succ, List.getElem_cons_zero, Act.put, List.setIfInBounds_toArray, List.set_cons_zero, List.set_cons_succ]
          change wpAnyT _ _ _ _ _ _ 3 #[true, true, true, true, true, true, true, true, true, true, true, true, true, true, true, true, true, true, true, true, true, true, true, true, true, true, true, true, true, true, true, false, false, false] _ _
          refine wpAnyT_ready (rs := [31]) (by kernel_rfl) (by simp) ?_
          refine AllReadyT.cons rfl (fun K hK => ?_) AllReadyT.nil
          rw [if_pos (by rfl)]
          go_simp
          have hS3 := hS2
          refine hK.out _ _ (fun _ => hS3) ?_
          clear hK K
          simp only [List.getElem_toArray, List.getElem_cons_succ, List.getElem_cons_zero, Act.put, List.setIfInBounds_toArray, List.set_cons_zero, List.set_cons_succ]
          change wpAnyT _ _ _ _ _ _ 2 #[true, true, true, true, true, true, true, true, true, true, true, true, true, true, true, true, true, true, true, true, true, true, true, true, true, true, true, true, true, true, true, true, false, false] _ _
          refine wpAnyT_take (i := 32) (v := ?_) rfl (by kernel_rfl) (by kernel_rfl) (by kernel_rfl) (by kernel_rfl) (fun _ _ _ h => h) (Or.inl ⟨by rfl, ?hy⟩) hS3 ?_
          case hy => intro w' hSw; obtain ⟨hw0, hw1, hw2, hw3, hw4⟩ := hSw; go_simp; try with_reducible rfl
          simp only [List.getElem_toArray, List.getElem_cons_succ, List.getElem_cons_zero, Act.put, List.setIfInBounds_toArray, List.set_cons_zero, List.set_cons_succ]
          change wpAnyT _ _ _ _ _ _ 1 #[true, true, true, true, true, true, true, true, true, true, true, true, true, true, true, true, true, true, true, true, true, true, true, true, true, true, true, true, true, true, true, true, true, false] _ _
          refine wpAnyT_ready (rs := [33]) (by kernel_rfl) (by simp) ?_
          refine AllReadyT.cons rfl (fun K hK => ?_) AllReadyT.nil
          have hri3 := hri.out.of (hlow _ hcl hneC)
          obtain ⟨⟨xx, cB⟩, fB⟩ := hri3.cell 512 (by omega)
          have n0 := hri3.words (Nat.le_refl _) (.slice (some ⟨g2, 0, none⟩) (i + 1) cp2)
          have N0 := Lib.hid n0
          have HO3 := Lib.hid hown3
          clear n0 hown3
          rw [if_pos (by rfl)]
          go_simp
          refine hK.out _ _ (fun h => absurd h (by omega)) ?_
          clear hK K
          simp only [List.getElem_toArray, List.getElem_cons_succ, List.getElem_cons_zero, Act.put, List.setIfInBounds_toArray, List.set_cons_zero, List.set_cons_succ]
          change wpAnyT _ _ _ _ _ _ 0 #[true, true, true, true, true, true, true, true, true, true, true, true, true, true, true, true, true, true, true, true, true, true, true, true, true, true, true, true, true, true, true, true, true, true] _ _
          refine wpAnyT_done (by kernel_rfl) ?_ _
          refine NoPanic.normal ?_
          go_wp2
          go_roundw
          case rel =>
            refine ⟨i + 1, by omega, by go_num, _, N0.out, ?_, ?_⟩
            · rw [HTK.out]; exact own_keep (by simpa [u8L] using HO3.out) (fun q hq hq2 => Below.heap_setCell _ _ _ _ (by simp; omega))
            · exact ((hbel0.out.alloc hbel0.out.size _).grown hgrow3 (by have := HSZ.out; rw [World.size_alloc]; omega) (fun q e => by have := own_ge hown0.out q e; omega)).setCell (by simp) _
          case measure => simp [intOf]; omega
        · skip
          have hin : i = n := by omega
          have hd : decide ((i : Int) < (n : Int)) = false := by simp; omega
          have hsl : ∃ g cp, v = .slice (some ⟨g, 0, none⟩) n cp := by
            rcases hown.out.2 with ⟨_, h⟩ | ⟨g', cap', cur, h, _⟩
            · have := HN.out; omega
            · exact ⟨g', cap', by rw [h, hin]⟩
          obtain ⟨g0, cp0, rfl⟩ := hsl
          have hown2 : Hid (wr.ownsRow (w.heap.size + 1) 61 4 (.slice (some ⟨g0, 0, none⟩) n cp0) n (u8L (sched n key 0))) := by
            have := hown.out
            rw [hin, List.take_of_length_le (by have := HKL.out; omega)] at this; exact this
          clear hin hown
          go_wp2
          go_loopw [7, 8] (fun vp vi wr => ∃ k : Nat, k ≤ 3 * n + 28 ∧ vi = .int .i64 ((n + k : Nat) : Int) ∧ vp = .int .u8 ((powN 2 ((n + k - 1) / n) : Nat) : Int) ∧ ∃ g cp, Hid (RI wr w.heap.size 256 (.slice (some ⟨g, 0, none⟩) (n + k) cp) (rd : Int)) ∧ Hid (wr.ownsRow (w.heap.size + 1) 61 4 (.slice (some ⟨g, 0, none⟩) (n + k) cp) (n + k) (u8L (sched n key k))) ∧ Hid (Below w.heap.size w wr)) (fun _ vi _ => 4 * n + 28 - (intOf vi).toNat)
          case atStart => exact ⟨0, by omega, rfl, by rcases HN.out with rfl | rfl <;> rfl, g0, cp0, hri, hown2, hbel⟩
          case round =>
            clear hri hown2 hbel
            obtain ⟨k, hk, rfl, rfl, g, cp, hri, hown, hbel⟩ := hrel
            have HLB : Hid (∀ x ∈ sched n key k, x < 256) := sched_lt_of n key (by have := HN.out; omega) HKL.out HKB.out k
            have HLL : Hid ((sched n key k).length = 4 * (n + k)) := sched_len n key HKL.out k
            have crs := hri.out.crounds
            have cws := hri.out.cwords
            have er1 : IntKind.i64.wrap (4 * (rd : Int)) = 4 * (rd : Int) := by have := HRD.out; have := HN.out; exact IntWalk.i64_in _ (by omega)
            have er2 : IntKind.i64.wrap (4 * (rd : Int) + 4) = 4 * (rd : Int) + 4 := by have := HRD.out; have := HN.out; exact IntWalk.i64_in _ (by omega)
            by_cases hlt : k < 3 * n + 28
            · have HKK : Hid (k < 3 * n + 28) := hlt
              obtain ⟨pw, hpw⟩ : ∃ pw, pw = powN 2 ((n + k - 1) / n) := ⟨_, rfl⟩
              have HPW := Lib.hid hpw
              have hpwl : pw < 256 := by rw [hpw]; exact (pow2s _ (by have := HN.out; rcases this with rfl | rfl <;> omega)).2
              rw [← hpw]
              clear hpw
              obtain ⟨m, hm⟩ : ∃ m, m = n + k := ⟨_, rfl⟩
              have HM := Lib.hid hm
              rw [← hm] at hri hown cws HLL ⊢
              clear hm
              have hd2 : (m : Int) < 4 * (rd : Int) + 4 := by have := HM.out; have := HRD.out; omega
              obtain ⟨m1, hm1⟩ : ∃ m1, m1 = m - 1 := ⟨_, rfl⟩
              have HM1 := Lib.hid hm1
              have hmn : 4 ≤ m := by have := HM.out; have := HN.out; omega
              have em1 : IntKind.i64.wrap ((m : Int) - 1) = (m1 : Int) := by have := HM.out; have := HN.out; rw [IntWalk.i64_in _ (by omega)]; omega
              have lm1 : (m1 : Int) < (m : Int) := by omega
              have hr1 := own_range HLL.out hown.out m1 (by omega)
              obtain ⟨T, hT⟩ : ∃ T, T = colOf (sched n key k) m1 := ⟨_, rfl⟩
              have HT := Lib.hid hT
              have HTB : Hid (∀ j, T j < 256) := fun j => by rw [hT]; exact col_by HLB.out _ _
              rw [← hT] at hr1
              have HR1 := Lib.hid hr1
              have hcl := hri.out.lt
              obtain ⟨A0, hA0, _, _, _, _, hbg⟩ := own_cells HLL.out hown.out (by omega)
              have HGL : Hid (g < wr.heap.size) := lt_of_block hA0
              have HBG := Lib.hid hbg
              obtain ⟨md, hmd⟩ : ∃ md, md = m % n := ⟨_, rfl⟩
              have HMD := Lib.hid hmd
              have hn0 : (n : Int) ≠ 0 := by have := HN.out; omega
              have emd : (m : Int).tmod (n : Int) = (md : Int) := by rw [Int.tmod_eq_emod_of_nonneg (by omega), hmd]; rfl
              obtain ⟨tb, htb⟩ : ∃ tb, tb = wr.heap.size := ⟨_, rfl⟩
              have HTBE := Lib.hid htb
              have hnew1 : ∀ Z, (wr.alloc (.cells Z 61)).heap[tb]? = some (.cells Z 61 (0, 0)) := fun Z => by rw [htb]; exact heap_new' _ _
              have HNEW1 := Lib.hid hnew1
              clear hm1 hT hr1 hA0 hbg hmd hnew1 htb
              go_upto_if 100 with (first
                | (refine wpList_load_mid rfl 61 (.tmp 95) rfl g (m1 * 4) rfl (v4 T).toList _ HR1.out Try.underlying61 rfl (by rw [four4]; simp [v4]) ?_)
                | (rw [← HTBE.out]; refine wpList_store_row rfl 61 (.tmp 9) (.tmp 96) rfl tb (v4 T) rfl rfl 61 _ (HNEW1.out _) (by rw [four4]; simp [v4]) (by simp [v4]) (v4_one _) ?_; generalize hW5 : World.setRow _ _ _ = W5; have hT5 : Hid (W5.heap[tb]? = some (.cells (v4 T) 61 (0, 0))) := (by rw [← hW5]; exact setRow_heap _ _ _ _ _ _ (HNEW1.out _)); have hK5 : Hid (∀ q, q < tb → W5.heap[q]? = wr.heap[q]?) := (by rw [← hW5]; intro q hq; exact (setRow_other _ _ _ _ (by omega)).trans (heap_old' _ _ _ (by have := HTBE.out; omega))); have hB5 : Hid (Below w.heap.size w W5) := (by rw [← hW5]; exact below_setRow (hbel.out.alloc hbel.out.size _) (by have := HTBE.out; omega) _); clear hW5)
                | fail)
              go_cut [7] from 79 to 212 (fun vp wx => vp = .int .u8 ((powN 2 ((n + (k + 1) - 1) / n) : Nat) : Int) ∧ Hid (wx.heap[tb]? = some (.cells (v4 (nextN n m T)) 61 (0, 0))) ∧ Hid (∀ q, q < tb → wx.heap[q]? = wr.heap[q]?) ∧ Hid (Below w.heap.size w wx))
              case first =>
                by_cases hz : md = 0
                · have hzf : ((md : Int) == 0) = true := by simp [hz]
                  have HMD0 := Lib.hid hz
                  clear hz
                  have hri5 : Hid (RI W5 w.heap.size 256 (.slice (some ⟨g, 0, none⟩) m cp) (rd : Int)) := hri.out.of (hK5.out _ (by have := HTBE.out; omega))
                  have q0 := v4_cells hT5.out 0 (by omega)
                  have q1 := v4_cells hT5.out 1 (by omega)
                  have q2 := v4_cells hT5.out 2 (by omega)
                  have q3 := v4_cells hT5.out 3 (by omega)
                  have b0 := hri5.out.cbox (T 0) (HTB.out 0)
                  have b1 := hri5.out.cbox (T 1) (HTB.out 1)
                  have b2 := hri5.out.cbox (T 2) (HTB.out 2)
                  have b3 := hri5.out.cbox (T 3) (HTB.out 3)
                  have s1l := sbx_lt (T 1) (HTB.out 1)
                  have d0 : ((T 0 : Nat) : Int) < 256 := by have := HTB.out 0; omega
                  have d1 : ((T 1 : Nat) : Int) < 256 := by have := HTB.out 1; omega
                  have d2 : ((T 2 : Nat) : Int) < 256 := by have := HTB.out 2; omega
                  have d3 : ((T 3 : Nat) : Int) < 256 := by have := HTB.out 3; omega
                  have HNA : Hid (#[.int .u8 ((sbx (T 1) ^^^ pw : Nat) : Int), .int .u8 ((sbx (T 2) : Nat) : Int), .int .u8 ((sbx (T 3) : Nat) : Int), .int .u8 ((sbx (T 0) : Nat) : Int)] = v4 (nextN n m T)) := by
                    have := nextA n m T HN.out (by rw [← HMD.out]; exact HMD0.out) (by have := HM.out; omega)
                    rw [HM.out, ← HPW.out, ← HM.out] at this
                    exact this
                  generalize T 0 = t0 at q0 b0 d0 HNA
                  generalize T 1 = t1 at q1 b1 d1 HNA s1l
                  generalize T 2 = t2 at q2 b2 d2 HNA
                  generalize T 3 = t3 at q3 b3 d3 HNA
                  generalize sbx t0 = s0 at b0 HNA
                  generalize sbx t1 = s1 at b1 HNA s1l
                  generalize sbx t2 = s2 at b2 HNA
                  generalize sbx t3 = s3 at b3 HNA
                  have hxp : bits BinOp.xor IntKind.u8 (s1 : Int) (pw : Int) = ((s1 ^^^ pw : Nat) : Int) := u8x rfl rfl s1l hpwl
                  clear hri5
                  go_wp2
                  refine wp_region_still_tail 31 (by kernel_rfl) (by kernel_rfl) ?_
                  simp only [List.take_succ_cons, List.take_zero, List.drop_succ_cons, List.drop_zero]
                  change wpStill _ _ W5.drew _ _ _
                  repeat still_step
                  refine wpStill_nil ?_
                  change wpList _ _ _ _ _ W5.drew
                  go_wp2_with (first
                    | (refine wpList_store_row rfl 61 (.tmp 9) (.tmp 131) rfl tb #[.int .u8 ((s1 ^^^ pw : Nat) : Int), .int .u8 ((s2 : Nat) : Int), .int .u8 ((s3 : Nat) : Int), .int .u8 ((s0 : Nat) : Int)] rfl rfl 61 _ hT5.out (by rw [four4]; rfl) (by simp [v4]) (by simp [Value.oneCell']) ?_
                       generalize hW6 : World.setRow _ _ _ = W6; have hT6 : Hid (W6.heap[tb]? = some (.cells (v4 (nextN n m T)) 61 (0, 0))) := (by rw [← hW6, ← HNA.out]; exact setRow_heap _ _ _ _ _ _ hT5.out); have hK6 : Hid (∀ q, q < tb → W6.heap[q]? = wr.heap[q]?) := (by rw [← hW6]; intro q hq; exact (setRow_other _ _ _ _ (by omega)).trans (hK5.out q hq)); have hB6 : Hid (Below w.heap.size w W6) := (by rw [← hW6]; exact below_setRow hB5.out.drew (by have := HTBE.out; omega) _); clear hW6; have ct := (hri.out.of (hK6.out _ (by have := HTBE.out; omega))).ctw pw hpwl; have dpw : (pw : Int) < 256 := (by omega); generalize htw : tw pw = pw2 at ct; have HPW2 : Hid (pw2 = powN 2 ((n + (k + 1) - 1) / n)) := (by rw [← htw, HPW.out]; exact pow_next n k HN.out (by have := HN.out; have := HKK.out; omega) (by have := HM.out; have := HMD.out; have := HMD0.out; rw [← HM.out]; omega)); clear htw)
                    | fail)
                  go_meet
                  case rel => exact ⟨by rw [HPW2.out], hT6, hK6, hB6⟩
                · by_cases hb : n = 8 ∧ md = 4
                  · have HPS : Hid (pw = powN 2 ((n + (k + 1) - 1) / n)) := by show _ = _; rw [HPW.out]; exact pow_same n k HN.out (by rw [← HM.out, ← HMD.out]; exact hz)
                    have hzf : ((md : Int) == 0) = false := by simp; exact hz
                    have h8f : ((n : Int) == 8) = true := by simp [hb.1]
                    have e8f : (m : Int).tmod 8 = (md : Int) := by rw [← emd, hb.1]; rfl
                    have h4f : ((md : Int) == 4) = true := by simp [hb.2]
                    have HBB := Lib.hid hb
                    clear hz hb
                    have hri5 : Hid (RI W5 w.heap.size 256 (.slice (some ⟨g, 0, none⟩) m cp) (rd : Int)) := hri.out.of (hK5.out _ (by have := HTBE.out; omega))
                    have q0 := v4_cells hT5.out 0 (by omega)
                    have q1 := v4_cells hT5.out 1 (by omega)
                    have q2 := v4_cells hT5.out 2 (by omega)
                    have q3 := v4_cells hT5.out 3 (by omega)
                    have b0 := hri5.out.cbox (T 0) (HTB.out 0)
                    have b1 := hri5.out.cbox (T 1) (HTB.out 1)
                    have b2 := hri5.out.cbox (T 2) (HTB.out 2)
                    have b3 := hri5.out.cbox (T 3) (HTB.out 3)
                    have s1l := sbx_lt (T 1) (HTB.out 1)
                    have d0 : ((T 0 : Nat) : Int) < 256 := by have := HTB.out 0; omega
                    have d1 : ((T 1 : Nat) : Int) < 256 := by have := HTB.out 1; omega
                    have d2 : ((T 2 : Nat) : Int) < 256 := by have := HTB.out 2; omega
                    have d3 : ((T 3 : Nat) : Int) < 256 := by have := HTB.out 3; omega
                    have HNA : Hid (#[.int .u8 ((sbx (T 0) : Nat) : Int), .int .u8 ((sbx (T 1) : Nat) : Int), .int .u8 ((sbx (T 2) : Nat) : Int), .int .u8 ((sbx (T 3) : Nat) : Int)] = v4 (nextN n m T)) := nextB n m T HBB.out.1 (by rw [← HMD.out]; exact HBB.out.2)
                    generalize T 0 = t0 at q0 b0 d0 HNA
                    generalize T 1 = t1 at q1 b1 d1 HNA s1l
                    generalize T 2 = t2 at q2 b2 d2 HNA
                    generalize T 3 = t3 at q3 b3 d3 HNA
                    generalize sbx t0 = s0 at b0 HNA
                    generalize sbx t1 = s1 at b1 HNA s1l
                    generalize sbx t2 = s2 at b2 HNA
                    generalize sbx t3 = s3 at b3 HNA
                    clear hri5
                    go_wp2
                    refine wp_region_still_tail 29 (by kernel_rfl) (by kernel_rfl) ?_
                    simp only [List.take_succ_cons, List.take_zero, List.drop_succ_cons, List.drop_zero]
                    change wpStill _ _ W5.drew _ _ _
                    repeat still_step
                    refine wpStill_nil ?_
                    change wpList _ _ _ _ _ W5.drew
                    go_wp2_with (first
                      | (refine wpList_store_row rfl 61 (.tmp 9) (.tmp 173) rfl tb #[.int .u8 ((s0 : Nat) : Int), .int .u8 ((s1 : Nat) : Int), .int .u8 ((s2 : Nat) : Int), .int .u8 ((s3 : Nat) : Int)] rfl rfl 61 _ hT5.out (by rw [four4]; rfl) (by simp [v4]) (by simp [Value.oneCell']) ?_
                         generalize hW6 : World.setRow _ _ _ = W6; have hT6 : Hid (W6.heap[tb]? = some (.cells (v4 (nextN n m T)) 61 (0, 0))) := (by rw [← hW6, ← HNA.out]; exact setRow_heap _ _ _ _ _ _ hT5.out); have hK6 : Hid (∀ q, q < tb → W6.heap[q]? = wr.heap[q]?) := (by rw [← hW6]; intro q hq; exact (setRow_other _ _ _ _ (by omega)).trans (hK5.out q hq)); have hB6 : Hid (Below w.heap.size w W6) := (by rw [← hW6]; exact below_setRow hB5.out.drew (by have := HTBE.out; omega) _); clear hW6)
                      | fail)
                    go_meet
                    case rel => exact ⟨by rw [HPS.out], hT6, hK6, hB6⟩
                  · by_cases h8 : n = 8
                    · have HPS : Hid (pw = powN 2 ((n + (k + 1) - 1) / n)) := by show _ = _; rw [HPW.out]; exact pow_same n k HN.out (by rw [← HM.out, ← HMD.out]; exact hz)
                      have hzf : ((md : Int) == 0) = false := by simp; exact hz
                      have h8f : ((n : Int) == 8) = true := by simp [h8]
                      have e8f : (m : Int).tmod 8 = (md : Int) := by rw [← emd, h8]; rfl
                      have h4f : ((md : Int) == 4) = false := by simp; intro h; exact hb ⟨h8, by omega⟩
                      have HNC : Hid (¬ m % n = 0 ∧ ¬ (n = 8 ∧ m % n = 4)) := by rw [← HMD.out]; exact ⟨hz, hb⟩
                      clear hz hb h8
                      go_wp2
                      go_meet
                      case rel => exact ⟨by rw [HPS.out], by rw [← nextC n m T HNC.out.1 HNC.out.2 HN.out]; exact hT5.out, hK5, hB5.out⟩
                    · have HPS : Hid (pw = powN 2 ((n + (k + 1) - 1) / n)) := by show _ = _; rw [HPW.out]; exact pow_same n k HN.out (by rw [← HM.out, ← HMD.out]; exact hz)
                      have hzf : ((md : Int) == 0) = false := by simp; exact hz
                      have h8f : ((n : Int) == 8) = false := by simp; omega
                      have HNC : Hid (¬ m % n = 0 ∧ ¬ (n = 8 ∧ m % n = 4)) := by rw [← HMD.out]; exact ⟨hz, hb⟩
                      clear hz hb h8
                      go_wp2
                      go_meet
                      case rel => exact ⟨by rw [HPS.out], by rw [← nextC n m T HNC.out.1 HNC.out.2 HN.out]; exact hT5.out, hK5, hB5.out⟩
              case rest =>
                obtain ⟨rfl, hT6, hK6, hB6⟩ := hcut
                obtain ⟨pw2, hpw2⟩ : ∃ pw2, pw2 = powN 2 ((n + (k + 1) - 1) / n) := ⟨_, rfl⟩
                have HPW2 := Lib.hid hpw2
                rw [← hpw2]
                clear hpw2 hT5 hK5 hB5
                have HNX : Hid (∀ j, j < 4 → nextN n m T j < 256) := nextN_lt n m T (fun j _ => HTB.out j)
                have em2 : IntKind.i64.wrap ((m : Int) - (n : Int)) = (k : Int) := by have := HM.out; have := HN.out; have := HKK.out; rw [IntWalk.i64_in _ (by omega)]; omega
                have lkm : (k : Int) < (m : Int) := by have := HM.out; have := HN.out; omega
                have hown6 : Hid (wc.ownsRow (w.heap.size + 1) 61 4 (.slice (some ⟨g, 0, none⟩) m cp) m (u8L (sched n key k))) := own_keep hown.out (fun q _ hq => hK6.out q (by have := HTBE.out; omega))
                have hr2 := own_range HLL.out hown6.out k (by have := HM.out; have := HN.out; omega)
                have HX0 : Hid (u8L (sched n key (k + 1)) = u8L (sched n key k) ++ (v4 (xorN (colOf (sched n key k) k) (nextN n m T))).toList) := by
                  show _ = _
                  rw [sched_next', ← HM.out, ← HM1.out, ← HT.out]
                obtain ⟨Kf, hKf⟩ : ∃ Kf, Kf = colOf (sched n key k) k := ⟨_, rfl⟩
                have HKF : Hid (∀ j, Kf j < 256) := fun j => by rw [hKf]; exact col_by HLB.out _ _
                rw [← hKf] at hr2 HX0
                have HR2 := Lib.hid hr2
                have hri6 : Hid (RI wc w.heap.size 256 (.slice (some ⟨g, 0, none⟩) m cp) (rd : Int)) := hri.out.of (hK6.out _ (by have := HTBE.out; omega))
                have cws6 := hri6.out.cwords
                obtain ⟨ob, hob⟩ : ∃ ob, ob = wc.heap.size := ⟨_, rfl⟩
                have HOBE := Lib.hid hob
                have HTL6 : Hid (tb < wc.heap.size) := lt_of_block hT6.out
                have hnew2 : ∀ Z, (wc.alloc (.cells Z 61)).heap[ob]? = some (.cells Z 61 (0, 0)) := fun Z => by rw [hob]; exact heap_new' _ _
                have HNEW2 := Lib.hid hnew2
                clear hKf hr2 hob hnew2
                go_wp2_with (first
                  | (refine wpList_load_mid rfl 61 (.tmp 181) rfl g (k * 4) rfl (v4 Kf).toList _ HR2.out Try.underlying61 rfl (by rw [four4]; simp [v4]) ?_)
                  | (rw [← HOBE.out]; refine wpList_store_row rfl 61 (.tmp 10) (.tmp 182) rfl ob (v4 Kf) rfl rfl 61 _ (HNEW2.out _) (by rw [four4]; simp [v4]) (by simp [v4]) (v4_one _) ?_; generalize hW7 : World.setRow _ _ _ = W7; have hO7 : Hid (W7.heap[ob]? = some (.cells (v4 Kf) 61 (0, 0))) := (by rw [← hW7]; exact setRow_heap _ _ _ _ _ _ (HNEW2.out _)); have hK7 : Hid (∀ q, q < ob → W7.heap[q]? = wc.heap[q]?) := (by rw [← hW7]; intro q hq; exact (setRow_other _ _ _ _ (by omega)).trans (heap_old' _ _ _ (by have := HOBE.out; omega))); have hB7 : Hid (Below w.heap.size w W7) := (by rw [← hW7]; exact below_setRow (hB6.out.alloc hB6.out.size _) (by have := HOBE.out; have := hB6.out.size; omega) _); clear hW7)
                  | fail)
                have hT7 : Hid (W7.heap[tb]? = some (.cells (v4 (nextN n m T)) 61 (0, 0))) := (hK7.out _ (by have := HOBE.out; have := HTL6.out; omega)).trans hT6.out
                have hri7 : Hid (RI W7 w.heap.size 256 (.slice (some ⟨g, 0, none⟩) m cp) (rd : Int)) := hri6.out.of (hK7.out _ (by have := HOBE.out; have := hri6.out.lt; omega))
                have hown7 : Hid (W7.ownsRow (w.heap.size + 1) 61 4 (.slice (some ⟨g, 0, none⟩) m cp) m (u8L (sched n key k))) := own_keep hown6.out (fun q _ hq => hK7.out q (by have := HOBE.out; omega))
                have HOL : Hid (ob < W7.heap.size) := lt_of_block hO7.out
                have HTL : Hid (tb < W7.heap.size) := lt_of_block hT7.out
                have HCL7 : Hid (w.heap.size < W7.heap.size) := hri7.out.lt
                have k0l := HKF.out 0
                have k1l := HKF.out 1
                have k2l := HKF.out 2
                have k3l := HKF.out 3
                have n0l := HNX.out 0 (by omega)
                have n1l := HNX.out 1 (by omega)
                have n2l := HNX.out 2 (by omega)
                have n3l := HNX.out 3 (by omega)
                have hst : ∀ w' : World, w'.heap[w.heap.size]? = W7.heap[w.heap.size]? → w'.heap[ob]? = W7.heap[ob]? → w'.heap[tb]? = W7.heap[tb]? → w'.cell? ⟨w.heap.size, 512, none⟩ = some (.slice (some ⟨g, 0, none⟩) m cp) ∧ w'.cell? ⟨ob, 0, none⟩ = some (.int .u8 ((Kf 0 : Nat) : Int)) ∧ w'.cell? ⟨ob, 1, none⟩ = some (.int .u8 ((Kf 1 : Nat) : Int)) ∧ w'.cell? ⟨ob, 2, none⟩ = some (.int .u8 ((Kf 2 : Nat) : Int)) ∧ w'.cell? ⟨ob, 3, none⟩ = some (.int .u8 ((Kf 3 : Nat) : Int)) ∧
                    w'.cell? ⟨tb, 0, none⟩ = some (.int .u8 ((nextN n m T 0 : Nat) : Int)) ∧ w'.cell? ⟨tb, 1, none⟩ = some (.int .u8 ((nextN n m T 1 : Nat) : Int)) ∧ w'.cell? ⟨tb, 2, none⟩ = some (.int .u8 ((nextN n m T 2 : Nat) : Int)) ∧ w'.cell? ⟨tb, 3, none⟩ = some (.int .u8 ((nextN n m T 3 : Nat) : Int)) := fun w' h1 h2 h3 =>
                  ⟨(hri7.out.of h1).cwords, v4_cells (h2.trans hO7.out) 0 (by omega), v4_cells (h2.trans hO7.out) 1 (by omega), v4_cells (h2.trans hO7.out) 2 (by omega), v4_cells (h2.trans hO7.out) 3 (by omega), v4_cells (h3.trans hT7.out) 0 (by omega), v4_cells (h3.trans hT7.out) 1 (by omega), v4_cells (h3.trans hT7.out) 2 (by omega), v4_cells (h3.trans hT7.out) 3 (by omega)⟩
                have HX : Hid (u8L (sched n key (k + 1)) = u8L (sched n key k) ++ [.int .u8 ((Kf 0 ^^^ nextN n m T 0 : Nat) : Int), .int .u8 ((Kf 1 ^^^ nextN n m T 1 : Nat) : Int), .int .u8 ((Kf 2 ^^^ nextN n m T 2 : Nat) : Int), .int .u8 ((Kf 3 ^^^ nextN n m T 3 : Nat) : Int)]) := HX0.out
                clear HX0
                generalize Kf 0 = k0 at hst HX k0l
                generalize Kf 1 = k1 at hst HX k1l
                generalize Kf 2 = k2 at hst HX k2l
                generalize Kf 3 = k3 at hst HX k3l
                generalize nextN n m T 0 = n0 at hst HX n0l
                generalize nextN n m T 1 = n1 at hst HX n1l
                generalize nextN n m T 2 = n2 at hst HX n2l
                generalize nextN n m T 3 = n3 at hst HX n3l
                have x0 : bits BinOp.xor IntKind.u8 (k0 : Int) (n0 : Int) = ((k0 ^^^ n0 : Nat) : Int) := u8x rfl rfl k0l n0l
                have x1 : bits BinOp.xor IntKind.u8 (k1 : Int) (n1 : Int) = ((k1 ^^^ n1 : Nat) : Int) := u8x rfl rfl k1l n1l
                have x2 : bits BinOp.xor IntKind.u8 (k2 : Int) (n2 : Int) = ((k2 ^^^ n2 : Nat) : Int) := u8x rfl rfl k2l n2l
                have x3 : bits BinOp.xor IntKind.u8 (k3 : Int) (n3 : Int) = ((k3 ^^^ n3 : Nat) : Int) := u8x rfl rfl k3l n3l
                have HST := Lib.hid hst
                obtain ⟨i0, hi0, hz0, hz1, hz2⟩ := info_parts info4
                clear hst k0l k1l k2l k3l n0l n1l n2l n3l
                refine wp_region_noPanic ?_
                refine wp_region_T (S := fun w' => w'.cell? ⟨w.heap.size, 512, none⟩ = some (.slice (some ⟨g, 0, none⟩) m cp) ∧ w'.cell? ⟨ob, 0, none⟩ = some (.int .u8 ((k0 : Nat) : Int)) ∧ w'.cell? ⟨ob, 1, none⟩ = some (.int .u8 ((k1 : Nat) : Int)) ∧ w'.cell? ⟨ob, 2, none⟩ = some (.int .u8 ((k2 : Nat) : Int)) ∧ w'.cell? ⟨ob, 3, none⟩ = some (.int .u8 ((k3 : Nat) : Int)) ∧
                    w'.cell? ⟨tb, 0, none⟩ = some (.int .u8 ((n0 : Nat) : Int)) ∧ w'.cell? ⟨tb, 1, none⟩ = some (.int .u8 ((n1 : Nat) : Int)) ∧ w'.cell? ⟨tb, 2, none⟩ = some (.int .u8 ((n2 : Nat) : Int)) ∧ w'.cell? ⟨tb, 3, none⟩ = some (.int .u8 ((n3 : Nat) : Int))) (z := 30) (by kernel_rfl) ?_
                have hS := HST.out W7.drew rfl rfl rfl
                have hown0 : Hid (W7.drew.ownsRow (w.heap.size + 1) 61 4 (.slice (some ⟨g, 0, none⟩) m cp) m (u8L (sched n key k))) := hown7.out
                have hbel0 : Hid (Below w.heap.size w W7.drew) := hB7.out.drew
                have hsz : W7.drew.heap.size = W7.heap.size := rfl
                have hh : W7.drew.heap = W7.heap := rfl
                have HSZ := Lib.hid hsz
                have HH := Lib.hid hh
                clear hsz hh
                generalize W7.drew = WD at *
                change wpAnyT _ _ _ _ _ _ 31 #[false, false, false, false, false, false, false, false, false, false, false, false, false, false, false, false, false, false, false, false, false, false, false, false, false, false, false, false, false, false, false] _ _
                refine wpAnyT_take (i := 0) (v := ?_) rfl (by kernel_rfl) (by kernel_rfl) (by kernel_rfl) (by kernel_rfl) (fun _ _ _ h => h) (Or.inl ⟨by rfl, ?hy⟩) hS ?_
                case hy => intro w' hSw; obtain ⟨hw0, hw1, hw2, hw3, hw4, hw5, hw6, hw7, hw8⟩ := hSw; go_simp; try with_reducible rfl
                simp only [List.getElem_toArray, List.getElem_cons_succ, List.getElem_cons_zero, Act.put, List.setIfInBounds_toArray, List.set_cons_zero, List.set_cons_succ]
                change wpAnyT _ _ _ _ _ _ 30 #[true, false, false, false, false, false, false, false, false, false, false, false, false, false, false, false, false, false, false, false, false, false, false, false, false, false, false, false, false, false, false] _ _
                refine wpAnyT_take (i := 1) (v := ?_) rfl (by kernel_rfl) (by kernel_rfl) (by kernel_rfl) (by kernel_rfl) (fun _ _ _ h => h) (Or.inl ⟨by rfl, ?hy⟩) hS ?_
                case hy => intro w' hSw; obtain ⟨hw0, hw1, hw2, hw3, hw4, hw5, hw6, hw7, hw8⟩ := hSw; go_simp; try with_reducible rfl
                simp only [List.getElem_toArray, List.getElem_cons_succ, List.getElem_cons_zero, Act.put, List.setIfInBounds_toArray, List.set_cons_zero, List.set_cons_succ]
                change wpAnyT _ _ _ _ _ _ 29 #[true, true, false, false, false, false, false, false, false, false, false, false, false, false, false, false, false, false, false, false, false, false, false, false, false, false, false, false, false, false, false] _ _
                refine wpAnyT_take (i := 2) (v := ?_) rfl (by kernel_rfl) (by kernel_rfl) (by kernel_rfl) (by kernel_rfl) (fun _ _ _ h => h) (Or.inl ⟨by rfl, ?hy⟩) hS ?_
                case hy => intro w' hSw; obtain ⟨hw0, hw1, hw2, hw3, hw4, hw5, hw6, hw7, hw8⟩ := hSw; go_simp; try with_reducible rfl
                simp only [List.getElem_toArray, List.getElem_cons_succ, List.getElem_cons_zero, Act.put, List.setIfInBounds_toArray, List.set_cons_zero, List.set_cons_succ]
                change wpAnyT _ _ _ _ _ _ 28 #[true, true, true, false, false, false, false, false, false, false, false, false, false, false, false, false, false, false, false, false, false, false, false, false, false, false, false, false, false, false, false] _ _
                refine wpAnyT_take (i := 3) (v := ?_) rfl (by kernel_rfl) (by kernel_rfl) (by kernel_rfl) (by kernel_rfl) (fun _ _ _ h => h) (Or.inl ⟨by rfl, ?hy⟩) hS ?_
                case hy => intro w' hSw; obtain ⟨hw0, hw1, hw2, hw3, hw4, hw5, hw6, hw7, hw8⟩ := hSw; go_simp; try with_reducible rfl
                simp only [List.getElem_toArray, List.getElem_cons_succ, List.getElem_cons_zero, Act.put, List.setIfInBounds_toArray, List.set_cons_zero, List.set_cons_succ]
                change wpAnyT _ _ _ _ _ _ 27 #[true, true, true, true, false, false, false, false, false, false, false, false, false, false, false, false, false, false, false, false, false, false, false, false, false, false, false, false, false, false, false] _ _
                refine wpAnyT_take (i := 4) (v := ?_) rfl (by kernel_rfl) (by kernel_rfl) (by kernel_rfl) (by kernel_rfl) (fun _ _ _ h => h) (Or.inl ⟨by rfl, ?hy⟩) hS ?_
                case hy => intro w' hSw; obtain ⟨hw0, hw1, hw2, hw3, hw4, hw5, hw6, hw7, hw8⟩ := hSw; go_simp; try with_reducible rfl
                simp only [List.getElem_toArray, List.getElem_cons_succ, List.getElem_cons_zero, Act.put, List.setIfInBounds_toArray, List.set_cons_zero, List.set_cons_succ]
                change wpAnyT _ _ _ _ _ _ 26 #[true, true, true, true, true, false, false, false, false, false, false, false, false, false, false, false, false, false, false, false, false, false, false, false, false, false, false, false, false, false, false] _ _
                refine wpAnyT_take (i := 5) (v := ?_) rfl (by kernel_rfl) (by kernel_rfl) (by kernel_rfl) (by kernel_rfl) (fun _ _ _ h => h) (Or.inl ⟨by rfl, ?hy⟩) hS ?_
                case hy => intro w' hSw; obtain ⟨hw0, hw1, hw2, hw3, hw4, hw5, hw6, hw7, hw8⟩ := hSw; go_simp; try with_reducible rfl
                simp only [List.getElem_toArray, List.getElem_cons_succ, List.getElem_cons_zero, Act.put, List.setIfInBounds_toArray, List.set_cons_zero, List.set_cons_succ]
                change wpAnyT _ _ _ _ _ _ 25 #[true, true, true, true, true, true, false, false, false, false, false, false, false, false, false, false, false, false, false, false, false, false, false, false, false, false, false, false, false, false, false] _ _
                refine wpAnyT_take (i := 6) (v := ?_) rfl (by kernel_rfl) (by kernel_rfl) (by kernel_rfl) (by kernel_rfl) (fun _ _ _ h => h) (Or.inl ⟨by rfl, ?hy⟩) hS ?_
                case hy => intro w' hSw; obtain ⟨hw0, hw1, hw2, hw3, hw4, hw5, hw6, hw7, hw8⟩ := hSw; go_simp; try with_reducible rfl
                simp only [List.getElem_toArray, List.getElem_cons_succ, List.getElem_cons_zero, Act.put, List.setIfInBounds_toArray, List.set_cons_zero, List.set_cons_succ]
                change wpAnyT _ _ _ _ _ _ 24 #[true, true, true, true, true, true, true, false, false, false, false, false, false, false, false, false, false, false, false, false, false, false, false, false, false, false, false, false, false, false, false] _ _
                refine wpAnyT_take (i := 7) (v := ?_) rfl (by kernel_rfl) (by kernel_rfl) (by kernel_rfl) (by kernel_rfl) (fun _ _ _ h => h) (Or.inl ⟨by rfl, ?hy⟩) hS ?_
                case hy => intro w' hSw; obtain ⟨hw0, hw1, hw2, hw3, hw4, hw5, hw6, hw7, hw8⟩ := hSw; go_simp; try with_reducible rfl
                simp only [List.getElem_toArray, List.getElem_cons_succ, List.getElem_cons_zero, Act.put, List.setIfInBounds_toArray, List.set_cons_zero, List.set_cons_succ]
                change wpAnyT _ _ _ _ _ _ 23 #[true, true, true, true, true, true, true, true, false, false, false, false, false, false, false, false, false, false, false, false, false, false, false, false, false, false, false, false, false, false, false] _ _
                refine wpAnyT_take (i := 8) (v := ?_) rfl (by kernel_rfl) (by kernel_rfl) (by kernel_rfl) (by kernel_rfl) (fun _ _ _ h => h) (Or.inl ⟨by rfl, ?hy⟩) hS ?_
                case hy => intro w' hSw; obtain ⟨hw0, hw1, hw2, hw3, hw4, hw5, hw6, hw7, hw8⟩ := hSw; go_simp; try with_reducible rfl
                simp only [List.getElem_toArray, List.getElem_cons_succ, List.getElem_cons_zero, Act.put, List.setIfInBounds_toArray, List.set_cons_zero, List.set_cons_succ]
                change wpAnyT _ _ _ _ _ _ 22 #[true, true, true, true, true, true, true, true, true, false, false, false, false, false, false, false, false, false, false, false, false, false, false, false, false, false, false, false, false, false, false] _ _
                refine wpAnyT_take (i := 9) (v := ?_) rfl (by kernel_rfl) (by kernel_rfl) (by kernel_rfl) (by kernel_rfl) (fun _ _ _ h => h) (Or.inl ⟨by rfl, ?hy⟩) hS ?_
                case hy => intro w' hSw; obtain ⟨hw0, hw1, hw2, hw3, hw4, hw5, hw6, hw7, hw8⟩ := hSw; go_simp; try with_reducible rfl
                simp only [List.getElem_toArray, List.getElem_cons_succ, List.getElem_cons_zero, Act.put, List.setIfInBounds_toArray, List.set_cons_zero, List.set_cons_succ]
                change wpAnyT _ _ _ _ _ _ 21 #[true, true, true, true, true, true, true, true, true, true, false, false, false, false, false, false, false, false, false, false, false, false, false, false, false, false, false, false, false, false, false] _ _
                refine wpAnyT_take (i := 10) (v := ?_) rfl (by kernel_rfl) (by kernel_rfl) (by kernel_rfl) (by kernel_rfl) (fun _ _ _ h => h) (Or.inl ⟨by rfl, ?hy⟩) hS ?_
                case hy => intro w' hSw; obtain ⟨hw0, hw1, hw2, hw3, hw4, hw5, hw6, hw7, hw8⟩ := hSw; go_simp; try with_reducible rfl
                simp only [List.getElem_toArray, List.getElem_cons_succ, List.getElem_cons_zero, Act.put, List.setIfInBounds_toArray, List.set_cons_zero, List.set_cons_succ]
                change wpAnyT _ _ _ _ _ _ 20 #[true, true, true, true, true, true, true, true, true, true, true, false, false, false, false, false, false, false, false, false, false, false, false, false, false, false, false, false, false, false, false] _ _
                refine wpAnyT_take (i := 11) (v := ?_) rfl (by kernel_rfl) (by kernel_rfl) (by kernel_rfl) (by kernel_rfl) (fun _ _ _ h => h) (Or.inl ⟨by rfl, ?hy⟩) hS ?_
                case hy => intro w' hSw; obtain ⟨hw0, hw1, hw2, hw3, hw4, hw5, hw6, hw7, hw8⟩ := hSw; go_simp; try with_reducible rfl
                simp only [List.getElem_toArray, List.getElem_cons_succ, List.getElem_cons_zero, Act.put, List.setIfInBounds_toArray, List.set_cons_zero, List.set_cons_succ]
                change wpAnyT _ _ _ _ _ _ 19 #[true, true, true, true, true, true, true, true, true, true, true, true, false, false, false, false, false, false, false, false, false, false, false, false, false, false, false, false, false, false, false] _ _
                refine wpAnyT_take (i := 12) (v := ?_) rfl (by kernel_rfl) (by kernel_rfl) (by kernel_rfl) (by kernel_rfl) (fun _ _ _ h => h) (Or.inl ⟨by rfl, ?hy⟩) hS ?_
                case hy => intro w' hSw; obtain ⟨hw0, hw1, hw2, hw3, hw4, hw5, hw6, hw7, hw8⟩ := hSw; go_simp; try with_reducible rfl
                simp only [List.getElem_toArray, List.getElem_cons_succ, List.getElem_cons_zero, Act.put, List.setIfInBounds_toArray, List.set_cons_zero, List.set_cons_succ]
                change wpAnyT _ _ _ _ _ _ 18 #[true, true, true, true, true, true, true, true, true, true, true, true, true, false, false, false, false, false, false, false, false, false, false, false, false, false, false, false, false, false, false] _ _
                refine wpAnyT_take (i := 13) (v := ?_) rfl (by kernel_rfl) (by kernel_rfl) (by kernel_rfl) (by kernel_rfl) (fun _ _ _ h => h) (Or.inl ⟨by rfl, ?hy⟩) hS ?_
                case hy => intro w' hSw; obtain ⟨hw0, hw1, hw2, hw3, hw4, hw5, hw6, hw7, hw8⟩ := hSw; go_simp; try with_reducible rfl
                simp only [List.getElem_toArray, List.getElem_cons_succ, List.getElem_cons_zero, Act.put, List.setIfInBounds_toArray, List.set_cons_zero, List.set_cons_succ]
                change wpAnyT _ _ _ _ _ _ 17 #[true, true, true, true, true, true, true, true, true, true, true, true, true, true, false, false, false, false, false, false, false, false, false, false, false, false, false, false, false, false, false] _ _
                refine wpAnyT_take (i := 14) (v := ?_) rfl (by kernel_rfl) (by kernel_rfl) (by kernel_rfl) (by kernel_rfl) (fun _ _ _ h => h) (Or.inl ⟨by rfl, ?hy⟩) hS ?_
                case hy => intro w' hSw; obtain ⟨hw0, hw1, hw2, hw3, hw4, hw5, hw6, hw7, hw8⟩ := hSw; go_simp; try with_reducible rfl
                simp only [List.getElem_toArray, List.getElem_cons_succ, List.getElem_cons_zero, Act.put, List.setIfInBounds_toArray, List.set_cons_zero, List.set_cons_succ]
                change wpAnyT _ _ _ _ _ _ 16 #[true, true, true, true, true, true, true, true, true, true, true, true, true, true, true, false, false, false, false, false, false, false, false, false, false, false, false, false, false, false, false] _ _
                refine wpAnyT_take (i := 15) (v := ?_) rfl (by kernel_rfl) (by kernel_rfl) (by kernel_rfl) (by kernel_rfl) (fun _ _ _ h => h) (Or.inl ⟨by rfl, ?hy⟩) hS ?_
                case hy => intro w' hSw; obtain ⟨hw0, hw1, hw2, hw3, hw4, hw5, hw6, hw7, hw8⟩ := hSw; go_simp; try with_reducible rfl
                simp only [List.getElem_toArray, List.getElem_cons_succ, List.getElem_cons_zero, Act.put, List.setIfInBounds_toArray, List.set_cons_zero, List.set_cons_succ]
                change wpAnyT _ _ _ _ _ _ 15 #[true, true, true, true, true, true, true, true, true, true, true, true, true, true, true, true, false, false, false, false, false, false, false, false, false, false, false, false, false, false, false] _ _
                refine wpAnyT_take (i := 16) (v := ?_) rfl (by kernel_rfl) (by kernel_rfl) (by kernel_rfl) (by kernel_rfl) (fun _ _ _ h => h) (Or.inl ⟨by rfl, ?hy⟩) hS ?_
                case hy => intro w' hSw; obtain ⟨hw0, hw1, hw2, hw3, hw4, hw5, hw6, hw7, hw8⟩ := hSw; go_simp; try with_reducible rfl
                simp only [List.getElem_toArray, List.getElem_cons_succ, List.getElem_cons_zero, Act.put, List.setIfInBounds_toArray, List.set_cons_zero, List.set_cons_succ]
                change wpAnyT _ _ _ _ _ _ 14 #[true, true, true, true, true, true, true, true, true, true, true, true, true, true, true, true, true, false, false, false, false, false, false, false, false, false, false, false, false, false, false] _ _
                refine wpAnyT_take (i := 17) (v := ?_) rfl (by kernel_rfl) (by kernel_rfl) (by kernel_rfl) (by kernel_rfl) (fun _ _ _ h => h) (Or.inl ⟨by rfl, ?hy⟩) hS ?_
                case hy => intro w' hSw; obtain ⟨hw0, hw1, hw2, hw3, hw4, hw5, hw6, hw7, hw8⟩ := hSw; go_simp; try with_reducible rfl
                simp only [List.getElem_toArray, List.getElem_cons_succ, List.getElem_cons_zero, Act.put, List.setIfInBounds_toArray, List.set_cons_zero, List.set_cons_succ]
                change wpAnyT _ _ _ _ _ _ 13 #[true, true, true, true, true, true, true, true, true, true, true, true, true, true, true, true, true, true, false, false, false, false, false, false, false, false, false, false, false, false, false] _ _
                refine wpAnyT_take (i := 18) (v := ?_) rfl (by kernel_rfl) (by kernel_rfl) (by kernel_rfl) (by kernel_rfl) (fun _ _ _ h => h) (Or.inl ⟨by rfl, ?hy⟩) hS ?_
                case hy => intro w' hSw; obtain ⟨hw0, hw1, hw2, hw3, hw4, hw5, hw6, hw7, hw8⟩ := hSw; go_simp; try with_reducible rfl
                simp only [List.getElem_toArray, List.getElem_cons_succ, List.getElem_cons_zero, Act.put, List.setIfInBounds_toArray, List.set_cons_zero, List.set_cons_succ]
                change wpAnyT _ _ _ _ _ _ 12 #[true, true, true, true, true, true, true, true, true, true, true, true, true, true, true, true, true, true, true, false, false, false, false, false, false, false, false, false, false, false, false] _ _
                refine wpAnyT_take (i := 19) (v := ?_) rfl (by kernel_rfl) (by kernel_rfl) (by kernel_rfl) (by kernel_rfl) (fun _ _ _ h => h) (Or.inl ⟨by rfl, ?hy⟩) hS ?_
                case hy => intro w' hSw; obtain ⟨hw0, hw1, hw2, hw3, hw4, hw5, hw6, hw7, hw8⟩ := hSw; go_simp; try with_reducible rfl
                simp only [List.getElem_toArray, List.getElem_cons_succ, List.getElem_cons_zero, Act.put, List.setIfInBounds_toArray, List.set_cons_zero, List.set_cons_succ]
                change wpAnyT _ _ _ _ _ _ 11 #[true, true, true, true, true, true, true, true, true, true, true, true, true, true, true, true, true, true, true, true, false, false, false, false, false, false, false, false, false, false, false] _ _
                refine wpAnyT_take (i := 20) (v := ?_) rfl (by kernel_rfl) (by kernel_rfl) (by kernel_rfl) (by kernel_rfl) (fun _ _ _ h => h) (Or.inl ⟨by rfl, ?hy⟩) hS ?_
                case hy => intro w' hSw; obtain ⟨hw0, hw1, hw2, hw3, hw4, hw5, hw6, hw7, hw8⟩ := hSw; go_simp; try with_reducible rfl
                simp only [List.getElem_toArray, List.getElem_cons_succ, List.getElem_cons_zero, Act.put, List.setIfInBounds_toArray, List.set_cons_zero, List.set_cons_succ]
                change wpAnyT _ _ _ _ _ _ 10 #[true, true, true, true, true, true, true, true, true, true, true, true, true, true, true, true, true, true, true, true, true, false, false, false, false, false, false, false, false, false, false] _ _
                refine wpAnyT_take (i := 21) (v := ?_) rfl (by kernel_rfl) (by kernel_rfl) (by kernel_rfl) (by kernel_rfl) (fun _ _ _ h => h) (Or.inl ⟨by rfl, ?hy⟩) hS ?_
                case hy => intro w' hSw; obtain ⟨hw0, hw1, hw2, hw3, hw4, hw5, hw6, hw7, hw8⟩ := hSw; go_simp; try with_reducible rfl
                simp only [List.getElem_toArray, List.getElem_cons_succ, List.getElem_cons_zero, Act.put, List.setIfInBounds_toArray, List.set_cons_zero, List.set_cons_succ]
                change wpAnyT _ _ _ _ _ _ 9 #[true, true, true, true, true, true, true, true, true, true, true, true, true, true, true, true, true, true, true, true, true, true, false, false, false, false, false, false, false, false, false] _ _
                refine wpAnyT_take (i := 22) (v := ?_) rfl (by kernel_rfl) (by kernel_rfl) (by kernel_rfl) (by kernel_rfl) (fun _ _ _ h => h) (Or.inl ⟨by rfl, ?hy⟩) hS ?_
                case hy => intro w' hSw; obtain ⟨hw0, hw1, hw2, hw3, hw4, hw5, hw6, hw7, hw8⟩ := hSw; go_simp; try with_reducible rfl
                simp only [List.getElem_toArray, List.getElem_cons_succ, List.getElem_cons_zero, Act.put, List.setIfInBounds_toArray, List.set_cons_zero, List.set_cons_succ]
                change wpAnyT _ _ _ _ _ _ 8 #[true, true, true, true, true, true, true, true, true, true, true, true, true, true, true, true, true, true, true, true, true, true, true, false, false, false, false, false, false, false, false] _ _
                refine wpAnyT_take (i := 23) (v := ?_) rfl (by kernel_rfl) (by kernel_rfl) (by kernel_rfl) (by kernel_rfl) (fun _ _ _ h => h) (Or.inl ⟨by rfl, ?hy⟩) hS ?_
                case hy => intro w' hSw; obtain ⟨hw0, hw1, hw2, hw3, hw4, hw5, hw6, hw7, hw8⟩ := hSw; go_simp; try with_reducible rfl
                simp only [List.getElem_toArray, List.getElem_cons_succ, List.getElem_cons_zero, Act.put, List.setIfInBounds_toArray, List.set_cons_zero, List.set_cons_succ]
                change wpAnyT _ _ _ _ _ _ 7 #[true, true, true, true, true, true, true, true, true, true, true, true, true, true, true, true, true, true, true, true, true, true, true, true, false, false, false, false, false, false, false] _ _
                refine wpAnyT_take (i := 24) (v := ?_) rfl (by kernel_rfl) (by kernel_rfl) (by kernel_rfl) (by kernel_rfl) (fun _ _ _ h => h) (Or.inl ⟨by rfl, ?hy⟩) hS ?_
                case hy => intro w' hSw; obtain ⟨hw0, hw1, hw2, hw3, hw4, hw5, hw6, hw7, hw8⟩ := hSw; go_simp; try with_reducible rfl
                simp only [List.getElem_toArray, List.getElem_cons_succ, List.getElem_cons_zero, Act.put, List.setIfInBounds_toArray, List.set_cons_zero, List.set_cons_succ]
                change wpAnyT _ _ _ _ _ _ 6 #[true, true, true, true, true, true, true, true, true, true, true, true, true, true, true, true, true, true, true, true, true, true, true, true, true, false, false, false, false, false, false] _ _
                refine wpAnyT_take (i := 25) (v := ?_) rfl (by kernel_rfl) (by kernel_rfl) (by kernel_rfl) (by kernel_rfl) (fun _ _ _ h => h) (Or.inl ⟨by rfl, ?hy⟩) hS ?_
                case hy => intro w' hSw; obtain ⟨hw0, hw1, hw2, hw3, hw4, hw5, hw6, hw7, hw8⟩ := hSw; go_simp; try with_reducible rfl
                simp only [List.getElem_toArray, List.getElem_cons_succ, List.getElem_cons_zero, Act.put, List.setIfInBounds_toArray, List.set_cons_zero, List.set_cons_succ]
                change wpAnyT _ _ _ _ _ _ 5 #[true, true, true, true, true, true, true, true, true, true, true, true, true, true, true, true, true, true, true, true, true, true, true, true, true, true, false, false, false, false, false] _ _
                refine wpAnyT_ready (rs := [26]) (by kernel_rfl) (by simp) ?_
                refine AllReadyT.cons rfl (fun K hK => ?_) AllReadyT.nil
                rw [if_pos (by rfl)]
                go_simp
                have hoa : ∀ q, q < WD.heap.size → (World.alloc WD (.cells #[.int .u8 ((k0 ^^^ n0 : Nat) : Int), .int .u8 ((k1 ^^^ n1 : Nat) : Int), .int .u8 ((k2 ^^^ n2 : Nat) : Int), .int .u8 ((k3 ^^^ n3 : Nat) : Int)] 61)).heap[q]? = WD.heap[q]? := fun q hq => heap_old' WD _ q hq
                have hS1 := HST.out _ ((hoa _ (by have := HSZ.out; have := HOL.out; have := HTL.out; have := HCL7.out; omega)).trans (by rw [HH.out])) ((hoa _ (by have := HSZ.out; have := HOL.out; have := HTL.out; have := HCL7.out; omega)).trans (by rw [HH.out])) ((hoa _ (by have := HSZ.out; have := HOL.out; have := HTL.out; have := HCL7.out; omega)).trans (by rw [HH.out]))
                refine hK.out _ (World.alloc WD (.cells #[.int .u8 ((k0 ^^^ n0 : Nat) : Int), .int .u8 ((k1 ^^^ n1 : Nat) : Int), .int .u8 ((k2 ^^^ n2 : Nat) : Int), .int .u8 ((k3 ^^^ n3 : Nat) : Int)] 61)) (fun _ => hS1) ?_
                clear hK K
                simp only [List.getElem_toArray, List.getElem_cons_succ, List.getElem_cons_zero, Act.put, List.setIfInBounds_toArray, List.set_cons_zero, List.set_cons_succ]
                change wpAnyT _ _ _ _ _ _ 4 #[true, true, true, true, true, true, true, true, true, true, true, true, true, true, true, true, true, true, true, true, true, true, true, true, true, true, true, false, false, false, false] _ _
                refine wpAnyT_ready (rs := [27]) (by kernel_rfl) (by simp) ?_
                refine AllReadyT.cons rfl (fun K hK => ?_) AllReadyT.nil
                have hown1 := World.ownsRow.alloc hown0.out (.cells #[.int .u8 ((k0 ^^^ n0 : Nat) : Int), .int .u8 ((k1 ^^^ n1 : Nat) : Int), .int .u8 ((k2 ^^^ n2 : Nat) : Int), .int .u8 ((k3 ^^^ n3 : Nat) : Int)] 61)
                have hnew := heap_new' WD (.cells #[.int .u8 ((k0 ^^^ n0 : Nat) : Int), .int .u8 ((k1 ^^^ n1 : Nat) : Int), .int .u8 ((k2 ^^^ n2 : Nat) : Int), .int .u8 ((k3 ^^^ n3 : Nat) : Int)] 61)
                refine step_append_lies _ (by rfl) (.tmp 187) (.tmp 209) 55 (by rfl) (w.heap.size + 1) 61 i0 _ 4 4 Try.underlying55 hi0 hz0 hz1 hz2 rfl (by omega) (.slice (some ⟨g, 0, none⟩) m cp) m (u8L (sched n key k)) (by rfl) hown1 ⟨WD.heap.size, 0, none⟩ 1 1 (#[.int .u8 ((k0 ^^^ n0 : Nat) : Int), .int .u8 ((k1 ^^^ n1 : Nat) : Int), .int .u8 ((k2 ^^^ n2 : Nat) : Int), .int .u8 ((k3 ^^^ n3 : Nat) : Int)] : Array Value).toList (by rfl) (by simp) (World.news_of_block hnew) (by simp [Value.oneCell']) (by omega) (by have := HM.out; have := HN.out; have := HKK.out; unfold maxLen; omega) (by have := HM.out; have := HN.out; have := HKK.out; omega) (by have := HSZ.out; have := HCL7.out; rw [World.size_alloc]; omega) _ rfl ?_
                intro g2 cp2 w3 hown3 hgrow3 hat hlt3
                have hlow : ∀ q, q < W7.heap.size → q ≠ g → w3.heap[q]? = W7.heap[q]? := fun q hq hne => (hgrow3.block q (by have := HSZ.out; rw [World.size_alloc]; omega) (fun e => hne (by simpa [Value.ownBlock] using e))).trans ((hoa q (by have := HSZ.out; omega)).trans (by rw [HH.out]))
                have hS2 := HST.out w3 (hlow _ HCL7.out (by have := HTL6.out; have := HBG.out; have := HGL.out; have := HTBE.out; have := HOBE.out; have := HTL.out; omega)) (hlow _ HOL.out (by have := HTL6.out; have := HBG.out; have := HGL.out; have := HTBE.out; have := HOBE.out; have := HTL.out; omega)) (hlow _ HTL.out (by have := HTL6.out; have := HBG.out; have := HGL.out; have := HTBE.out; have := HOBE.out; have := HTL.out; omega))
                refine hK.out _ _ (fun _ => hS2) ?_
                clear hK K
                simp only [List.getElem_toArray, List.getElem_cons_succ, List.getElem_cons_zero, Act.put, List.setIfInBounds_toArray, List.set_cons_zero, List.set_cons_succ]
                change wpAnyT _ _ _ _ _ _ 3 #[true, true, true, true, true, true, true, true, true, true, true, true, true, true, true, true, true, true, true, true, true, true, true, true, true, true, true, true, false, false, false] _ _
                refine wpAnyT_ready (rs := [28]) (by kernel_rfl) (by simp) ?_
                refine AllReadyT.cons rfl (fun K hK => ?_) AllReadyT.nil
                rw [if_pos (by rfl)]
                go_simp
                have hS3 := hS2
                refine hK.out _ _ (fun _ => hS3) ?_
                clear hK K
                simp only [List.getElem_toArray, List.getElem_cons_succ, List.getElem_cons_zero, Act.put, List.setIfInBounds_toArray, List.set_cons_zero, List.set_cons_succ]
                change wpAnyT _ _ _ _ _ _ 2 #[true, true, true, true, true, true, true, true, true, true, true, true, true, true, true, true, true, true, true, true, true, true, true, true, true, true, true, true, true, false, false] _ _
                refine wpAnyT_take (i := 29) (v := ?_) rfl (by kernel_rfl) (by kernel_rfl) (by kernel_rfl) (by kernel_rfl) (fun _ _ _ h => h) (Or.inl ⟨by rfl, ?hy⟩) hS3 ?_
                case hy => intro w' hSw; obtain ⟨hw0, hw1, hw2, hw3, hw4, hw5, hw6, hw7, hw8⟩ := hSw; go_simp; try with_reducible rfl
                simp only [List.getElem_toArray, List.getElem_cons_succ, List.getElem_cons_zero, Act.put, List.setIfInBounds_toArray, List.set_cons_zero, List.set_cons_succ]
                change wpAnyT _ _ _ _ _ _ 1 #[true, true, true, true, true, true, true, true, true, true, true, true, true, true, true, true, true, true, true, true, true, true, true, true, true, true, true, true, true, true, false] _ _
                refine wpAnyT_ready (rs := [30]) (by kernel_rfl) (by simp) ?_
                refine AllReadyT.cons rfl (fun K hK => ?_) AllReadyT.nil
                have hri3 := hri7.out.of (hlow _ HCL7.out (by have := HTL6.out; have := HBG.out; have := HGL.out; have := HTBE.out; have := HOBE.out; have := HTL.out; omega))
                obtain ⟨⟨xx, cB⟩, fB⟩ := hri3.cell 512 (by omega)
                have n0' := hri3.words (Nat.le_refl _) (.slice (some ⟨g2, 0, none⟩) (m + 1) cp2)
                have N0 := Lib.hid n0'
                have HO3 := Lib.hid hown3
                clear n0' hown3
                rw [if_pos (by rfl)]
                go_simp
                refine hK.out _ _ (fun h => absurd h (by omega)) ?_
                clear hK K
                simp only [List.getElem_toArray, List.getElem_cons_succ, List.getElem_cons_zero, Act.put, List.setIfInBounds_toArray, List.set_cons_zero, List.set_cons_succ]
                change wpAnyT _ _ _ _ _ _ 0 #[true, true, true, true, true, true, true, true, true, true, true, true, true, true, true, true, true, true, true, true, true, true, true, true, true, true, true, true, true, true, true] _ _
                refine wpAnyT_done (by kernel_rfl) ?_ _
                refine NoPanic.normal ?_
                have e9 : IntKind.i64.wrap ((m : Int) + 1) = (m : Int) + 1 := by have := HM.out; have := HN.out; have := HKK.out; exact IntWalk.i64_in _ (by omega)
                go_wp2
                go_roundw
                case rel =>
                  have hbF := ((hbel0.out.alloc hbel0.out.size _).grown hgrow3 (by have := HSZ.out; have := HCL7.out; rw [World.size_alloc]; omega) (fun q e => by have := own_ge hown0.out q e; omega)).setCell (p := ⟨w.heap.size, 512, none⟩) (by simp) (.slice (some ⟨g2, 0, none⟩) (m + 1) cp2)
                  have hoF : (w3.setCell ⟨w.heap.size, 512, none⟩ (.slice (some ⟨g2, 0, none⟩) (m + 1) cp2)).ownsRow (w.heap.size + 1) 61 4 (.slice (some ⟨g2, 0, none⟩) (m + 1) cp2) (m + 1) (u8L (sched n key (k + 1))) := by rw [HX.out]; exact own_keep (by simpa using HO3.out) (fun q hq hq2 => Below.heap_setCell _ _ _ _ (by simp; omega))
                  have hmm := HM.out
                  have hkk := HKK.out
                  subst hmm
                  exact ⟨k + 1, by omega, by go_num, by rw [HPW2.out], g2, cp2, N0.out, hoF, hbF⟩
                case measure => have := HM.out; have := HKK.out; have := HRD.out; simp [intOf]; omega
            · have hkk : k = 3 * n + 28 := by omega
              have hd2 : ¬ (((n + k : Nat) : Int) < 4 * (rd : Int) + 4) := by have := HRD.out; omega
              have HRIF := hri
              have HOWF := hown
              have HKKF := Lib.hid hkk
              have hnk : n + k = 4 * (n + 7) := by omega
              obtain ⟨m, hm⟩ : ∃ m, m = n + k := ⟨_, rfl⟩
              rw [← hm] at HRIF HOWF HLL hd2 hnk ⊢
              have HNK := Lib.hid hnk
              obtain ⟨L, hL⟩ : ∃ L, L = sched n key k := ⟨_, rfl⟩
              rw [← hL] at HOWF HLL HLB
              have HLK := Lib.hid hL
              clear hri hown hkk hm hL hnk
              go_wp2
              go_ret
              obtain ⟨A, a1, a2, a3, a4, a5, a6⟩ := HRIF.out
              obtain ⟨A2, o1, o2, o3, o4, o5, _⟩ := own_cells HLL.out HOWF.out (by have := HNK.out; omega)
              refine ⟨w.heap.size, rfl, ⟨g, cp, ?_⟩, hbel.out⟩
              rw [← HKKF.out, ← HLK.out, ← HNK.out]
              exact ⟨⟨A, a1, a3, a4, a5, by rw [a6, HRD.out]⟩, HLL.out, o4, o5, ⟨A2, o1, o2, o3⟩, HLB.out⟩
end Go.Proofs.Ytinjafacnekkcaa
