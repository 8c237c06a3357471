/- check.looker: its memory; end, find, serials, roots of a heap without objects. -/
import Derived.Test.YtpbmjfjnmcpieaaChMb
import Derived.Test.YtpbmjfjnmcpieaaChSm
set_option linter.unusedVariables false
set_option linter.unusedSimpArgs false
namespace Go.Proofs.Ytpbmjfjnmcpieaa
open Go Go.RowKit
/-- a looker's cells -/
def lkA (x : Nat) (R : List Nat) (pv qv fv av : Value) : Array Value := (mtA x R pv) ++ #[qv, fv, av]
theorem lkA_size {x : Nat} {R : List Nat} (h : R.length = 16) (pv qv fv av : Value) : (lkA x R pv qv fv av).size = 21 := by simp [lkA, mtA_size, h]
theorem lkA_0 {x : Nat} {R : List Nat} (h : R.length = 16) (pv qv fv av : Value) : (lkA x R pv qv fv av)[0]? = some (.int .u64 (x : Int)) := by
  unfold lkA; rw [Array.getElem?_append_left (by rw [mtA_size]; omega)]; exact mtA_get0 _ _ _
theorem lkA_17 {x : Nat} {R : List Nat} (h : R.length = 16) (pv qv fv av : Value) : (lkA x R pv qv fv av)[17]? = some pv := by
  unfold lkA; rw [Array.getElem?_append_left (by rw [mtA_size]; omega)]; exact mtA_get17 _ _ _ h
theorem lkA_18 {x : Nat} {R : List Nat} (h : R.length = 16) (pv qv fv av : Value) : (lkA x R pv qv fv av)[18]? = some qv := by
  unfold lkA; rw [Array.getElem?_append_right (by rw [mtA_size]; omega), mtA_size, h]; rfl
theorem lkA_19 {x : Nat} {R : List Nat} (h : R.length = 16) (pv qv fv av : Value) : (lkA x R pv qv fv av)[19]? = some fv := by
  unfold lkA; rw [Array.getElem?_append_right (by rw [mtA_size]; omega), mtA_size, h]; rfl
theorem lkA_20 {x : Nat} {R : List Nat} (h : R.length = 16) (pv qv fv av : Value) : (lkA x R pv qv fv av)[20]? = some av := by
  unfold lkA; rw [Array.getElem?_append_right (by rw [mtA_size]; omega), mtA_size, h]; rfl
theorem lkA_set19 {x : Nat} {R : List Nat} (h : R.length = 16) (pv qv fv av u : Value) : (lkA x R pv qv fv av).setIfInBounds 19 u = lkA x R pv qv u av := by
  unfold lkA
  rw [Array.setIfInBounds_append_right (by rw [mtA_size]; omega), mtA_size, h]; rfl
theorem lkA_R {x : Nat} {R : List Nat} (h : R.length = 16) (pv qv fv av : Value) (j : Nat) (u : Value) (hu : (R.map fun (k : Nat) => Value.int .u64 (k : Int))[j]? = some u) : (lkA x R pv qv fv av)[1 + j]? = some u := by
  have hj : j < 16 := by have := (List.getElem?_eq_some_iff.1 hu).1; rw [List.length_map, h] at this; exact this
  unfold lkA; rw [Array.getElem?_append_left (by rw [mtA_size]; omega)]
  unfold mtA
  rw [List.getElem?_toArray, Nat.add_comm, List.getElem?_cons_succ, List.getElem?_append_left (by rw [List.length_map, h]; exact hj)]
  exact hu
theorem pgA_0 {p : Pg} (h : p.kind = 0) : (pgA p)[0]? = some (Value.int .i64 0) := by
  show some (Value.int .i64 ((p.kind : Nat) : Int)) = _; rw [h]; rfl
/-- a looker in memory -/
abbrev LkAt (w : World) (lk x : Nat) (R : List Nat) (pv qv fv av : Value) : Prop := w.heap[lk]? = some (.cells (lkA x R pv qv fv av) 60 (0, 0))
set_option maxRecDepth 100000 in
set_option maxHeartbeats 1000000 in
theorem lend_c (lk x : Nat) (R : List Nat) (h16 : R.length = 16) (va : Option Addr) (n pc : Nat) (qv fv av : Value) (P : List Pg) (hn : P.length = n) (hnm : n ≤ 64) (hz : ∀ p ∈ P, p.kind = 0) (k : Nat) (hk : k < n) (w : World) (h : LkAt w lk x R (.slice va n pc) qv fv av) (hP : PgsAt w va P) :
    Calls Try.prog 33 #[.pointer (some ⟨lk, 0, none⟩), .int .i64 (k : Int)] w fun e w' => e = .returned (.int .i64 0) ∧ Below w.heap.size w w' := by
  have a1 := (cells_at h 17).trans (lkA_17 h16 _ _ _ _)
  have hkl : k < P.length := by omega
  obtain ⟨p, hp⟩ : ∃ p, p = P[k] := ⟨_, rfl⟩
  have hget : P[k]? = some p := by rw [hp]; exact List.getElem?_eq_getElem hkl
  obtain ⟨g, o, rfl, hg, hcell⟩ := hP k p hget
  have HC : Hid (w.rangeAt g (o + k * 5) (pgA p).toList) := hcell
  have hp0 : p.kind = 0 := hz p (List.mem_of_getElem? hget)
  have dl : (k : Int) < (n : Int) := by omega
  have d0 : ¬ (k : Int) < 0 := by omega
  have HZ : Hid ((w.alloc (.cells #[.int .i64 0, .int .i64 0, .int .i64 0, .int .i64 0, .int .u64 0] 81)).heap[w.heap.size]? = some (.cells (pgA ⟨0, 0, 0, 0, 0⟩) 81 (0, 0))) := heap_new' _ _
  have HE1 : Hid (Below w.heap.size w (w.alloc (.cells #[.int .i64 0, .int .i64 0, .int .i64 0, .int .i64 0, .int .u64 0] 81))) := below_box w _
  have HP0 := Lib.hid hp0
  clear h h16 hn hnm hz hk hP hkl hp hget hg hcell hp0
  go_enter Try.func33, Try.ntmps33
  go_wp2_with (first
    | (refine wpList_load_mid rfl 81 (.tmp 13) rfl g (o + k * 5) rfl _ _ HC.out Try.underlying81 rfl (by rw [page5]; rfl) ?_)
    | (refine wpList_store_row rfl 81 (.tmp 5) (.tmp 14) rfl w.heap.size (pgA p) rfl rfl 81 _ HZ.out (by rw [page5]; rfl) rfl (pgA_one _) ?_; generalize hW1 : World.setRow _ _ _ = w1; have HZ1 : Hid (w1.heap[w.heap.size]? = some (.cells (pgA p) 81 (0, 0))) := (by show _ = _; rw [← hW1]; exact setRow_heap _ _ _ _ _ _ HZ.out); have HE2 : Hid (Below w.heap.size w w1) := (by rw [← hW1]; exact below_setRow HE1.out (Nat.le_refl _) _); have c0 := (cells_at HZ1.out 0).trans (show _ = some (Value.int .i64 0) from pgA_0 HP0.out); clear hW1)
    | fail)
  go_ret
  exact ⟨rfl, HE2.out⟩
set_option maxRecDepth 100000 in
set_option maxHeartbeats 1000000 in
theorem lfind_c (lk x : Nat) (R : List Nat) (h16 : R.length = 16) (va : Option Addr) (n pc : Nat) (qv fv av : Value) (P : List Pg) (hn : P.length = n) (hnm : n ≤ 64) (hz : ∀ p ∈ P, p.kind = 0) (w : World) (h : LkAt w lk x R (.slice va n pc) qv fv av) (hP : PgsAt w va P) :
    Calls Try.prog 18 #[.pointer (some ⟨lk, 0, none⟩)] w fun e w' => (∃ u, e = .returned u) ∧ Below w.heap.size w w' := by
  have a1 := (cells_at h 17).trans (lkA_17 h16 _ _ _ _)
  have HN := Lib.hid hn
  have HNM := Lib.hid hnm
  have HZ0 := Lib.hid hz
  have HR := Lib.hid hP
  clear h hP hn hnm hz h16
  go_enter Try.func18, Try.ntmps18
  go_wp2
  clear a1
  go_loopw [14] (fun vi wr => ∃ k : Nat, k ≤ n ∧ vi = .int .i64 (k : Int) ∧ Hid (Below w.heap.size w wr)) (fun vi _ => n - (intOf vi).toNat)
  case atStart => exact ⟨0, by omega, rfl, Below.refl _ _⟩
  case round =>
    obtain ⟨k, hk, rfl, hbel⟩ := hrel
    by_cases hlt : k < n
    · have hd : decide ((k : Int) < (n : Int)) = true := by simp; omega
      have dl : (k : Int) < (n : Int) := by omega
      have d0 : ¬ (k : Int) < 0 := by omega
      have hkl : k < P.length := by rw [HN.out]; exact hlt
      have hget := List.getElem?_eq_getElem hkl
      obtain ⟨p, hp⟩ : ∃ p, p = P[k] := ⟨_, rfl⟩
      rw [← hp] at hget
      obtain ⟨g, o, rfl, hg, hcell⟩ := HR.out k p hget
      have HC : Hid (wr.rangeAt g (o + k * 5) (pgA p).toList) := fun j u hu => (hbel.out.cell (p := ⟨g, o + k * 5 + j, none⟩) hg).trans (hcell j u hu)
      have HP0 := Lib.hid (HZ0.out p (List.mem_of_getElem? hget))
      have HK := Lib.hid hlt
      have ek : IntKind.i64.wrap ((k : Int) + 1) = (k : Int) + 1 := by have := HNM.out; exact IntWalk.i64_in _ (by omega)
      have HZ : Hid ((wr.alloc (.cells #[.int .i64 0, .int .i64 0, .int .i64 0, .int .i64 0, .int .u64 0] 81)).heap[wr.heap.size]? = some (.cells (pgA ⟨0, 0, 0, 0, 0⟩) 81 (0, 0))) := heap_new' _ _
      have HE1 : Hid (Below w.heap.size w (wr.alloc (.cells #[.int .i64 0, .int .i64 0, .int .i64 0, .int .i64 0, .int .u64 0] 81))) := hbel.out.trans ((below_box wr _).mono hbel.out.size)
      clear hget hp hkl hg hcell hk hlt
      go_wp2_with (first
        | (refine wpList_load_mid rfl 81 (.tmp 17) rfl g (o + k * 5) rfl _ _ HC.out Try.underlying81 rfl (by rw [page5]; rfl) ?_)
        | (refine wpList_store_row rfl 81 (.tmp 3) (.tmp 18) rfl wr.heap.size (pgA p) rfl rfl 81 _ HZ.out (by rw [page5]; rfl) rfl (pgA_one _) ?_; generalize hW1 : World.setRow _ _ _ = w1; have HZ1 : Hid (w1.heap[wr.heap.size]? = some (.cells (pgA p) 81 (0, 0))) := (by show _ = _; rw [← hW1]; exact setRow_heap _ _ _ _ _ _ HZ.out); have HE2 : Hid (Below w.heap.size w w1) := (by rw [← hW1]; exact below_setRow HE1.out hbel.out.size _); have c0 := (cells_at HZ1.out 0).trans (pgA_0 HP0.out); clear hW1)
        | fail)
      go_roundw
      case rel => exact ⟨k + 1, by have := HK.out; omega, by go_num, HE2.out⟩
      case measure => simp [intOf]; have := HK.out; omega
    · have hd : decide ((k : Int) < (n : Int)) = false := by simp; omega
      have dl : ¬ (k : Int) < (n : Int) := by omega
      go_wp2
      (try simp only [Exit.inBlock, Exit.then]); refine bodyPost_end (results_none rfl _ _ _) rfl ?_
      exact ⟨⟨_, rfl⟩, hbel.out⟩
set_option maxRecDepth 100000 in
set_option maxHeartbeats 1000000 in
theorem lserials_c (lk x : Nat) (R : List Nat) (h16 : R.length = 16) (pv qv fv : Value) (w : World) (h : LkAt w lk x R pv qv fv (.slice none 0 0)) :
    Calls Try.prog 19 #[.pointer (some ⟨lk, 0, none⟩)] w fun e w' => (∃ u, e = .returned u) ∧ Below w.heap.size w w' := by
  have a1 := (cells_at h 20).trans (lkA_20 h16 _ _ _ _)
  clear h h16
  go_enter Try.func19, Try.ntmps19
  go_wp2
  clear a1
  go_loopw [10] (fun vi wr => vi = .int .i64 0 ∧ Hid (Below w.heap.size w wr)) (fun vi _ => 0)
  case atStart => exact ⟨rfl, Below.refl _ _⟩
  case round =>
    obtain ⟨rfl, hbel⟩ := hrel
    go_wp2
    (try simp only [Exit.inBlock, Exit.then]); refine bodyPost_end (results_none rfl _ _ _) rfl ?_
    exact ⟨⟨_, rfl⟩, hbel.out⟩
end Go.Proofs.Ytpbmjfjnmcpieaa
