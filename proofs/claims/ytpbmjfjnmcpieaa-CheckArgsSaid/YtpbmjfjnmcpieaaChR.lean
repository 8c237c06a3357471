/- Rows of pages in memory; slices.ContainsFunc over pages; pages.Check. -/
import Derived.Test.YtpbmjfjnmcpieaaChQ
set_option linter.unusedVariables false
set_option linter.unusedSimpArgs false
namespace Go.Proofs.Ytpbmjfjnmcpieaa
open Go Go.RowKit
/-- pages behind an address -/
def PgsAt (w : World) (a : Option Addr) (L : List Pg) : Prop := ∀ (i : Nat) (p : Pg), L[i]? = some p → ∃ g o, a = some ⟨g, o, none⟩ ∧ g < w.heap.size ∧ w.rangeAt g (o + i * 5) (pgA p).toList
theorem PgsAt.up {w w' : World} {a : Option Addr} {L : List Pg} (h : PgsAt w a L) {B : Nat} (hb : Below B w w') (hB : w.heap.size ≤ B) : PgsAt w' a L := by
  intro i p hp
  obtain ⟨g, o, h1, h2, h3⟩ := h i p hp
  exact ⟨g, o, h1, Nat.lt_of_lt_of_le h2 hb.size, fun j u hu => (hb.cell (p := ⟨g, o + i * 5 + j, none⟩) (Nat.lt_of_lt_of_le h2 hB)).trans (h3 j u hu)⟩
theorem any_snoc {α : Type} (L : List α) (f : α → Bool) (k : Nat) (p : α) (h : L[k]? = some p) (h0 : (L.take k).any f = false) (h1 : f p = false) : (L.take (k + 1)).any f = false := by
  obtain ⟨hk, rfl⟩ := List.getElem?_eq_some_iff.1 h
  rw [List.take_succ_eq_append_getElem hk, List.any_append, h0]; simp [h1]
theorem any_at {α : Type} (L : List α) (f : α → Bool) (k : Nat) (p : α) (h : L[k]? = some p) (h1 : f p = true) : L.any f = true := by
  rw [List.any_eq_true]; exact ⟨p, List.mem_of_getElem? h, h1⟩
set_option maxRecDepth 100000 in
set_option maxHeartbeats 2000000 in
theorem ix_bad_c (a : Option Addr) (n cap : Nat) (L : List Pg) (hn : L.length = n) (hnm : n ≤ 1000000) (hsz : ∀ p ∈ L, p.size < 4611686018427387904) (w : World) (hR : PgsAt w a L) :
    Calls Try.prog 55 #[.slice a n cap, .func (.func 51) #[] #[]] w fun e w' => (∃ r : Int, e = .returned (.int .i64 r) ∧ decide (r ≥ 0) = L.any (fun p => !oneP p)) ∧ Below w.heap.size w w' := by
  have HR := Lib.hid hR
  have HN := Lib.hid hn
  have HNM := Lib.hid hnm
  clear hR hn hnm
  go_enter Try.func55, Try.ntmps55
  go_wp2
  go_loopw [8] (fun vi wr => ∃ k : Nat, k ≤ n ∧ vi = .int .i64 (k : Int) ∧ Hid ((L.take k).any (fun p => !oneP p) = false) ∧ Hid (Below w.heap.size w wr)) (fun vi _ => n - (intOf vi).toNat)
  case atStart => exact ⟨0, by omega, rfl, rfl, Below.refl _ _⟩
  case round =>
    obtain ⟨k, hk, rfl, hall, hbel⟩ := hrel
    by_cases hlt : k < n
    · have hd : decide ((k : Int) < (n : Int)) = true := by simp; omega
      have dl : (k : Int) < (n : Int) := by omega
      have d0 : ¬ (k : Int) < 0 := by omega
      have hkl : k < L.length := by rw [HN.out]; exact hlt
      have hget := List.getElem?_eq_getElem hkl
      obtain ⟨p, hp⟩ : ∃ p, p = L[k] := ⟨_, rfl⟩
      rw [← hp] at hget
      obtain ⟨g, o, rfl, hg, hcell⟩ := HR.out k p hget
      have HC : Hid (wr.rangeAt g (o + k * 5) (pgA p).toList) := fun j u hu => (hbel.out.cell (p := ⟨g, o + k * 5 + j, none⟩) hg).trans (hcell j u hu)
      have HG := Lib.hid hget
      have HK := Lib.hid hlt
      have ek : IntKind.i64.wrap ((k : Int) + 1) = (k : Int) + 1 := by have := HNM.out; exact IntWalk.i64_in _ (by omega)
      have HB := Lib.hid (pgbad_c p (hsz p (by rw [hp]; exact List.getElem_mem _)) wr)
      clear hget hp hkl hg hcell hk hlt
      cases ht : (fun p => !oneP p) p with
      | false =>
        have HT : Hid ((L.take (k + 1)).any (fun p => !oneP p) = false) := any_snoc L _ k p HG.out hall.out ht
        simp only [] at ht
        rw [ht] at HB
        clear ht hall
        go_wp2_with (first
          | (refine wpList_load_mid rfl 81 (.tmp 14) rfl g (o + k * 5) rfl _ _ HC.out Try.underlying81 rfl (by rw [page5]; rfl) ?_)
          | fail)
        refine HB.out.mono ?_
        rintro e w1 ⟨rfl, hb1⟩
        have HE1 : Hid (Below w.heap.size w w1) := hbel.out.trans (hb1.mono hbel.out.size)
        clear hb1 hbel
        go_wp2
        go_roundw
        case rel => exact ⟨k + 1, by have := HK.out; omega, by go_num, HT.out, HE1.out⟩
        case measure => simp [intOf]; have := HK.out; omega
      | true =>
        have HT : Hid (L.any (fun p => !oneP p) = true) := any_at L _ k p HG.out ht
        simp only [] at ht
        rw [ht] at HB
        clear ht hall
        go_wp2_with (first
          | (refine wpList_load_mid rfl 81 (.tmp 14) rfl g (o + k * 5) rfl _ _ HC.out Try.underlying81 rfl (by rw [page5]; rfl) ?_)
          | fail)
        refine HB.out.mono ?_
        rintro e w1 ⟨rfl, hb1⟩
        have HE1 : Hid (Below w.heap.size w w1) := hbel.out.trans (hb1.mono hbel.out.size)
        clear hb1 hbel
        go_wp2
        go_ret
        exact ⟨⟨_, rfl, by rw [HT.out]; simp⟩, HE1.out⟩
    · have hkn : k = n := by omega
      have hd : decide ((k : Int) < (n : Int)) = false := by simp; omega
      have dl : ¬ (k : Int) < (n : Int) := by omega
      have HT : Hid (L.any (fun p => !oneP p) = false) := by
        have h := hall.out
        rw [List.take_of_length_le (by rw [HN.out]; omega)] at h; exact h
      clear hall hkn hk hlt
      go_wp2
      go_ret
      exact ⟨⟨_, rfl, by rw [HT.out]; decide⟩, hbel.out⟩
set_option maxRecDepth 100000 in
theorem cf_bad_c (a : Option Addr) (n cap : Nat) (L : List Pg) (hn : L.length = n) (hnm : n ≤ 1000000) (hsz : ∀ p ∈ L, p.size < 4611686018427387904) (w : World) (hR : PgsAt w a L) :
    Calls Try.prog 31 #[.slice a n cap, .func (.func 51) #[] #[]] w fun e w' => e = .returned (.bool (L.any (fun p => !oneP p))) ∧ Below w.heap.size w w' := by
  have HC := Lib.hid (ix_bad_c a n cap L hn hnm hsz w hR)
  clear hR hn hnm
  go_enter Try.func31, Try.ntmps31
  go_wp2_with fail
  refine HC.out.mono ?_
  rintro e w1 ⟨⟨r, rfl, hr⟩, hb1⟩
  have HE1 := Lib.hid hb1
  clear hb1
  go_wp2
  go_ret
  first
    | exact ⟨by rw [← hr]; rfl, HE1.out⟩
    | (simp only [ge_iff_le] at hr; exact ⟨by rw [← hr]; rfl, HE1.out⟩)
set_option maxRecDepth 100000 in
set_option maxHeartbeats 1000000 in
theorem late_c (x n : Nat) (mb : Nat) (p : Pg) (w : World) (hc : w.cell? ⟨mb, 0, none⟩ = some (.int .u64 (n : Int))) (hm : mb < w.heap.size) :
    Calls Try.prog 53 #[.agg (pgA p), .pointer (some ⟨mb, 0, none⟩)] w fun e w' => e = .returned (.bool (p.kind == 2 && decide (n ≤ p.ser))) ∧ Below w.heap.size w w' := by
  have HBLK := Lib.hid (heap_new' w (.cells (pgA p) 81))
  have HE := Lib.hid (below_box w (.cells (pgA p) 81))
  have c0 := (cells_at HBLK.out 0).trans (show _ = some (Value.int .i64 (p.kind : Int)) from rfl)
  have c4 := (cells_at HBLK.out 4).trans (show _ = some (Value.int .u64 (p.ser : Int)) from rfl)
  have cm : (w.alloc (.cells (pgA p) 81)).cell? ⟨mb, 0, none⟩ = some (.int .u64 (n : Int)) := (HE.out.cell (p := ⟨mb, 0, none⟩) hm).trans hc
  obtain ⟨k, hk⟩ : ∃ k, k = p.kind := ⟨_, rfl⟩
  obtain ⟨s, hs⟩ : ∃ s, s = p.ser := ⟨_, rfl⟩
  rw [← hk] at c0 ⊢
  rw [← hs] at c4 ⊢
  clear hk hs hc hm
  by_cases h2 : k = 2
  · have d2 : ((k : Int) == 2) = true := by rw [h2]; rfl
    have i2 : (k : Int) = 2 := by omega
    have e2 : (k == 2) = true := by rw [h2]; rfl
    rw [e2, Bool.true_and]
    by_cases h3 : n ≤ s
    · have d3 : decide ((s : Int) ≥ (n : Int)) = true := by simp; omega
      have i3 : (n : Int) ≤ (s : Int) := by omega
      rw [decide_eq_true h3]
      clear h2 h3 e2
      go_enter Try.func53, Try.ntmps53
      go_wp2
      go_ret
      exact ⟨rfl, HE.out⟩
    · have d3 : decide ((s : Int) ≥ (n : Int)) = false := by simp; omega
      have i3 : ¬ (n : Int) ≤ (s : Int) := by omega
      rw [decide_eq_false h3]
      clear h2 h3 e2
      go_enter Try.func53, Try.ntmps53
      go_wp2
      go_ret
      exact ⟨rfl, HE.out⟩
  · have d2 : ((k : Int) == 2) = false := by rw [beq_eq_false_iff_ne]; omega
    have i2 : ¬ (k : Int) = 2 := by omega
    have e2 : (k == 2) = false := by simpa using h2
    rw [e2, Bool.false_and]
    clear h2 e2
    go_enter Try.func53, Try.ntmps53
    go_wp2
    go_ret
    exact ⟨rfl, HE.out⟩
theorem wpList_neq_agg {w : World} {ops : Array Oper} {rest : List Oper} {op : Oper} {A : Act} {Q : Exit → Act → World → Prop} (hw : Region.wanted op (yielded ops A.tmps) = true) (T ty : TypeId) (x y : Operand) (ho : op.op = .binOp .neq T x y ty) (xs ys : Array Value) (hx : A.eval x = .agg xs) (hy : A.eval y = .agg ys)
    (hm : Try.prog.eqGuardType Try.prog.depth T = false) (b : Bool) (hr : (binOp .eql T (.agg xs) (.agg ys)).run Try.prog w = .ok (.bool b) w) (hK : wpList Try.prog ops Q rest (A.put op.dst (.bool (!b))) w) : wpList Try.prog ops Q (op :: rest) A w :=
  wpList_met hw fun _ hk => by
    unfold Oper.wp
    have hr2 : (binOp .neq T (.agg xs) (.agg ys)).run Try.prog w = .ok (.bool (!b)) w := by
      rw [run_eql_struct] at hr
      rw [run_neq_struct]
      generalize (Op.equalIn 10000 T (.agg xs) (.agg ys)).run Try.prog w = R at *
      cases R with
      | ok b' w' =>
        simp only [Result.andThen_ok, Result.ok.injEq, Value.bool.injEq] at hr ⊢
        exact ⟨by rw [hr.1], hr.2⟩
      | halt x w' => simp [Result.andThen] at hr
    have : (execOp A.eval op).run Try.prog w = .ok (.value (.bool (!b))) w := by
      unfold execOp
      simp only [ho, hx, hy, Sem.run_bind, run_eqGuard_agg _ _ _ _ _ _ _ hm, Result.andThen_ok, hr2]
      rfl
    rw [this]
    exact hk _ _ hK
set_option maxRecDepth 100000 in
set_option maxHeartbeats 1000000 in
theorem nonzero_c (p : Pg) (w : World) :
    Calls Try.prog 32 #[.agg (pgA p)] w fun e w' => e = .returned (.bool (!freeP p)) ∧ Below w.heap.size w w' := by
  have HBLK := Lib.hid (heap_new' w (.cells (pgA p) 81))
  have HE := Lib.hid (below_box w (.cells (pgA p) 81))
  have HEQ : Hid (∀ w, (binOp .eql 81 (.agg (pgA p)) (.agg (pgA ⟨0, 0, 0, 0, 0⟩))).run Try.prog w = .ok (.bool (freeP p)) w) := fun w => eql_pg p _ w
  go_enter Try.func32, Try.ntmps32
  go_wp2_with (first
    | (refine wpList_load_row rfl 81 (.tmp 1) rfl w.heap.size rfl _ _ _ _ HBLK.out Try.underlying81 rfl (by rw [page5]; rfl) ?_)
    | (refine wpList_neq_agg rfl 81 _ (.tmp 3) (.tmp 4) rfl (pgA p) (pgA ⟨0, 0, 0, 0, 0⟩) rfl rfl (by kernel_rfl) (freeP p) (HEQ.out _) ?_)
    | fail)
  go_ret
  exact ⟨rfl, HE.out⟩
set_option maxRecDepth 100000 in
set_option maxHeartbeats 2000000 in
theorem ix_late_c (a : Option Addr) (n cap : Nat) (L : List Pg) (hn : L.length = n) (hnm : n ≤ 1000000) (mb x : Nat) (w : World) (hR : PgsAt w a L) (hx : w.cell? ⟨mb, 0, none⟩ = some (.int .u64 (x : Int))) (hmb : mb < w.heap.size) :
    Calls Try.prog 55 #[.slice a n cap, .func (.func 53) #[] #[.pointer (some ⟨mb, 0, none⟩)]] w fun e w' => (∃ r : Int, e = .returned (.int .i64 r) ∧ decide (r ≥ 0) = L.any (fun p => p.kind == 2 && decide (x ≤ p.ser))) ∧ Below w.heap.size w w' := by
  have HR := Lib.hid hR
  have HN := Lib.hid hn
  have HNM := Lib.hid hnm
  have HX := Lib.hid hx
  have HM := Lib.hid hmb
  clear hx hmb
  clear hR hn hnm
  go_enter Try.func55, Try.ntmps55
  go_wp2
  go_loopw [8] (fun vi wr => ∃ k : Nat, k ≤ n ∧ vi = .int .i64 (k : Int) ∧ Hid ((L.take k).any (fun p => p.kind == 2 && decide (x ≤ p.ser)) = false) ∧ Hid (Below w.heap.size w wr)) (fun vi _ => n - (intOf vi).toNat)
  case atStart => exact ⟨0, by omega, rfl, rfl, Below.refl _ _⟩
  case round =>
    obtain ⟨k, hk, rfl, hall, hbel⟩ := hrel
    by_cases hlt : k < n
    · have hd : decide ((k : Int) < (n : Int)) = true := by simp; omega
      have dl : (k : Int) < (n : Int) := by omega
      have d0 : ¬ (k : Int) < 0 := by omega
      have hkl : k < L.length := by rw [HN.out]; exact hlt
      have hget := List.getElem?_eq_getElem hkl
      obtain ⟨p, hp⟩ : ∃ p, p = L[k] := ⟨_, rfl⟩
      rw [← hp] at hget
      obtain ⟨g, o, rfl, hg, hcell⟩ := HR.out k p hget
      have HC : Hid (wr.rangeAt g (o + k * 5) (pgA p).toList) := fun j u hu => (hbel.out.cell (p := ⟨g, o + k * 5 + j, none⟩) hg).trans (hcell j u hu)
      have HG := Lib.hid hget
      have HK := Lib.hid hlt
      have ek : IntKind.i64.wrap ((k : Int) + 1) = (k : Int) + 1 := by have := HNM.out; exact IntWalk.i64_in _ (by omega)
      have HB := Lib.hid (late_c 0 x mb p wr ((hbel.out.cell (p := ⟨mb, 0, none⟩) HM.out).trans HX.out) (Nat.lt_of_lt_of_le HM.out hbel.out.size))
      clear hget hp hkl hg hcell hk hlt
      cases ht : (fun p => p.kind == 2 && decide (x ≤ p.ser)) p with
      | false =>
        have HT : Hid ((L.take (k + 1)).any (fun p => p.kind == 2 && decide (x ≤ p.ser)) = false) := any_snoc L _ k p HG.out hall.out ht
        simp only [] at ht
        rw [ht] at HB
        clear ht hall
        go_wp2_with (first
          | (refine wpList_load_mid rfl 81 (.tmp 14) rfl g (o + k * 5) rfl _ _ HC.out Try.underlying81 rfl (by rw [page5]; rfl) ?_)
          | fail)
        refine HB.out.mono ?_
        rintro e w1 ⟨rfl, hb1⟩
        have HE1 : Hid (Below w.heap.size w w1) := hbel.out.trans (hb1.mono hbel.out.size)
        clear hb1 hbel
        go_wp2
        go_roundw
        case rel => exact ⟨k + 1, by have := HK.out; omega, by go_num, HT.out, HE1.out⟩
        case measure => simp [intOf]; have := HK.out; omega
      | true =>
        have HT : Hid (L.any (fun p => p.kind == 2 && decide (x ≤ p.ser)) = true) := any_at L _ k p HG.out ht
        simp only [] at ht
        rw [ht] at HB
        clear ht hall
        go_wp2_with (first
          | (refine wpList_load_mid rfl 81 (.tmp 14) rfl g (o + k * 5) rfl _ _ HC.out Try.underlying81 rfl (by rw [page5]; rfl) ?_)
          | fail)
        refine HB.out.mono ?_
        rintro e w1 ⟨rfl, hb1⟩
        have HE1 : Hid (Below w.heap.size w w1) := hbel.out.trans (hb1.mono hbel.out.size)
        clear hb1 hbel
        go_wp2
        go_ret
        exact ⟨⟨_, rfl, by rw [HT.out]; simp⟩, HE1.out⟩
    · have hkn : k = n := by omega
      have hd : decide ((k : Int) < (n : Int)) = false := by simp; omega
      have dl : ¬ (k : Int) < (n : Int) := by omega
      have HT : Hid (L.any (fun p => p.kind == 2 && decide (x ≤ p.ser)) = false) := by
        have h := hall.out
        rw [List.take_of_length_le (by rw [HN.out]; omega)] at h; exact h
      clear hall hkn hk hlt
      go_wp2
      go_ret
      exact ⟨⟨_, rfl, by rw [HT.out]; decide⟩, hbel.out⟩
set_option maxRecDepth 100000 in
theorem cf_late_c (a : Option Addr) (n cap : Nat) (L : List Pg) (hn : L.length = n) (hnm : n ≤ 1000000) (mb x : Nat) (w : World) (hR : PgsAt w a L) (hx : w.cell? ⟨mb, 0, none⟩ = some (.int .u64 (x : Int))) (hmb : mb < w.heap.size) :
    Calls Try.prog 31 #[.slice a n cap, .func (.func 53) #[] #[.pointer (some ⟨mb, 0, none⟩)]] w fun e w' => e = .returned (.bool (L.any (fun p => p.kind == 2 && decide (x ≤ p.ser)))) ∧ Below w.heap.size w w' := by
  have HC := Lib.hid (ix_late_c a n cap L hn hnm mb x w hR hx hmb)
  clear hR hn hnm
  go_enter Try.func31, Try.ntmps31
  go_wp2_with fail
  refine HC.out.mono ?_
  rintro e w1 ⟨⟨r, rfl, hr⟩, hb1⟩
  have HE1 := Lib.hid hb1
  clear hb1
  go_wp2
  go_ret
  first
    | exact ⟨by rw [← hr]; rfl, HE1.out⟩
    | (simp only [ge_iff_le] at hr; exact ⟨by rw [← hr]; rfl, HE1.out⟩)
set_option maxRecDepth 100000 in
set_option maxHeartbeats 2000000 in
theorem ix_nonzero_c (a : Option Addr) (n cap : Nat) (L : List Pg) (hn : L.length = n) (hnm : n ≤ 1000000)  (w : World) (hR : PgsAt w a L) :
    Calls Try.prog 55 #[.slice a n cap, .func (.func 32) #[] #[]] w fun e w' => (∃ r : Int, e = .returned (.int .i64 r) ∧ decide (r ≥ 0) = L.any (fun p => !freeP p)) ∧ Below w.heap.size w w' := by
  have HR := Lib.hid hR
  have HN := Lib.hid hn
  have HNM := Lib.hid hnm
  clear hR hn hnm
  go_enter Try.func55, Try.ntmps55
  go_wp2
  go_loopw [8] (fun vi wr => ∃ k : Nat, k ≤ n ∧ vi = .int .i64 (k : Int) ∧ Hid ((L.take k).any (fun p => !freeP p) = false) ∧ Hid (Below w.heap.size w wr)) (fun vi _ => n - (intOf vi).toNat)
  case atStart => exact ⟨0, by omega, rfl, rfl, Below.refl _ _⟩
  case round =>
    obtain ⟨k, hk, rfl, hall, hbel⟩ := hrel
    by_cases hlt : k < n
    · have hd : decide ((k : Int) < (n : Int)) = true := by simp; omega
      have dl : (k : Int) < (n : Int) := by omega
      have d0 : ¬ (k : Int) < 0 := by omega
      have hkl : k < L.length := by rw [HN.out]; exact hlt
      have hget := List.getElem?_eq_getElem hkl
      obtain ⟨p, hp⟩ : ∃ p, p = L[k] := ⟨_, rfl⟩
      rw [← hp] at hget
      obtain ⟨g, o, rfl, hg, hcell⟩ := HR.out k p hget
      have HC : Hid (wr.rangeAt g (o + k * 5) (pgA p).toList) := fun j u hu => (hbel.out.cell (p := ⟨g, o + k * 5 + j, none⟩) hg).trans (hcell j u hu)
      have HG := Lib.hid hget
      have HK := Lib.hid hlt
      have ek : IntKind.i64.wrap ((k : Int) + 1) = (k : Int) + 1 := by have := HNM.out; exact IntWalk.i64_in _ (by omega)
      have HB := Lib.hid (nonzero_c p wr)
      clear hget hp hkl hg hcell hk hlt
      cases ht : (fun p => !freeP p) p with
      | false =>
        have HT : Hid ((L.take (k + 1)).any (fun p => !freeP p) = false) := any_snoc L _ k p HG.out hall.out ht
        simp only [] at ht
        rw [ht] at HB
        clear ht hall
        go_wp2_with (first
          | (refine wpList_load_mid rfl 81 (.tmp 14) rfl g (o + k * 5) rfl _ _ HC.out Try.underlying81 rfl (by rw [page5]; rfl) ?_)
          | fail)
        refine HB.out.mono ?_
        rintro e w1 ⟨rfl, hb1⟩
        have HE1 : Hid (Below w.heap.size w w1) := hbel.out.trans (hb1.mono hbel.out.size)
        clear hb1 hbel
        go_wp2
        go_roundw
        case rel => exact ⟨k + 1, by have := HK.out; omega, by go_num, HT.out, HE1.out⟩
        case measure => simp [intOf]; have := HK.out; omega
      | true =>
        have HT : Hid (L.any (fun p => !freeP p) = true) := any_at L _ k p HG.out ht
        simp only [] at ht
        rw [ht] at HB
        clear ht hall
        go_wp2_with (first
          | (refine wpList_load_mid rfl 81 (.tmp 14) rfl g (o + k * 5) rfl _ _ HC.out Try.underlying81 rfl (by rw [page5]; rfl) ?_)
          | fail)
        refine HB.out.mono ?_
        rintro e w1 ⟨rfl, hb1⟩
        have HE1 : Hid (Below w.heap.size w w1) := hbel.out.trans (hb1.mono hbel.out.size)
        clear hb1 hbel
        go_wp2
        go_ret
        exact ⟨⟨_, rfl, by rw [HT.out]; simp⟩, HE1.out⟩
    · have hkn : k = n := by omega
      have hd : decide ((k : Int) < (n : Int)) = false := by simp; omega
      have dl : ¬ (k : Int) < (n : Int) := by omega
      have HT : Hid (L.any (fun p => !freeP p) = false) := by
        have h := hall.out
        rw [List.take_of_length_le (by rw [HN.out]; omega)] at h; exact h
      clear hall hkn hk hlt
      go_wp2
      go_ret
      exact ⟨⟨_, rfl, by rw [HT.out]; decide⟩, hbel.out⟩
set_option maxRecDepth 100000 in
theorem cf_nonzero_c (a : Option Addr) (n cap : Nat) (L : List Pg) (hn : L.length = n) (hnm : n ≤ 1000000)  (w : World) (hR : PgsAt w a L) :
    Calls Try.prog 31 #[.slice a n cap, .func (.func 32) #[] #[]] w fun e w' => e = .returned (.bool (L.any (fun p => !freeP p))) ∧ Below w.heap.size w w' := by
  have HC := Lib.hid (ix_nonzero_c a n cap L hn hnm  w hR)
  clear hR hn hnm
  go_enter Try.func31, Try.ntmps31
  go_wp2_with fail
  refine HC.out.mono ?_
  rintro e w1 ⟨⟨r, rfl, hr⟩, hb1⟩
  have HE1 := Lib.hid hb1
  clear hb1
  go_wp2
  go_ret
  first
    | exact ⟨by rw [← hr]; rfl, HE1.out⟩
    | (simp only [ge_iff_le] at hr; exact ⟨by rw [← hr]; rfl, HE1.out⟩)
end Go.Proofs.Ytpbmjfjnmcpieaa
