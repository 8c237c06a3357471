/- Texts ChR, ChT, ChU, ChV, ChX, put together by pack.py. -/
import Derived.Test.YtpbmjfjnmcpieaaGreatCBc
import Derived.Deep.AppendLies
import Derived.Great.BuildSlice
set_option maxRecDepth 100000
set_option maxHeartbeats 16000000
set_option linter.unusedVariables false
set_option linter.unusedSimpArgs false
namespace Go.Proofs.YtpbmjfjnmcpieaaGreat
open Go Go.RowKit
/-- pages behind an address -/
def PgsAt (w : World) (a : Option Addr) (L : List Pg) : Prop := ∀ (i : Nat) (p : Pg), L[i]? = some p -> ∃ g o, a = some ⟨g, o, none⟩ /\ g < w.heap.size /\ w.rangeAt g (o + i * 5) (pgA p).toList
theorem PgsAt.up {w w' : World} {a : Option Addr} {L : List Pg} (h : PgsAt w a L) {B : Nat} (hb : Below B w w') (hB : w.heap.size <= B) : PgsAt w' a L := by
 intro i p hp
 obtain ⟨g, o, h1, h2, h3⟩ := h i p hp
 exact ⟨g, o, h1, Nat.lt_of_lt_of_le h2 hb.size, fun j u hu => (hb.cell (p := ⟨g, o + i * 5 + j, none⟩) (Nat.lt_of_lt_of_le h2 hB)).trans (h3 j u hu)⟩
theorem any_snoc {α : Type} (L : List α) (f : α -> Bool) (k : Nat) (p : α) (h : L[k]? = some p) (h0 : (L.take k).any f = false) (h1 : f p = false) : (L.take (k + 1)).any f = false := by
 obtain ⟨hk, rfl⟩ := List.getElem?_eq_some_iff.1 h
 rw [List.take_succ_eq_append_getElem hk, List.any_append, h0]; simp [h1]
theorem any_at {α : Type} (L : List α) (f : α -> Bool) (k : Nat) (p : α) (h : L[k]? = some p) (h1 : f p = true) : L.any f = true := by
 rw [List.any_eq_true]; exact ⟨p, List.mem_of_getElem? h, h1⟩
theorem ix_bad_c (a : Option Addr) (n cap : Nat) (L : List Pg) (hn : L.length = n) (hnm : n <= 1000000) (hsz : ∀ p ∈ L, p.size < 4611686018427387904) (w : World) (hR : PgsAt w a L) :
  Calls Tryz.prog 72 #[.slice a n cap, .func (.func 68) #[] #[]] w fun e w' => (∃ r : Int, e = .returned (.int .i64 r) /\ decide (r >= 0) = L.any (fun p => !oneP p)) /\ Below w.heap.size w w' := by
 have HR := Lib.hid hR
 have HN := Lib.hid hn
 have HNM := Lib.hid hnm
 clear hR hn hnm
 go_enter Tryz.func72, Tryz.ntmps72
 go_wp2
 go_loopw [8] (fun vi wr => ∃ k : Nat, k <= n /\ vi = .int .i64 (k : Int) /\ Hid ((L.take k).any (fun p => !oneP p) = false) /\ Hid (Below w.heap.size w wr)) (fun vi _ => n - (intOf vi).toNat)
 case atStart => exact ⟨0, by omega, rfl, rfl, Below.refl _ _⟩
 case round =>
  obtain ⟨k, hk, rfl, hall, hbel⟩ := hrel
  by_cases hlt : k < n
  ·have hd : decide ((k : Int) < (n : Int)) = true := by simp; omega
   have dl : (k : Int) < (n : Int) := by omega
   have d0 : ¬ (k : Int) < 0 := by omega
   have hkl : k < L.length := by rw [HN.out]; exact hlt
   have hget := List.getElem?_eq_getElem hkl
   obtain ⟨p, hp⟩ : ∃ p, p = L[k] := ⟨_, rfl⟩
   rw [<- hp] at hget
   obtain ⟨g, o, rfl, hg, hcell⟩ := HR.out k p hget
   have HC : Hid (wr.rangeAt g (o + k * 5) (pgA p).toList) := fun j u hu => (hbel.out.cell (p := ⟨g, o + k * 5 + j, none⟩) hg).trans (hcell j u hu)
   have HG := Lib.hid hget
   have HK := Lib.hid hlt
   have ek : IntKind.i64.wrap ((k : Int) + 1) = (k : Int) + 1 := by have := HNM.out; exact IntWalk.i64_in _ (by omega)
   have HB := Lib.hid (pgbad_c p (hsz p (by rw [hp]; exact List.getElem_mem _)) wr)
   clear hget hp hkl hg hcell hk hlt
   cases ht : (fun p => !oneP p) p with
   | false =>
    have HT : Hid ((L.take (k + 1)).any (fun p => !oneP p) = false) := any_snoc L _ k p HG.out hall.out ht
    simp only [] at ht
    rw [ht] at HB
    clear ht hall
    go_wp2_with (first
     | (refine wpList_load_mid rfl 100 (.tmp 14) rfl g (o + k * 5) rfl _ _ HC.out Tryz.underlying100 rfl (by rw [page5]; rfl) ?_)
     | fail)
    refine HB.out.mono ?_
    rintro e w1 ⟨rfl, hb1⟩
    have HE1 : Hid (Below w.heap.size w w1) := hbel.out.trans (hb1.mono hbel.out.size)
    clear hb1 hbel
    go_wp2
    go_roundw
    case rel => exact ⟨k + 1, by have := HK.out; omega, by go_num, HT.out, HE1.out⟩
    case measure => simp [intOf]; have := HK.out; omega
   | true =>
    have HT : Hid (L.any (fun p => !oneP p) = true) := any_at L _ k p HG.out ht
    simp only [] at ht
    rw [ht] at HB
    clear ht hall
    go_wp2_with (first
     | (refine wpList_load_mid rfl 100 (.tmp 14) rfl g (o + k * 5) rfl _ _ HC.out Tryz.underlying100 rfl (by rw [page5]; rfl) ?_)
     | fail)
    refine HB.out.mono ?_
    rintro e w1 ⟨rfl, hb1⟩
    have HE1 : Hid (Below w.heap.size w w1) := hbel.out.trans (hb1.mono hbel.out.size)
    clear hb1 hbel
    go_wp2
    go_ret
    exact ⟨⟨_, rfl, by rw [HT.out]; simp⟩, HE1.out⟩
  ·have hkn : k = n := by omega
   have hd : decide ((k : Int) < (n : Int)) = false := by simp; omega
   have dl : ¬ (k : Int) < (n : Int) := by omega
   have HT : Hid (L.any (fun p => !oneP p) = false) := by
    have h := hall.out
    rw [List.take_of_length_le (by rw [HN.out]; omega)] at h; exact h
   clear hall hkn hk hlt
   go_wp2
   go_ret
   exact ⟨⟨_, rfl, by rw [HT.out]; decide⟩, hbel.out⟩
theorem cf_bad_c (a : Option Addr) (n cap : Nat) (L : List Pg) (hn : L.length = n) (hnm : n <= 1000000) (hsz : ∀ p ∈ L, p.size < 4611686018427387904) (w : World) (hR : PgsAt w a L) :
  Calls Tryz.prog 41 #[.slice a n cap, .func (.func 68) #[] #[]] w fun e w' => e = .returned (.bool (L.any (fun p => !oneP p))) /\ Below w.heap.size w w' := by
 have HC := Lib.hid (ix_bad_c a n cap L hn hnm hsz w hR)
 clear hR hn hnm
 go_enter Tryz.func41, Tryz.ntmps41
 go_wp2_with fail
 refine HC.out.mono ?_
 rintro e w1 ⟨⟨r, rfl, hr⟩, hb1⟩
 have HE1 := Lib.hid hb1
 clear hb1
 go_wp2
 go_ret
 first
  | exact ⟨by rw [<- hr]; rfl, HE1.out⟩
  | (simp only [ge_iff_le] at hr; exact ⟨by rw [<- hr]; rfl, HE1.out⟩)
theorem late_c (x n : Nat) (mb : Nat) (p : Pg) (w : World) (hc : w.cell? ⟨mb, 0, none⟩ = some (.int .u64 (n : Int))) (hm : mb < w.heap.size) :
  Calls Tryz.prog 70 #[.agg (pgA p), .pointer (some ⟨mb, 0, none⟩)] w fun e w' => e = .returned (.bool (p.kind == 2 && decide (n <= p.ser))) /\ Below w.heap.size w w' := by
 have HBLK := Lib.hid (heap_new' w (.cells (pgA p) 100))
 have HE := Lib.hid (below_box w (.cells (pgA p) 100))
 have c0 := (cells_at HBLK.out 0).trans (show _ = some (Value.int .i64 (p.kind : Int)) from rfl)
 have c4 := (cells_at HBLK.out 4).trans (show _ = some (Value.int .u64 (p.ser : Int)) from rfl)
 have cm : (w.alloc (.cells (pgA p) 100)).cell? ⟨mb, 0, none⟩ = some (.int .u64 (n : Int)) := (HE.out.cell (p := ⟨mb, 0, none⟩) hm).trans hc
 obtain ⟨k, hk⟩ : ∃ k, k = p.kind := ⟨_, rfl⟩
 obtain ⟨s, hs⟩ : ∃ s, s = p.ser := ⟨_, rfl⟩
 rw [<- hk] at c0 ⊢
 rw [<- hs] at c4 ⊢
 clear hk hs hc hm
 by_cases h2 : k = 2
 ·have d2 : ((k : Int) == 2) = true := by rw [h2]; rfl
  have i2 : (k : Int) = 2 := by omega
  have e2 : (k == 2) = true := by rw [h2]; rfl
  rw [e2, Bool.true_and]
  by_cases h3 : n <= s
  ·have d3 : decide ((s : Int) >= (n : Int)) = true := by simp; omega
   have i3 : (n : Int) <= (s : Int) := by omega
   rw [decide_eq_true h3]
   clear h2 h3 e2
   go_enter Tryz.func70, Tryz.ntmps70
   go_wp2
   go_ret
   exact ⟨rfl, HE.out⟩
  ·have d3 : decide ((s : Int) >= (n : Int)) = false := by simp; omega
   have i3 : ¬ (n : Int) <= (s : Int) := by omega
   rw [decide_eq_false h3]
   clear h2 h3 e2
   go_enter Tryz.func70, Tryz.ntmps70
   go_wp2
   go_ret
   exact ⟨rfl, HE.out⟩
 ·have d2 : ((k : Int) == 2) = false := by rw [beq_eq_false_iff_ne]; omega
  have i2 : ¬ (k : Int) = 2 := by omega
  have e2 : (k == 2) = false := by simpa using h2
  rw [e2, Bool.false_and]
  clear h2 e2
  go_enter Tryz.func70, Tryz.ntmps70
  go_wp2
  go_ret
  exact ⟨rfl, HE.out⟩
theorem wpList_neq_agg {w : World} {ops : Array Oper} {rest : List Oper} {op : Oper} {A : Act} {Q : Exit -> Act -> World -> Prop} (hw : Region.wanted op (yielded ops A.tmps) = true) (T ty : TypeId) (x y : Operand) (ho : op.op = .binOp .neq T x y ty) (xs ys : Array Value) (hx : A.eval x = .agg xs) (hy : A.eval y = .agg ys)
  (hm : Tryz.prog.eqGuardType Tryz.prog.depth T = false) (b : Bool) (hr : (binOp .eql T (.agg xs) (.agg ys)).run Tryz.prog w = .ok (.bool b) w) (hK : wpList Tryz.prog ops Q rest (A.put op.dst (.bool (!b))) w) : wpList Tryz.prog ops Q (op :: rest) A w :=
 wpList_met hw fun _ hk => by
  unfold Oper.wp
  have hr2 : (binOp .neq T (.agg xs) (.agg ys)).run Tryz.prog w = .ok (.bool (!b)) w := by
   rw [run_eql_struct] at hr
   rw [run_neq_struct]
   generalize (Op.equalIn 10000 T (.agg xs) (.agg ys)).run Tryz.prog w = R at *
   cases R with
   | ok b' w' =>
    simp only [Result.andThen_ok, Result.ok.injEq, Value.bool.injEq] at hr ⊢
    exact ⟨by rw [hr.1], hr.2⟩
   | halt x w' => simp [Result.andThen] at hr
  have : (execOp A.eval op).run Tryz.prog w = .ok (.value (.bool (!b))) w := by
   unfold execOp
   simp only [ho, hx, hy, Sem.run_bind, run_eqGuard_agg _ _ _ _ _ _ _ hm, Result.andThen_ok, hr2]
   rfl
  rw [this]
  exact hk _ _ hK
theorem nonzero_c (p : Pg) (w : World) :
  Calls Tryz.prog 42 #[.agg (pgA p)] w fun e w' => e = .returned (.bool (!freeP p)) /\ Below w.heap.size w w' := by
 have HBLK := Lib.hid (heap_new' w (.cells (pgA p) 100))
 have HE := Lib.hid (below_box w (.cells (pgA p) 100))
 have HEQ : Hid (∀ w, (binOp .eql 100 (.agg (pgA p)) (.agg (pgA ⟨0, 0, 0, 0, 0⟩))).run Tryz.prog w = .ok (.bool (freeP p)) w) := fun w => eql_pg p _ w
 go_enter Tryz.func42, Tryz.ntmps42
 go_wp2_with (first
  | (refine wpList_load_row rfl 100 (.tmp 1) rfl w.heap.size rfl _ _ _ _ HBLK.out Tryz.underlying100 rfl (by rw [page5]; rfl) ?_)
  | (refine wpList_neq_agg rfl 100 _ (.tmp 3) (.tmp 4) rfl (pgA p) (pgA ⟨0, 0, 0, 0, 0⟩) rfl rfl (by kernel_rfl) (freeP p) (HEQ.out _) ?_)
  | fail)
 go_ret
 exact ⟨rfl, HE.out⟩
theorem ix_late_c (a : Option Addr) (n cap : Nat) (L : List Pg) (hn : L.length = n) (hnm : n <= 1000000) (mb x : Nat) (w : World) (hR : PgsAt w a L) (hx : w.cell? ⟨mb, 0, none⟩ = some (.int .u64 (x : Int))) (hmb : mb < w.heap.size) :
  Calls Tryz.prog 72 #[.slice a n cap, .func (.func 70) #[] #[.pointer (some ⟨mb, 0, none⟩)]] w fun e w' => (∃ r : Int, e = .returned (.int .i64 r) /\ decide (r >= 0) = L.any (fun p => p.kind == 2 && decide (x <= p.ser))) /\ Below w.heap.size w w' := by
 have HR := Lib.hid hR
 have HN := Lib.hid hn
 have HNM := Lib.hid hnm
 have HX := Lib.hid hx
 have HM := Lib.hid hmb
 clear hx hmb
 clear hR hn hnm
 go_enter Tryz.func72, Tryz.ntmps72
 go_wp2
 go_loopw [8] (fun vi wr => ∃ k : Nat, k <= n /\ vi = .int .i64 (k : Int) /\ Hid ((L.take k).any (fun p => p.kind == 2 && decide (x <= p.ser)) = false) /\ Hid (Below w.heap.size w wr)) (fun vi _ => n - (intOf vi).toNat)
 case atStart => exact ⟨0, by omega, rfl, rfl, Below.refl _ _⟩
 case round =>
  obtain ⟨k, hk, rfl, hall, hbel⟩ := hrel
  by_cases hlt : k < n
  ·have hd : decide ((k : Int) < (n : Int)) = true := by simp; omega
   have dl : (k : Int) < (n : Int) := by omega
   have d0 : ¬ (k : Int) < 0 := by omega
   have hkl : k < L.length := by rw [HN.out]; exact hlt
   have hget := List.getElem?_eq_getElem hkl
   obtain ⟨p, hp⟩ : ∃ p, p = L[k] := ⟨_, rfl⟩
   rw [<- hp] at hget
   obtain ⟨g, o, rfl, hg, hcell⟩ := HR.out k p hget
   have HC : Hid (wr.rangeAt g (o + k * 5) (pgA p).toList) := fun j u hu => (hbel.out.cell (p := ⟨g, o + k * 5 + j, none⟩) hg).trans (hcell j u hu)
   have HG := Lib.hid hget
   have HK := Lib.hid hlt
   have ek : IntKind.i64.wrap ((k : Int) + 1) = (k : Int) + 1 := by have := HNM.out; exact IntWalk.i64_in _ (by omega)
   have HB := Lib.hid (late_c 0 x mb p wr ((hbel.out.cell (p := ⟨mb, 0, none⟩) HM.out).trans HX.out) (Nat.lt_of_lt_of_le HM.out hbel.out.size))
   clear hget hp hkl hg hcell hk hlt
   cases ht : (fun p => p.kind == 2 && decide (x <= p.ser)) p with
   | false =>
    have HT : Hid ((L.take (k + 1)).any (fun p => p.kind == 2 && decide (x <= p.ser)) = false) := any_snoc L _ k p HG.out hall.out ht
    simp only [] at ht
    rw [ht] at HB
    clear ht hall
    go_wp2_with (first
     | (refine wpList_load_mid rfl 100 (.tmp 14) rfl g (o + k * 5) rfl _ _ HC.out Tryz.underlying100 rfl (by rw [page5]; rfl) ?_)
     | fail)
    refine HB.out.mono ?_
    rintro e w1 ⟨rfl, hb1⟩
    have HE1 : Hid (Below w.heap.size w w1) := hbel.out.trans (hb1.mono hbel.out.size)
    clear hb1 hbel
    go_wp2
    go_roundw
    case rel => exact ⟨k + 1, by have := HK.out; omega, by go_num, HT.out, HE1.out⟩
    case measure => simp [intOf]; have := HK.out; omega
   | true =>
    have HT : Hid (L.any (fun p => p.kind == 2 && decide (x <= p.ser)) = true) := any_at L _ k p HG.out ht
    simp only [] at ht
    rw [ht] at HB
    clear ht hall
    go_wp2_with (first
     | (refine wpList_load_mid rfl 100 (.tmp 14) rfl g (o + k * 5) rfl _ _ HC.out Tryz.underlying100 rfl (by rw [page5]; rfl) ?_)
     | fail)
    refine HB.out.mono ?_
    rintro e w1 ⟨rfl, hb1⟩
    have HE1 : Hid (Below w.heap.size w w1) := hbel.out.trans (hb1.mono hbel.out.size)
    clear hb1 hbel
    go_wp2
    go_ret
    exact ⟨⟨_, rfl, by rw [HT.out]; simp⟩, HE1.out⟩
  ·have hkn : k = n := by omega
   have hd : decide ((k : Int) < (n : Int)) = false := by simp; omega
   have dl : ¬ (k : Int) < (n : Int) := by omega
   have HT : Hid (L.any (fun p => p.kind == 2 && decide (x <= p.ser)) = false) := by
    have h := hall.out
    rw [List.take_of_length_le (by rw [HN.out]; omega)] at h; exact h
   clear hall hkn hk hlt
   go_wp2
   go_ret
   exact ⟨⟨_, rfl, by rw [HT.out]; decide⟩, hbel.out⟩
theorem cf_late_c (a : Option Addr) (n cap : Nat) (L : List Pg) (hn : L.length = n) (hnm : n <= 1000000) (mb x : Nat) (w : World) (hR : PgsAt w a L) (hx : w.cell? ⟨mb, 0, none⟩ = some (.int .u64 (x : Int))) (hmb : mb < w.heap.size) :
  Calls Tryz.prog 41 #[.slice a n cap, .func (.func 70) #[] #[.pointer (some ⟨mb, 0, none⟩)]] w fun e w' => e = .returned (.bool (L.any (fun p => p.kind == 2 && decide (x <= p.ser)))) /\ Below w.heap.size w w' := by
 have HC := Lib.hid (ix_late_c a n cap L hn hnm mb x w hR hx hmb)
 clear hR hn hnm
 go_enter Tryz.func41, Tryz.ntmps41
 go_wp2_with fail
 refine HC.out.mono ?_
 rintro e w1 ⟨⟨r, rfl, hr⟩, hb1⟩
 have HE1 := Lib.hid hb1
 clear hb1
 go_wp2
 go_ret
 first
  | exact ⟨by rw [<- hr]; rfl, HE1.out⟩
  | (simp only [ge_iff_le] at hr; exact ⟨by rw [<- hr]; rfl, HE1.out⟩)
theorem ix_nonzero_c (a : Option Addr) (n cap : Nat) (L : List Pg) (hn : L.length = n) (hnm : n <= 1000000)  (w : World) (hR : PgsAt w a L) :
  Calls Tryz.prog 72 #[.slice a n cap, .func (.func 42) #[] #[]] w fun e w' => (∃ r : Int, e = .returned (.int .i64 r) /\ decide (r >= 0) = L.any (fun p => !freeP p)) /\ Below w.heap.size w w' := by
 have HR := Lib.hid hR
 have HN := Lib.hid hn
 have HNM := Lib.hid hnm
 clear hR hn hnm
 go_enter Tryz.func72, Tryz.ntmps72
 go_wp2
 go_loopw [8] (fun vi wr => ∃ k : Nat, k <= n /\ vi = .int .i64 (k : Int) /\ Hid ((L.take k).any (fun p => !freeP p) = false) /\ Hid (Below w.heap.size w wr)) (fun vi _ => n - (intOf vi).toNat)
 case atStart => exact ⟨0, by omega, rfl, rfl, Below.refl _ _⟩
 case round =>
  obtain ⟨k, hk, rfl, hall, hbel⟩ := hrel
  by_cases hlt : k < n
  ·have hd : decide ((k : Int) < (n : Int)) = true := by simp; omega
   have dl : (k : Int) < (n : Int) := by omega
   have d0 : ¬ (k : Int) < 0 := by omega
   have hkl : k < L.length := by rw [HN.out]; exact hlt
   have hget := List.getElem?_eq_getElem hkl
   obtain ⟨p, hp⟩ : ∃ p, p = L[k] := ⟨_, rfl⟩
   rw [<- hp] at hget
   obtain ⟨g, o, rfl, hg, hcell⟩ := HR.out k p hget
   have HC : Hid (wr.rangeAt g (o + k * 5) (pgA p).toList) := fun j u hu => (hbel.out.cell (p := ⟨g, o + k * 5 + j, none⟩) hg).trans (hcell j u hu)
   have HG := Lib.hid hget
   have HK := Lib.hid hlt
   have ek : IntKind.i64.wrap ((k : Int) + 1) = (k : Int) + 1 := by have := HNM.out; exact IntWalk.i64_in _ (by omega)
   have HB := Lib.hid (nonzero_c p wr)
   clear hget hp hkl hg hcell hk hlt
   cases ht : (fun p => !freeP p) p with
   | false =>
    have HT : Hid ((L.take (k + 1)).any (fun p => !freeP p) = false) := any_snoc L _ k p HG.out hall.out ht
    simp only [] at ht
    rw [ht] at HB
    clear ht hall
    go_wp2_with (first
     | (refine wpList_load_mid rfl 100 (.tmp 14) rfl g (o + k * 5) rfl _ _ HC.out Tryz.underlying100 rfl (by rw [page5]; rfl) ?_)
     | fail)
    refine HB.out.mono ?_
    rintro e w1 ⟨rfl, hb1⟩
    have HE1 : Hid (Below w.heap.size w w1) := hbel.out.trans (hb1.mono hbel.out.size)
    clear hb1 hbel
    go_wp2
    go_roundw
    case rel => exact ⟨k + 1, by have := HK.out; omega, by go_num, HT.out, HE1.out⟩
    case measure => simp [intOf]; have := HK.out; omega
   | true =>
    have HT : Hid (L.any (fun p => !freeP p) = true) := any_at L _ k p HG.out ht
    simp only [] at ht
    rw [ht] at HB
    clear ht hall
    go_wp2_with (first
     | (refine wpList_load_mid rfl 100 (.tmp 14) rfl g (o + k * 5) rfl _ _ HC.out Tryz.underlying100 rfl (by rw [page5]; rfl) ?_)
     | fail)
    refine HB.out.mono ?_
    rintro e w1 ⟨rfl, hb1⟩
    have HE1 : Hid (Below w.heap.size w w1) := hbel.out.trans (hb1.mono hbel.out.size)
    clear hb1 hbel
    go_wp2
    go_ret
    exact ⟨⟨_, rfl, by rw [HT.out]; simp⟩, HE1.out⟩
  ·have hkn : k = n := by omega
   have hd : decide ((k : Int) < (n : Int)) = false := by simp; omega
   have dl : ¬ (k : Int) < (n : Int) := by omega
   have HT : Hid (L.any (fun p => !freeP p) = false) := by
    have h := hall.out
    rw [List.take_of_length_le (by rw [HN.out]; omega)] at h; exact h
   clear hall hkn hk hlt
   go_wp2
   go_ret
   exact ⟨⟨_, rfl, by rw [HT.out]; decide⟩, hbel.out⟩
theorem cf_nonzero_c (a : Option Addr) (n cap : Nat) (L : List Pg) (hn : L.length = n) (hnm : n <= 1000000)  (w : World) (hR : PgsAt w a L) :
  Calls Tryz.prog 41 #[.slice a n cap, .func (.func 42) #[] #[]] w fun e w' => e = .returned (.bool (L.any (fun p => !freeP p))) /\ Below w.heap.size w w' := by
 have HC := Lib.hid (ix_nonzero_c a n cap L hn hnm  w hR)
 clear hR hn hnm
 go_enter Tryz.func41, Tryz.ntmps41
 go_wp2_with fail
 refine HC.out.mono ?_
 rintro e w1 ⟨⟨r, rfl, hr⟩, hb1⟩
 have HE1 := Lib.hid hb1
 clear hb1
 go_wp2
 go_ret
 first
  | exact ⟨by rw [<- hr]; rfl, HE1.out⟩
  | (simp only [ge_iff_le] at hr; exact ⟨by rw [<- hr]; rfl, HE1.out⟩)
/-- may pages be -/
def chkP (L : List Pg) : Bool := decide (L.length <= 64) && L.all oneP && goP 0 L
def chkE (L : List Pg) : Int := if chkP L then 0 else 4
theorem any_not_all (L : List Pg) : L.any (fun p => !oneP p) = !L.all oneP := by
 rw [Bool.eq_iff_iff]; simp
theorem goP_cons (m : Nat) (p : Pg) (l : List Pg) : goP m (p :: l) = if decide (0 < m) != tailP p then false else if 0 < m then goP (m - 1) l else if p.kind = 2 then goP (p.run - 1) l else goP 0 l := rfl
theorem pcheck_c (a : Option Addr) (n cap : Nat) (L : List Pg) (hn : L.length = n) (hnm : n <= 1000000) (hsz : ∀ p ∈ L, p.size < 4611686018427387904) (w : World) (hR : PgsAt w a L) :
  Calls Tryz.prog 71 #[.slice a n cap] w fun e w' => e = .returned (.int .i64 (chkE L)) /\ Below w.heap.size w w' := by
 have HCF := Lib.hid (cf_bad_c a n cap L hn hnm hsz w hR)
 rw [any_not_all] at HCF
 have HN := Lib.hid hn
 have HR := Lib.hid hR
 by_cases hbig : n > 64
 ·have d1 : decide ((n : Int) > 64) = true := by simp; omega
  have i1 : 64 < (n : Int) := by omega
  have HM : Hid (chkE L = 4) := by show _ = _; unfold chkE chkP; rw [hn, show decide (n <= 64) = false by simp; omega]; rfl
  clear hn hnm hsz hR hbig
  go_enter Tryz.func71, Tryz.ntmps71
  go_wp2
  go_ret
  exact ⟨by rw [HM.out]; rfl, Below.refl _ _⟩
 ·have d1 : decide ((n : Int) > 64) = false := by simp; omega
  have i1 : ¬ 64 < (n : Int) := by omega
  by_cases hall : L.all oneP = true
  ·rw [show (!L.all oneP) = false by rw [hall]; rfl] at HCF
   have HM : Hid (chkP L = goP 0 (L.drop 0)) := by show _ = _; unfold chkP; rw [hn, hall, show decide (n <= 64) = true by simp; omega]; rfl
   have HN64 : Hid (n <= 64) := by show _ <= _; omega
   have HONE : Hid (∀ p ∈ L, oneP p = true) := by rw [List.all_eq_true] at hall; exact hall
   clear hn hnm hsz hR hbig hall
   go_enter Tryz.func71, Tryz.ntmps71
   go_wp2_with fail
   refine HCF.out.mono ?_
   rintro e w0 ⟨rfl, hb0⟩
   have HE0 := Lib.hid hb0
   clear hb0
   go_wp2
   go_loopw [3, 15] (fun vm vi wr => ∃ k m : Nat, k <= n /\ m <= 63 /\ vi = .int .i64 (k : Int) /\ vm = .int .i64 (m : Int) /\ Hid (chkP L = goP m (L.drop k)) /\ Hid (Below w.heap.size w wr)) (fun _ vi _ => n - (intOf vi).toNat)
   case atStart => exact ⟨0, 0, by omega, by omega, rfl, rfl, HM.out, HE0.out⟩
   case round =>
    clear HM HE0 HCF
    obtain ⟨k, m, hk, hm63, rfl, rfl, hgo, hbel⟩ := hrel
    by_cases hlt : k < n
    ·have hd : decide ((k : Int) < (n : Int)) = true := by simp; omega
     have dl : (k : Int) < (n : Int) := by omega
     have d0 : ¬ (k : Int) < 0 := by omega
     have hkl : k < L.length := by rw [HN.out]; exact hlt
     have hget := List.getElem?_eq_getElem hkl
     obtain ⟨p, hp⟩ : ∃ p, p = L[k] := ⟨_, rfl⟩
     have hdrop : L.drop k = p :: L.drop (k + 1) := by rw [hp]; exact List.drop_eq_getElem_cons hkl
     have hone : oneP p = true := HONE.out p (by rw [hp]; exact List.getElem_mem _)
     have hgo2 := hgo.out
     rw [hdrop, goP_cons] at hgo2
     rw [<- hp] at hget
     obtain ⟨g, o, rfl, hg, hcell⟩ := HR.out k p hget
     have HC : Hid (wr.rangeAt g (o + k * 5) (pgA p).toList) := fun j u hu => (hbel.out.cell (p := ⟨g, o + k * 5 + j, none⟩) hg).trans (hcell j u hu)
     have HK := Lib.hid hlt
     have ek : IntKind.i64.wrap ((k : Int) + 1) = (k : Int) + 1 := by have := HN64.out; exact IntWalk.i64_in _ (by omega)
     have HZ : Hid ((wr.alloc (.cells #[.int .i64 0, .int .i64 0, .int .i64 0, .int .i64 0, .int .u64 0] 100)).heap[wr.heap.size]? = some (.cells (pgA ⟨0, 0, 0, 0, 0⟩) 100 (0, 0))) := heap_new' _ _
     have HE1 : Hid (Below w.heap.size w (wr.alloc (.cells #[.int .i64 0, .int .i64 0, .int .i64 0, .int .i64 0, .int .u64 0] 100))) := hbel.out.trans ((below_box wr _).mono hbel.out.size)
     have HM63 := Lib.hid hm63
     have HRUN : Hid (p.kind = 2 -> 1 <= p.run /\ p.run <= 64) := by
      intro h2
      have h1 := run_pos hone h2
      refine ⟨h1, ?_⟩
      rcases oneP_kind hone with ⟨k', _⟩ | ⟨k', _⟩ | ⟨_, h3⟩ | ⟨k', _⟩
      ·omega
      ·omega
      ·unfold headP pagesOf at h3
       simp only [Bool.and_eq_true, beq_iff_eq, decide_eq_true_eq] at h3
       omega
      ·omega
     have HG2 := Lib.hid hgo2
     clear hget hp hkl hg hcell hk hlt hdrop hone hgo2 hgo hm63
     have HTL := Lib.hid (fun w => pgtail_c p w)
     go_wp2_with (first
      | (refine wpList_load_mid rfl 100 (.tmp 17) rfl g (o + k * 5) rfl _ _ HC.out Tryz.underlying100 rfl (by rw [page5]; rfl) ?_)
      | (refine wpList_store_row rfl 100 (.tmp 5) (.tmp 18) rfl wr.heap.size (pgA p) rfl rfl 100 _ HZ.out (by rw [page5]; rfl) rfl (pgA_one _) ?_; generalize hW1 : World.setRow _ _ _ = w1; have HZ1 : Hid (w1.heap[wr.heap.size]? = some (.cells (pgA p) 100 (0, 0))) := (by show _ = _; rw [<- hW1]; exact setRow_heap _ _ _ _ _ _ HZ.out); have HE2 : Hid (Below w.heap.size w w1) := (by rw [<- hW1]; exact below_setRow HE1.out hbel.out.size _); clear hW1)
      | (refine wpList_load_row rfl 100 (.tmp 5) rfl wr.heap.size rfl _ _ _ _ HZ1.out Tryz.underlying100 rfl (by rw [page5]; rfl) ?_)
      | fail)
     refine (HTL.out w1).mono ?_
     rintro e w3 ⟨rfl, hb3⟩
     have HZ3 := Lib.hid ((hb3.block _ (lt_of_block HZ1.out)).trans HZ1.out)
     have HE3 : Hid (Below w.heap.size w w3) := HE2.out.trans (hb3.mono HE2.out.size)
     have c0 := (cells_at HZ3.out 0).trans (show _ = some (Value.int .i64 (p.kind : Int)) from rfl)
     have c2 := (cells_at HZ3.out 2).trans (show _ = some (Value.int .i64 (p.run : Int)) from rfl)
     obtain ⟨t, ht⟩ : ∃ t, t = tailP p := ⟨_, rfl⟩
     obtain ⟨kd, hkd⟩ : ∃ kd, kd = p.kind := ⟨_, rfl⟩
     obtain ⟨rn, hrn⟩ : ∃ rn, rn = p.run := ⟨_, rfl⟩
     rw [<- ht] at HG2 ⊢
     rw [<- hkd] at HG2 c0 HRUN
     rw [<- hrn] at HG2 c2 HRUN
     clear hb3 HZ1 HE2 HE1 HZ hbel ht hkd hrn HTL
     by_cases hm0 : 0 < m
     ·have dm : decide ((m : Int) > 0) = true := by simp; omega
      have im : 0 < (m : Int) := by omega
      have dn : decide (0 < m) = true := decide_eq_true hm0
      have em : IntKind.i64.wrap ((m : Int) - 1) = ((m - 1 : Nat) : Int) := by
       rw [show (m : Int) - 1 = ((m - 1 : Nat) : Int) by omega]; exact IntWalk.i64_in _ (by have := HM63.out; omega)
      cases t with
      | true =>
       have HG3 : Hid (chkP L = goP (m - 1) (L.drop (k + 1))) := by show _ = _; rw [HG2.out, decide_eq_true hm0, if_pos hm0]; rfl
       obtain ⟨m1, hm1⟩ : ∃ m1, m1 = m - 1 := ⟨_, rfl⟩
       rw [<- hm1] at HG3 em
       have HM1 : Hid (m1 <= 63) := by have := HM63.out; show _ <= _; omega
       clear hm0 HG2 hm1
       go_wp2
       go_roundw
       case rel => exact ⟨k + 1, m1, by have := HK.out; omega, HM1.out, by go_num, rfl, HG3.out, HE3.out⟩
       case measure => simp [intOf]; have := HK.out; omega
      | false =>
       have HG3 : Hid (chkE L = 4) := by show _ = _; unfold chkE; rw [HG2.out, decide_eq_true hm0]; rfl
       clear hm0 HG2
       go_wp2
       go_ret
       exact ⟨by rw [HG3.out]; rfl, HE3.out⟩
     ·have dm : decide ((m : Int) > 0) = false := by simp; omega
      have im : ¬ 0 < (m : Int) := by omega
      have dn : decide (0 < m) = false := decide_eq_false hm0
      cases t with
      | true =>
       have HG3 : Hid (chkE L = 4) := by show _ = _; unfold chkE; rw [HG2.out, decide_eq_false hm0]; rfl
       clear hm0 HG2
       go_wp2
       go_ret
       exact ⟨by rw [HG3.out]; rfl, HE3.out⟩
      | false =>
       by_cases h2 : kd = 2
       ·have d2 : ((kd : Int) == 2) = true := by rw [h2]; rfl
        have i2 : (kd : Int) = 2 := by omega
        have hr := HRUN.out h2
        have er : IntKind.i64.wrap ((rn : Int) - 1) = ((rn - 1 : Nat) : Int) := by
         rw [show (rn : Int) - 1 = ((rn - 1 : Nat) : Int) by omega]; exact IntWalk.i64_in _ (by omega)
        have HG3 : Hid (chkP L = goP (rn - 1) (L.drop (k + 1))) := by show _ = _; rw [HG2.out, decide_eq_false hm0, if_neg hm0, if_pos h2]; rfl
        obtain ⟨m1, hm1⟩ : ∃ m1, m1 = rn - 1 := ⟨_, rfl⟩
        rw [<- hm1] at HG3 er
        have HM1 : Hid (m1 <= 63) := by show _ <= _; omega
        clear hm0 HG2 hm1 hr h2
        go_wp2
        go_roundw
        case rel => exact ⟨k + 1, m1, by have := HK.out; omega, HM1.out, by go_num, rfl, HG3.out, HE3.out⟩
        case measure => simp [intOf]; have := HK.out; omega
       ·have d2 : ((kd : Int) == 2) = false := by rw [beq_eq_false_iff_ne]; omega
        have i2 : ¬ (kd : Int) = 2 := by omega
        have HG3 : Hid (chkP L = goP 0 (L.drop (k + 1))) := by show _ = _; rw [HG2.out, decide_eq_false hm0, if_neg hm0, if_neg h2]; rfl
        have HM0 : Hid (m = 0) := by show _ = _; omega
        clear hm0 HG2 h2
        go_wp2
        go_roundw
        case rel => exact ⟨k + 1, m, by have := HK.out; omega, HM63.out, by go_num, rfl, by have h := HG3.out; rw [<- HM0.out] at h; exact h, HE3.out⟩
        case measure => simp [intOf]; have := HK.out; omega
    ·have hd : decide ((k : Int) < (n : Int)) = false := by simp; omega
     have dl : ¬ (k : Int) < (n : Int) := by omega
     have hgo2 := hgo.out
     rw [List.drop_of_length_le (by rw [HN.out]; omega)] at hgo2
     have hg3 : chkP L = (m == 0) := hgo2
     clear hgo hgo2 hlt hk
     by_cases hm0 : 0 < m
     ·have dm : decide ((m : Int) > 0) = true := by simp; omega
      have im : 0 < (m : Int) := by omega
      have dn : decide (0 < m) = true := decide_eq_true hm0
      have HG3 : Hid (chkE L = 4) := by show _ = _; unfold chkE; rw [hg3, show (m == 0) = false by simp; omega]; rfl
      clear hm0 hg3
      go_wp2
      go_ret
      exact ⟨by rw [HG3.out]; rfl, hbel.out⟩
     ·have dm : decide ((m : Int) > 0) = false := by simp; omega
      have im : ¬ 0 < (m : Int) := by omega
      have dn : decide (0 < m) = false := decide_eq_false hm0
      have HG3 : Hid (chkE L = 0) := by show _ = _; unfold chkE; rw [hg3, show (m == 0) = true by simp; omega]; rfl
      clear hm0 hg3
      go_wp2
      go_ret
      exact ⟨by rw [HG3.out]; rfl, hbel.out⟩
  ·have hallf : L.all oneP = false := by simpa using hall
   rw [show (!L.all oneP) = true by rw [hallf]; rfl] at HCF
   have HM : Hid (chkE L = 4) := by show _ = _; unfold chkE chkP; rw [hallf]; simp
   clear hn hnm hsz hR hbig hall hallf
   go_enter Tryz.func71, Tryz.ntmps71
   go_wp2_with fail
   refine HCF.out.mono ?_
   rintro e w0 ⟨rfl, hb0⟩
   have HE0 := Lib.hid hb0
   clear hb0
   go_wp2
   go_ret
   exact ⟨by rw [HM.out]; rfl, HE0.out⟩
def hdB (p : Pg) : List Nat := [p.kind % 256, p.cls % 256]
/-- a page's sixteen bytes -/
def pgB (p : Pg) : List Nat := hdB p ++ (lowB 2 p.run ++ (lowB 4 p.size ++ lowB 8 p.ser))
def pgSegs (p : Pg) (b0 b1 b2 b3 : Nat) : List (Nat × List Nat) := [(b0, hdB p), (b1, lowB 2 p.run), (b2, lowB 4 p.size), (b3, lowB 8 p.ser)]
theorem pgSegs_tot (p : Pg) (b0 b1 b2 b3 : Nat) : totL (pgSegs p b0 b1 b2 b3) = 16 := by simp [pgSegs, totL, hdB, lowB_len]
theorem pgSegs_cat (p : Pg) (b0 b1 b2 b3 : Nat) : catL (pgSegs p b0 b1 b2 b3) = pgB p := by simp [pgSegs, catL, pgB]
theorem u8_of_nat (n : Nat) : IntKind.u8.wrap (n : Int) = ((n % 256 : Nat) : Int) := by rw [IntKind.wrap_u8]; omega
/-- a fresh block of bytes -/
def FreshB (w : World) (b : Nat) (l : List Nat) : Prop := w.heap[b]? = some (.cells (bA l) 5 (0, 0))
theorem FreshB.kept {w w' : World} {b : Nat} {l : List Nat} (h : FreshB w b l) (hk : Fre.Kept w w') : FreshB w' b l := (hk.block _ (lt_of_block h)).trans h
theorem put_f (n v : Nat) (hv : v < 18446744073709551616) (h1 : 1 <= n) (hn : n <= 8) (w : World) :
  Calls Tryz.prog 90 #[.int .i64 (n : Int), .int .u64 (v : Int)] w
   fun e w' => ∃ u, e = .returned u /\ (∃ b, u = .slice (some ⟨b, 0, none⟩) n n /\ FreshB w' b (lowB n v)) /\ Fre.Kept w w' :=
 (put_c n v hv h1 hn n v rfl rfl w).mono fun e w' ⟨b, he, _, _, hb, hk⟩ => ⟨_, he, ⟨b, rfl, hb⟩, hk⟩
def opsPB : {o : Array Oper // some o = (Tryz.f69.body.bind (Fre.findR 1))} := ⟨_, rfl⟩
theorem fitPB : Fre.fit .any opsPB.1 23 = true := by kernel_rfl
theorem sizePB : opsPB.1.size = 21 := by kernel_rfl
def VPB (p : Pg) (g B : Nat) (i : Nat) (v : Value) (w : World) : Prop := match i with
 | 0 => v = .pointer (some ⟨g, 0, none⟩)
 | 1 => v = .int .i64 (p.kind : Int)
 | 2 => v = .int .u8 ((p.kind % 256 : Nat) : Int)
 | 3 => v = .pointer (some ⟨g, 1, none⟩)
 | 4 => v = .int .i64 (p.cls : Int)
 | 5 => v = .int .u8 ((p.cls % 256 : Nat) : Int)
 | 6 => ∃ b, v = .slice (some ⟨b, 0, none⟩) 2 2 /\ FreshB w b (hdB p)
 | 7 => v = .pointer (some ⟨g, 2, none⟩)
 | 8 => v = .int .i64 (p.run : Int)
 | 9 => v = .int .u64 (p.run : Int)
 | 10 => ∃ b, v = .slice (some ⟨b, 0, none⟩) 2 2 /\ FreshB w b (lowB 2 p.run)
 | 11 => v = .pointer (some ⟨g, 3, none⟩)
 | 12 => v = .int .i64 (p.size : Int)
 | 13 => v = .int .u64 (p.size : Int)
 | 14 => ∃ b, v = .slice (some ⟨b, 0, none⟩) 4 4 /\ FreshB w b (lowB 4 p.size)
 | 15 => v = .pointer (some ⟨g, 4, none⟩)
 | 16 => v = .int .u64 (p.ser : Int)
 | 17 => ∃ b, v = .slice (some ⟨b, 0, none⟩) 8 8 /\ FreshB w b (lowB 8 p.ser)
 | 18 => ∃ b b0 b1 b2 b3, v = .slice (some ⟨b, 0, none⟩) 4 4 /\ w.heap[b]? = some (.cells (segA (pgSegs p b0 b1 b2 b3)) 47 (0, 0)) /\ SegsIn w (pgSegs p b0 b1 b2 b3)
 | 19 => w.ownsRow B 5 1 v 16 (bA (pgB p)).toList
 | 20 => w.ownsRow B 5 1 v 16 (bA (pgB p)).toList
 | _ => True
theorem stPB_0 (p : Pg) (g B : Nat) (a0 : Act) (g91 : a0.tmps.getD 1 undef = .pointer (some ⟨g, 0, none⟩)) (w0 : World) (h0 : w0.heap[g]? = some (.cells (pgA p) 100 (0, 0))) (hsz : p.run < 9223372036854775808 /\ p.size < 9223372036854775808 /\ p.ser < 18446744073709551616) (hB : B <= w0.heap.size) : Fre.StepB Tryz.prog opsPB.1 a0 w0 (VPB p g B) Fre.Kept 0 := by
 intro E w hc hf hE hV hN hS o ho
 obtain rfl := Option.some.inj ho
 clear ho
 simp only [opsPB, List.getElem_toArray, List.getElem_cons_succ, List.getElem_cons_zero]
 have b1 : E (.tmp 1) = .pointer (some ⟨g, 0, none⟩) := (hE 1 (by kernel_rfl)).trans g91
 clear g91
 refine Fre.Does.value (v := .pointer (some ⟨g, 0, none⟩)) (w' := w) ?_ ⟨rfl, Fre.Kept.refl _⟩
 go_simp
theorem stPB_1 (p : Pg) (g B : Nat) (a0 : Act)  (w0 : World) (h0 : w0.heap[g]? = some (.cells (pgA p) 100 (0, 0))) (hsz : p.run < 9223372036854775808 /\ p.size < 9223372036854775808 /\ p.ser < 18446744073709551616) (hB : B <= w0.heap.size) : Fre.StepB Tryz.prog opsPB.1 a0 w0 (VPB p g B) Fre.Kept 1 := by
 intro E w hc hf hE hV hN hS o ho
 obtain rfl := Option.some.inj ho
 clear ho
 simp only [opsPB, List.getElem_toArray, List.getElem_cons_succ, List.getElem_cons_zero]
 have d0 := hV 0 3 (by kernel_rfl) (by kernel_rfl)
 have d0 : E (.tmp 3) = .pointer (some ⟨g, 0, none⟩) := d0
 have hb := (hS.block g (lt_of_block h0)).trans h0
 have c0 := (cells_at hb 0).trans (show _ = some (.int .i64 (p.kind : Int)) from rfl)
 refine Fre.Does.value (v := .int .i64 (p.kind : Int)) (w' := w) ?_ ⟨rfl, Fre.Kept.refl _⟩
 go_simp
theorem stPB_2 (p : Pg) (g B : Nat) (a0 : Act)  (w0 : World) (h0 : w0.heap[g]? = some (.cells (pgA p) 100 (0, 0))) (hsz : p.run < 9223372036854775808 /\ p.size < 9223372036854775808 /\ p.ser < 18446744073709551616) (hB : B <= w0.heap.size) : Fre.StepB Tryz.prog opsPB.1 a0 w0 (VPB p g B) Fre.Kept 2 := by
 intro E w hc hf hE hV hN hS o ho
 obtain rfl := Option.some.inj ho
 clear ho
 simp only [opsPB, List.getElem_toArray, List.getElem_cons_succ, List.getElem_cons_zero]
 have d1 := hV 1 4 (by kernel_rfl) (by kernel_rfl)
 have d1 : E (.tmp 4) = .int .i64 (p.kind : Int) := d1
 have e1 := u8_of_nat p.kind
 refine Fre.Does.value (v := .int .u8 ((p.kind % 256 : Nat) : Int)) (w' := w) ?_ ⟨rfl, Fre.Kept.refl _⟩
 go_simp
theorem stPB_3 (p : Pg) (g B : Nat) (a0 : Act) (g91 : a0.tmps.getD 1 undef = .pointer (some ⟨g, 0, none⟩)) (w0 : World) (h0 : w0.heap[g]? = some (.cells (pgA p) 100 (0, 0))) (hsz : p.run < 9223372036854775808 /\ p.size < 9223372036854775808 /\ p.ser < 18446744073709551616) (hB : B <= w0.heap.size) : Fre.StepB Tryz.prog opsPB.1 a0 w0 (VPB p g B) Fre.Kept 3 := by
 intro E w hc hf hE hV hN hS o ho
 obtain rfl := Option.some.inj ho
 clear ho
 simp only [opsPB, List.getElem_toArray, List.getElem_cons_succ, List.getElem_cons_zero]
 have b1 : E (.tmp 1) = .pointer (some ⟨g, 0, none⟩) := (hE 1 (by kernel_rfl)).trans g91
 clear g91
 refine Fre.Does.value (v := .pointer (some ⟨g, 1, none⟩)) (w' := w) ?_ ⟨rfl, Fre.Kept.refl _⟩
 go_simp
theorem stPB_4 (p : Pg) (g B : Nat) (a0 : Act)  (w0 : World) (h0 : w0.heap[g]? = some (.cells (pgA p) 100 (0, 0))) (hsz : p.run < 9223372036854775808 /\ p.size < 9223372036854775808 /\ p.ser < 18446744073709551616) (hB : B <= w0.heap.size) : Fre.StepB Tryz.prog opsPB.1 a0 w0 (VPB p g B) Fre.Kept 4 := by
 intro E w hc hf hE hV hN hS o ho
 obtain rfl := Option.some.inj ho
 clear ho
 simp only [opsPB, List.getElem_toArray, List.getElem_cons_succ, List.getElem_cons_zero]
 have d3 := hV 3 6 (by kernel_rfl) (by kernel_rfl)
 have d3 : E (.tmp 6) = .pointer (some ⟨g, 1, none⟩) := d3
 have hb := (hS.block g (lt_of_block h0)).trans h0
 have c0 := (cells_at hb 1).trans (show _ = some (.int .i64 (p.cls : Int)) from rfl)
 refine Fre.Does.value (v := .int .i64 (p.cls : Int)) (w' := w) ?_ ⟨rfl, Fre.Kept.refl _⟩
 go_simp
theorem stPB_5 (p : Pg) (g B : Nat) (a0 : Act)  (w0 : World) (h0 : w0.heap[g]? = some (.cells (pgA p) 100 (0, 0))) (hsz : p.run < 9223372036854775808 /\ p.size < 9223372036854775808 /\ p.ser < 18446744073709551616) (hB : B <= w0.heap.size) : Fre.StepB Tryz.prog opsPB.1 a0 w0 (VPB p g B) Fre.Kept 5 := by
 intro E w hc hf hE hV hN hS o ho
 obtain rfl := Option.some.inj ho
 clear ho
 simp only [opsPB, List.getElem_toArray, List.getElem_cons_succ, List.getElem_cons_zero]
 have d4 := hV 4 7 (by kernel_rfl) (by kernel_rfl)
 have d4 : E (.tmp 7) = .int .i64 (p.cls : Int) := d4
 have e1 := u8_of_nat p.cls
 refine Fre.Does.value (v := .int .u8 ((p.cls % 256 : Nat) : Int)) (w' := w) ?_ ⟨rfl, Fre.Kept.refl _⟩
 go_simp
theorem stPB_6 (p : Pg) (g B : Nat) (a0 : Act)  (w0 : World) (h0 : w0.heap[g]? = some (.cells (pgA p) 100 (0, 0))) (hsz : p.run < 9223372036854775808 /\ p.size < 9223372036854775808 /\ p.ser < 18446744073709551616) (hB : B <= w0.heap.size) : Fre.StepB Tryz.prog opsPB.1 a0 w0 (VPB p g B) Fre.Kept 6 := by
 intro E w hc hf hE hV hN hS o ho
 obtain rfl := Option.some.inj ho
 clear ho
 simp only [opsPB, List.getElem_toArray, List.getElem_cons_succ, List.getElem_cons_zero]
 have d2 := hV 2 5 (by kernel_rfl) (by kernel_rfl)
 have d2 : E (.tmp 5) = .int .u8 ((p.kind % 256 : Nat) : Int) := d2
 have d5 := hV 5 8 (by kernel_rfl) (by kernel_rfl)
 have d5 : E (.tmp 8) = .int .u8 ((p.cls % 256 : Nat) : Int) := d5
 refine Fre.Does.value (v := .slice (some ⟨w.heap.size, 0, none⟩) 2 2) (w' := w.alloc (.cells (bA (hdB p)) 5)) ?_ ⟨⟨_, rfl, heap_new' _ _⟩, below_box _ _⟩
 unfold bA hdB
 go_simp
theorem stPB_7 (p : Pg) (g B : Nat) (a0 : Act) (g91 : a0.tmps.getD 1 undef = .pointer (some ⟨g, 0, none⟩)) (w0 : World) (h0 : w0.heap[g]? = some (.cells (pgA p) 100 (0, 0))) (hsz : p.run < 9223372036854775808 /\ p.size < 9223372036854775808 /\ p.ser < 18446744073709551616) (hB : B <= w0.heap.size) : Fre.StepB Tryz.prog opsPB.1 a0 w0 (VPB p g B) Fre.Kept 7 := by
 intro E w hc hf hE hV hN hS o ho
 obtain rfl := Option.some.inj ho
 clear ho
 simp only [opsPB, List.getElem_toArray, List.getElem_cons_succ, List.getElem_cons_zero]
 have b1 : E (.tmp 1) = .pointer (some ⟨g, 0, none⟩) := (hE 1 (by kernel_rfl)).trans g91
 clear g91
 refine Fre.Does.value (v := .pointer (some ⟨g, 2, none⟩)) (w' := w) ?_ ⟨rfl, Fre.Kept.refl _⟩
 go_simp
theorem stPB_8 (p : Pg) (g B : Nat) (a0 : Act)  (w0 : World) (h0 : w0.heap[g]? = some (.cells (pgA p) 100 (0, 0))) (hsz : p.run < 9223372036854775808 /\ p.size < 9223372036854775808 /\ p.ser < 18446744073709551616) (hB : B <= w0.heap.size) : Fre.StepB Tryz.prog opsPB.1 a0 w0 (VPB p g B) Fre.Kept 8 := by
 intro E w hc hf hE hV hN hS o ho
 obtain rfl := Option.some.inj ho
 clear ho
 simp only [opsPB, List.getElem_toArray, List.getElem_cons_succ, List.getElem_cons_zero]
 have d7 := hV 7 10 (by kernel_rfl) (by kernel_rfl)
 have d7 : E (.tmp 10) = .pointer (some ⟨g, 2, none⟩) := d7
 have hb := (hS.block g (lt_of_block h0)).trans h0
 have c0 := (cells_at hb 2).trans (show _ = some (.int .i64 (p.run : Int)) from rfl)
 refine Fre.Does.value (v := .int .i64 (p.run : Int)) (w' := w) ?_ ⟨rfl, Fre.Kept.refl _⟩
 go_simp
theorem stPB_9 (p : Pg) (g B : Nat) (a0 : Act)  (w0 : World) (h0 : w0.heap[g]? = some (.cells (pgA p) 100 (0, 0))) (hsz : p.run < 9223372036854775808 /\ p.size < 9223372036854775808 /\ p.ser < 18446744073709551616) (hB : B <= w0.heap.size) : Fre.StepB Tryz.prog opsPB.1 a0 w0 (VPB p g B) Fre.Kept 9 := by
 intro E w hc hf hE hV hN hS o ho
 obtain rfl := Option.some.inj ho
 clear ho
 simp only [opsPB, List.getElem_toArray, List.getElem_cons_succ, List.getElem_cons_zero]
 have d8 := hV 8 11 (by kernel_rfl) (by kernel_rfl)
 have d8 : E (.tmp 11) = .int .i64 (p.run : Int) := d8
 have e1 : IntKind.u64.wrap (p.run : Int) = (p.run : Int) := by rw [IntKind.wrap_u64]; omega
 refine Fre.Does.value (v := .int .u64 (p.run : Int)) (w' := w) ?_ ⟨rfl, Fre.Kept.refl _⟩
 go_simp
theorem stPB_10 (p : Pg) (g B : Nat) (a0 : Act)  (w0 : World) (h0 : w0.heap[g]? = some (.cells (pgA p) 100 (0, 0))) (hsz : p.run < 9223372036854775808 /\ p.size < 9223372036854775808 /\ p.ser < 18446744073709551616) (hB : B <= w0.heap.size) : Fre.StepB Tryz.prog opsPB.1 a0 w0 (VPB p g B) Fre.Kept 10 := by
 intro E w hc hf hE hV hN hS o ho
 obtain rfl := Option.some.inj ho
 clear ho
 simp only [opsPB, List.getElem_toArray, List.getElem_cons_succ, List.getElem_cons_zero]
 have d9 := hV 9 12 (by kernel_rfl) (by kernel_rfl)
 have d9 : E (.tmp 12) = .int .u64 (p.run : Int) := d9
 refine Fre.Does.enter (f := 90) (args := #[.int .i64 ((2 : Nat) : Int), .int .u64 (p.run : Int)]) (w' := w) ?_ (put_f 2 p.run (by omega) (by omega) (by omega) w)
 go_simp
theorem stPB_11 (p : Pg) (g B : Nat) (a0 : Act) (g91 : a0.tmps.getD 1 undef = .pointer (some ⟨g, 0, none⟩)) (w0 : World) (h0 : w0.heap[g]? = some (.cells (pgA p) 100 (0, 0))) (hsz : p.run < 9223372036854775808 /\ p.size < 9223372036854775808 /\ p.ser < 18446744073709551616) (hB : B <= w0.heap.size) : Fre.StepB Tryz.prog opsPB.1 a0 w0 (VPB p g B) Fre.Kept 11 := by
 intro E w hc hf hE hV hN hS o ho
 obtain rfl := Option.some.inj ho
 clear ho
 simp only [opsPB, List.getElem_toArray, List.getElem_cons_succ, List.getElem_cons_zero]
 have b1 : E (.tmp 1) = .pointer (some ⟨g, 0, none⟩) := (hE 1 (by kernel_rfl)).trans g91
 clear g91
 refine Fre.Does.value (v := .pointer (some ⟨g, 3, none⟩)) (w' := w) ?_ ⟨rfl, Fre.Kept.refl _⟩
 go_simp
theorem stPB_12 (p : Pg) (g B : Nat) (a0 : Act)  (w0 : World) (h0 : w0.heap[g]? = some (.cells (pgA p) 100 (0, 0))) (hsz : p.run < 9223372036854775808 /\ p.size < 9223372036854775808 /\ p.ser < 18446744073709551616) (hB : B <= w0.heap.size) : Fre.StepB Tryz.prog opsPB.1 a0 w0 (VPB p g B) Fre.Kept 12 := by
 intro E w hc hf hE hV hN hS o ho
 obtain rfl := Option.some.inj ho
 clear ho
 simp only [opsPB, List.getElem_toArray, List.getElem_cons_succ, List.getElem_cons_zero]
 have d11 := hV 11 14 (by kernel_rfl) (by kernel_rfl)
 have d11 : E (.tmp 14) = .pointer (some ⟨g, 3, none⟩) := d11
 have hb := (hS.block g (lt_of_block h0)).trans h0
 have c0 := (cells_at hb 3).trans (show _ = some (.int .i64 (p.size : Int)) from rfl)
 refine Fre.Does.value (v := .int .i64 (p.size : Int)) (w' := w) ?_ ⟨rfl, Fre.Kept.refl _⟩
 go_simp
theorem stPB_13 (p : Pg) (g B : Nat) (a0 : Act)  (w0 : World) (h0 : w0.heap[g]? = some (.cells (pgA p) 100 (0, 0))) (hsz : p.run < 9223372036854775808 /\ p.size < 9223372036854775808 /\ p.ser < 18446744073709551616) (hB : B <= w0.heap.size) : Fre.StepB Tryz.prog opsPB.1 a0 w0 (VPB p g B) Fre.Kept 13 := by
 intro E w hc hf hE hV hN hS o ho
 obtain rfl := Option.some.inj ho
 clear ho
 simp only [opsPB, List.getElem_toArray, List.getElem_cons_succ, List.getElem_cons_zero]
 have d12 := hV 12 15 (by kernel_rfl) (by kernel_rfl)
 have d12 : E (.tmp 15) = .int .i64 (p.size : Int) := d12
 have e1 : IntKind.u64.wrap (p.size : Int) = (p.size : Int) := by rw [IntKind.wrap_u64]; omega
 refine Fre.Does.value (v := .int .u64 (p.size : Int)) (w' := w) ?_ ⟨rfl, Fre.Kept.refl _⟩
 go_simp
theorem stPB_14 (p : Pg) (g B : Nat) (a0 : Act)  (w0 : World) (h0 : w0.heap[g]? = some (.cells (pgA p) 100 (0, 0))) (hsz : p.run < 9223372036854775808 /\ p.size < 9223372036854775808 /\ p.ser < 18446744073709551616) (hB : B <= w0.heap.size) : Fre.StepB Tryz.prog opsPB.1 a0 w0 (VPB p g B) Fre.Kept 14 := by
 intro E w hc hf hE hV hN hS o ho
 obtain rfl := Option.some.inj ho
 clear ho
 simp only [opsPB, List.getElem_toArray, List.getElem_cons_succ, List.getElem_cons_zero]
 have d13 := hV 13 16 (by kernel_rfl) (by kernel_rfl)
 have d13 : E (.tmp 16) = .int .u64 (p.size : Int) := d13
 refine Fre.Does.enter (f := 90) (args := #[.int .i64 ((4 : Nat) : Int), .int .u64 (p.size : Int)]) (w' := w) ?_ (put_f 4 p.size (by omega) (by omega) (by omega) w)
 go_simp
theorem stPB_15 (p : Pg) (g B : Nat) (a0 : Act) (g91 : a0.tmps.getD 1 undef = .pointer (some ⟨g, 0, none⟩)) (w0 : World) (h0 : w0.heap[g]? = some (.cells (pgA p) 100 (0, 0))) (hsz : p.run < 9223372036854775808 /\ p.size < 9223372036854775808 /\ p.ser < 18446744073709551616) (hB : B <= w0.heap.size) : Fre.StepB Tryz.prog opsPB.1 a0 w0 (VPB p g B) Fre.Kept 15 := by
 intro E w hc hf hE hV hN hS o ho
 obtain rfl := Option.some.inj ho
 clear ho
 simp only [opsPB, List.getElem_toArray, List.getElem_cons_succ, List.getElem_cons_zero]
 have b1 : E (.tmp 1) = .pointer (some ⟨g, 0, none⟩) := (hE 1 (by kernel_rfl)).trans g91
 clear g91
 refine Fre.Does.value (v := .pointer (some ⟨g, 4, none⟩)) (w' := w) ?_ ⟨rfl, Fre.Kept.refl _⟩
 go_simp
theorem stPB_16 (p : Pg) (g B : Nat) (a0 : Act)  (w0 : World) (h0 : w0.heap[g]? = some (.cells (pgA p) 100 (0, 0))) (hsz : p.run < 9223372036854775808 /\ p.size < 9223372036854775808 /\ p.ser < 18446744073709551616) (hB : B <= w0.heap.size) : Fre.StepB Tryz.prog opsPB.1 a0 w0 (VPB p g B) Fre.Kept 16 := by
 intro E w hc hf hE hV hN hS o ho
 obtain rfl := Option.some.inj ho
 clear ho
 simp only [opsPB, List.getElem_toArray, List.getElem_cons_succ, List.getElem_cons_zero]
 have d15 := hV 15 18 (by kernel_rfl) (by kernel_rfl)
 have d15 : E (.tmp 18) = .pointer (some ⟨g, 4, none⟩) := d15
 have hb := (hS.block g (lt_of_block h0)).trans h0
 have c0 := (cells_at hb 4).trans (show _ = some (.int .u64 (p.ser : Int)) from rfl)
 refine Fre.Does.value (v := .int .u64 (p.ser : Int)) (w' := w) ?_ ⟨rfl, Fre.Kept.refl _⟩
 go_simp
theorem stPB_17 (p : Pg) (g B : Nat) (a0 : Act)  (w0 : World) (h0 : w0.heap[g]? = some (.cells (pgA p) 100 (0, 0))) (hsz : p.run < 9223372036854775808 /\ p.size < 9223372036854775808 /\ p.ser < 18446744073709551616) (hB : B <= w0.heap.size) : Fre.StepB Tryz.prog opsPB.1 a0 w0 (VPB p g B) Fre.Kept 17 := by
 intro E w hc hf hE hV hN hS o ho
 obtain rfl := Option.some.inj ho
 clear ho
 simp only [opsPB, List.getElem_toArray, List.getElem_cons_succ, List.getElem_cons_zero]
 have d16 := hV 16 19 (by kernel_rfl) (by kernel_rfl)
 have d16 : E (.tmp 19) = .int .u64 (p.ser : Int) := d16
 refine Fre.Does.enter (f := 90) (args := #[.int .i64 ((8 : Nat) : Int), .int .u64 (p.ser : Int)]) (w' := w) ?_ (put_f 8 p.ser (by omega) (by omega) (by omega) w)
 go_simp
theorem stPB_18 (p : Pg) (g B : Nat) (a0 : Act)  (w0 : World) (h0 : w0.heap[g]? = some (.cells (pgA p) 100 (0, 0))) (hsz : p.run < 9223372036854775808 /\ p.size < 9223372036854775808 /\ p.ser < 18446744073709551616) (hB : B <= w0.heap.size) : Fre.StepB Tryz.prog opsPB.1 a0 w0 (VPB p g B) Fre.Kept 18 := by
 intro E w hc hf hE hV hN hS o ho
 obtain rfl := Option.some.inj ho
 clear ho
 simp only [opsPB, List.getElem_toArray, List.getElem_cons_succ, List.getElem_cons_zero]
 have d6 := hV 6 9 (by kernel_rfl) (by kernel_rfl)
 replace d6 : (fun v : Value => ∃ b, v = .slice (some ⟨b, 0, none⟩) 2 2 /\ FreshB w b (hdB p)) (E (.tmp 9)) := d6
 simp only at d6
 have d10 := hV 10 13 (by kernel_rfl) (by kernel_rfl)
 replace d10 : (fun v : Value => ∃ b, v = .slice (some ⟨b, 0, none⟩) 2 2 /\ FreshB w b (lowB 2 p.run)) (E (.tmp 13)) := d10
 simp only at d10
 have d14 := hV 14 17 (by kernel_rfl) (by kernel_rfl)
 replace d14 : (fun v : Value => ∃ b, v = .slice (some ⟨b, 0, none⟩) 4 4 /\ FreshB w b (lowB 4 p.size)) (E (.tmp 17)) := d14
 simp only at d14
 have d17 := hV 17 20 (by kernel_rfl) (by kernel_rfl)
 replace d17 : (fun v : Value => ∃ b, v = .slice (some ⟨b, 0, none⟩) 8 8 /\ FreshB w b (lowB 8 p.ser)) (E (.tmp 20)) := d17
 simp only at d17
 obtain ⟨b0, e0, f0⟩ := d6
 obtain ⟨b1, e1, f1⟩ := d10
 obtain ⟨b2, e2, f2⟩ := d14
 obtain ⟨b3, e3, f3⟩ := d17
 have hk := below_box w (.cells (segA (pgSegs p b0 b1 b2 b3)) 47)
 refine Fre.Does.value (v := .slice (some ⟨w.heap.size, 0, none⟩) 4 4) (w' := w.alloc (.cells (segA (pgSegs p b0 b1 b2 b3)) 47)) ?_ ⟨⟨_, b0, b1, b2, b3, rfl, heap_new' _ _, ?_⟩, hk⟩
 ·have hseg : segA (pgSegs p b0 b1 b2 b3) = #[.slice (some ⟨b0, 0, none⟩) 2 2, .slice (some ⟨b1, 0, none⟩) 2 2, .slice (some ⟨b2, 0, none⟩) 4 4, .slice (some ⟨b3, 0, none⟩) 8 8] := by simp [segA, pgSegs, segV, hdB, lowB_len]
  rw [hseg]
  go_simp
 ·intro s hs
  simp only [pgSegs, List.mem_cons, List.not_mem_nil, or_false] at hs
  rcases hs with rfl | rfl | rfl | rfl
  ·exact f0.kept hk
  ·exact f1.kept hk
  ·exact f2.kept hk
  ·exact f3.kept hk
theorem stPB_19 (p : Pg) (g B : Nat) (a0 : Act)  (w0 : World) (h0 : w0.heap[g]? = some (.cells (pgA p) 100 (0, 0))) (hsz : p.run < 9223372036854775808 /\ p.size < 9223372036854775808 /\ p.ser < 18446744073709551616) (hB : B <= w0.heap.size) : Fre.StepB Tryz.prog opsPB.1 a0 w0 (VPB p g B) Fre.Kept 19 := by
 intro E w hc hf hE hV hN hS o ho
 obtain rfl := Option.some.inj ho
 clear ho
 simp only [opsPB, List.getElem_toArray, List.getElem_cons_succ, List.getElem_cons_zero]
 have d18 := hV 18 21 (by kernel_rfl) (by kernel_rfl)
 replace d18 : (fun v : Value => ∃ b b0 b1 b2 b3, v = .slice (some ⟨b, 0, none⟩) 4 4 /\ w.heap[b]? = some (.cells (segA (pgSegs p b0 b1 b2 b3)) 47 (0, 0)) /\ SegsIn w (pgSegs p b0 b1 b2 b3)) (E (.tmp 21)) := d18
 simp only at d18
 obtain ⟨b, b0, b1, b2, b3, e0, f0, f1⟩ := d18
 refine Fre.Does.enter (f := 93) (args := #[.slice (some ⟨b, 0, none⟩) 4 4]) (w' := w) ?_ ((concat_c (pgSegs p b0 b1 b2 b3) b w f0 f1 (by rw [pgSegs_tot]; omega) (by rw [pgSegs_tot]; omega) (by simp [pgSegs])).mono ?_)
 ·go_simp
 ·rintro e w' ⟨u, rfl, hown, hk⟩
  rw [pgSegs_tot, pgSegs_cat] at hown
  refine ⟨u, rfl, ?_, hk⟩
  show World.ownsRow _ _ _ _ _ _ _
  have : (bA (pgB p)).toList = (pgB p).map fun (n : Nat) => Value.int .u8 (n : Int) := by simp [bA]
  rw [this]
  exact own_mono hown (Nat.le_trans hB hS.size)
theorem stPB_20 (p : Pg) (g B : Nat) (a0 : Act)  (w0 : World) (h0 : w0.heap[g]? = some (.cells (pgA p) 100 (0, 0))) (hsz : p.run < 9223372036854775808 /\ p.size < 9223372036854775808 /\ p.ser < 18446744073709551616) (hB : B <= w0.heap.size) : Fre.StepB Tryz.prog opsPB.1 a0 w0 (VPB p g B) Fre.Kept 20 := by
 intro E w hc hf hE hV hN hS o ho
 obtain rfl := Option.some.inj ho
 clear ho
 simp only [opsPB, List.getElem_toArray, List.getElem_cons_succ, List.getElem_cons_zero]
 have d19 := hV 19 22 (by kernel_rfl) (by kernel_rfl)
 replace d19 : (fun v : Value => w.ownsRow B 5 1 v 16 (bA (pgB p)).toList) (E (.tmp 22)) := d19
 simp only at d19
 refine Fre.Does.value (v := E (.tmp 22)) (w' := w) ?_ ⟨d19, Fre.Kept.refl _⟩
 go_simp
theorem kpPB (p : Pg) (g B : Nat) : ∀ j v w w', j < opsPB.1.size -> VPB p g B j v w -> Fre.Kept w w' -> VPB p g B j v w' := by
 intro j v w w' hj h hs
 rw [sizePB] at hj
 have hc : j = 0 \/ j = 1 \/ j = 2 \/ j = 3 \/ j = 4 \/ j = 5 \/ j = 6 \/ j = 7 \/ j = 8 \/ j = 9 \/ j = 10 \/ j = 11 \/ j = 12 \/ j = 13 \/ j = 14 \/ j = 15 \/ j = 16 \/ j = 17 \/ j = 18 \/ j = 19 \/ j = 20 := by omega
 rcases hc with rfl | rfl | rfl | rfl | rfl | rfl | rfl | rfl | rfl | rfl | rfl | rfl | rfl | rfl | rfl | rfl | rfl | rfl | rfl | rfl | rfl
 ·exact h
 ·exact h
 ·exact h
 ·exact h
 ·exact h
 ·exact h
 ·change ∃ b, v = .slice (some ⟨b, 0, none⟩) 2 2 /\ FreshB w b (hdB p) at h
  obtain ⟨b, h1, h2⟩ := h
  exact ⟨b, h1, h2.kept hs⟩
 ·exact h
 ·exact h
 ·exact h
 ·change ∃ b, v = .slice (some ⟨b, 0, none⟩) 2 2 /\ FreshB w b (lowB 2 p.run) at h
  obtain ⟨b, h1, h2⟩ := h
  exact ⟨b, h1, h2.kept hs⟩
 ·exact h
 ·exact h
 ·exact h
 ·change ∃ b, v = .slice (some ⟨b, 0, none⟩) 4 4 /\ FreshB w b (lowB 4 p.size) at h
  obtain ⟨b, h1, h2⟩ := h
  exact ⟨b, h1, h2.kept hs⟩
 ·exact h
 ·exact h
 ·change ∃ b, v = .slice (some ⟨b, 0, none⟩) 8 8 /\ FreshB w b (lowB 8 p.ser) at h
  obtain ⟨b, h1, h2⟩ := h
  exact ⟨b, h1, h2.kept hs⟩
 ·change ∃ b b0 b1 b2 b3, v = .slice (some ⟨b, 0, none⟩) 4 4 /\ w.heap[b]? = some (.cells (segA (pgSegs p b0 b1 b2 b3)) 47 (0, 0)) /\ SegsIn w (pgSegs p b0 b1 b2 b3) at h
  obtain ⟨b, b0, b1, b2, b3, h1, h2, h3⟩ := h
  exact ⟨b, b0, b1, b2, b3, h1, (hs.block _ (lt_of_block h2)).trans h2, fun s hm => (hs.block _ (lt_of_block (h3 s hm))).trans (h3 s hm)⟩
 ·change w.ownsRow B 5 1 v 16 (bA (pgB p)).toList at h
  exact own_up h hs
 ·change w.ownsRow B 5 1 v 16 (bA (pgB p)).toList at h
  exact own_up h hs
theorem finPB  (p : Pg) (g B : Nat) (vs : Nat -> Value) : Fre.finT opsPB.1 vs #[.agg (pgA p), .pointer (some ⟨g, 0, none⟩), .slice none 0 0, undef, undef, undef, undef, undef, undef, undef, undef, undef, undef, undef, undef, undef, undef, undef, undef, undef, undef, undef, undef] opsPB.1.size = #[.agg (pgA p), .pointer (some ⟨g, 0, none⟩), vs 20, vs 0, vs 1, vs 2, vs 3, vs 4, vs 5, vs 6, vs 7, vs 8, vs 9, vs 10, vs 11, vs 12, vs 13, vs 14, vs 15, vs 16, vs 17, vs 18, vs 19] := by kernel_rfl
theorem regionPB  (p : Pg) (g B : Nat) (w0 : World) (h0 : w0.heap[g]? = some (.cells (pgA p) 100 (0, 0))) (hsz : p.run < 9223372036854775808 /\ p.size < 9223372036854775808 /\ p.ser < 18446744073709551616) (hB : B <= w0.heap.size) {QQ : Exit -> Act -> World -> Prop} (hQ : ∀ (vs : Nat -> Value) w, (∀ j, j < 21 -> VPB p g B j (vs j) w) -> Fre.Kept w0 w -> QQ .normal ⟨#[.agg (pgA p), .pointer (some ⟨g, 0, none⟩), vs 20, vs 0, vs 1, vs 2, vs 3, vs 4, vs 5, vs 6, vs 7, vs 8, vs 9, vs 10, vs 11, vs 12, vs 13, vs 14, vs 15, vs 16, vs 17, vs 18, vs 19], []⟩ w) : (Code.region 1 opsPB.1 true).wp Tryz.prog QQ ⟨#[.agg (pgA p), .pointer (some ⟨g, 0, none⟩), .slice none 0 0, undef, undef, undef, undef, undef, undef, undef, undef, undef, undef, undef, undef, undef, undef, undef, undef, undef, undef, undef, undef], []⟩ w0 := by
 refine Fre.region_kept 23 (by kernel_rfl) fitPB rfl (VPB p g B) (kpPB p g B) (fun i hi => ?_) (fun vs w h1 h2 => ?_)
 case refine_2 =>
  have e9 := finPB  p g B vs
  have h9 := hQ vs w (fun j hj => h1 j (by rw [sizePB]; exact hj)) h2
  rw [<- e9] at h9
  exact h9
 rw [sizePB] at hi
 have hc : i = 0 \/ i = 1 \/ i = 2 \/ i = 3 \/ i = 4 \/ i = 5 \/ i = 6 \/ i = 7 \/ i = 8 \/ i = 9 \/ i = 10 \/ i = 11 \/ i = 12 \/ i = 13 \/ i = 14 \/ i = 15 \/ i = 16 \/ i = 17 \/ i = 18 \/ i = 19 \/ i = 20 := by omega
 rcases hc with rfl | rfl | rfl | rfl | rfl | rfl | rfl | rfl | rfl | rfl | rfl | rfl | rfl | rfl | rfl | rfl | rfl | rfl | rfl | rfl | rfl
 ·exact stPB_0 p g B _ rfl w0 h0 hsz hB
 ·exact stPB_1 p g B _  w0 h0 hsz hB
 ·exact stPB_2 p g B _  w0 h0 hsz hB
 ·exact stPB_3 p g B _ rfl w0 h0 hsz hB
 ·exact stPB_4 p g B _  w0 h0 hsz hB
 ·exact stPB_5 p g B _  w0 h0 hsz hB
 ·exact stPB_6 p g B _  w0 h0 hsz hB
 ·exact stPB_7 p g B _ rfl w0 h0 hsz hB
 ·exact stPB_8 p g B _  w0 h0 hsz hB
 ·exact stPB_9 p g B _  w0 h0 hsz hB
 ·exact stPB_10 p g B _  w0 h0 hsz hB
 ·exact stPB_11 p g B _ rfl w0 h0 hsz hB
 ·exact stPB_12 p g B _  w0 h0 hsz hB
 ·exact stPB_13 p g B _  w0 h0 hsz hB
 ·exact stPB_14 p g B _  w0 h0 hsz hB
 ·exact stPB_15 p g B _ rfl w0 h0 hsz hB
 ·exact stPB_16 p g B _  w0 h0 hsz hB
 ·exact stPB_17 p g B _  w0 h0 hsz hB
 ·exact stPB_18 p g B _  w0 h0 hsz hB
 ·exact stPB_19 p g B _  w0 h0 hsz hB
 ·exact stPB_20 p g B _  w0 h0 hsz hB
theorem pgbytes_c (p : Pg) (hsz : p.run < 9223372036854775808 /\ p.size < 9223372036854775808 /\ p.ser < 18446744073709551616) (w : World) :
  Calls Tryz.prog 69 #[.agg (pgA p)] w fun e w' => ∃ v, e = .returned v /\ w'.ownsRow w.heap.size 5 1 v 16 (bA (pgB p)).toList /\ Below w.heap.size w w' := by
 have HBLK := Lib.hid (heap_new' w (.cells (pgA p) 100))
 have HE := Lib.hid (below_box w (.cells (pgA p) 100))
 have HSZ := Lib.hid hsz
 clear hsz
 go_enter Tryz.func69, Tryz.ntmps69
 go_wp2
 refine regionPB p w.heap.size w.heap.size _ HBLK.out HSZ.out HE.out.size ?_
 intro vs w1 hv hk
 have HO : Hid (w1.ownsRow w.heap.size 5 1 (vs 20) 16 (bA (pgB p)).toList) := hv 20 (by omega)
 have HE1 : Hid (Below w.heap.size w w1) := HE.out.trans (hk.mono HE.out.size)
 clear hv hk
 generalize vs 20 = v20 at *
 go_wp2
 go_ret
 exact ⟨_, rfl, HO.out, HE1.out⟩
attribute [local go_sem] Oper.semAt_some
/-- the first k numbers below n -/
def upF (n k : Nat) : List (Fin n) := (List.finRange n).take k
theorem upF_succ (n k : Nat) (h : k < n) : upF n (k + 1) = upF n k ++ [⟨k, h⟩] := by
 unfold upF
 rw [List.take_succ_eq_append_getElem (by simp [h])]; simp
theorem upF_len (n k : Nat) (h : k <= n) : (upF n k).length = k := by simp [upF, h]
/-- the piece number j of the slice at offset o of block g -/
def pcS (g o : Nat) (j : Nat) : Value := .slice (some ⟨g, o + 16 * j, none⟩) 16 16
theorem sl_elem : Tryz.prog.elem 47 = 5 := by kernel_rfl
theorem add_atS (g o j : Nat) : (⟨g, o, none⟩ : Addr).add j = ⟨g, o + j, none⟩ := Addr.add_mid g o j
theorem u8sizeG (w : World) : (sizeOf 5).run Tryz.prog w = .ok 1 w := by go_simp
theorem sl_from (g o len cap i : Nat) (h : i < len) (hc : len <= cap) (w : World) :
  (Instr.sliceAt 47 (.slice (some ⟨g, o, none⟩) len cap) (some (.int .i64 (i : Int))) none none).run Tryz.prog w = .ok (.slice (some ⟨g, o + i, none⟩) (len - i) (cap - i)) w := by
 have hu : Tryz.prog.underlying 47 = some (.slice (Tryz.prog.elem 47)) := by rw [sl_elem]; exact Tryz.underlying47
 rw [run_sliceAt_slice (P := Tryz.prog) w 47 _ _ _ _ hu, run_slice_l w 47 _ len cap hu .i64 (i : Int) (by omega) (by omega), sl_elem, u8sizeG]
 simp only [Result.andThen, sliced, Int.toNat_natCast]
 rw [if_neg (by omega), Option.map_some, add_atS, Nat.mul_one]
theorem sl_piece (g o len cap i : Nat) (h : i + 16 <= cap) (w : World) :
  (Instr.sliceAt 47 (.slice (some ⟨g, o, none⟩) len cap) (some (.int .i64 (i : Int))) (some (.int .i64 ((i : Int) + 16))) (some (.int .i64 ((i : Int) + 16)))).run Tryz.prog w = .ok (.slice (some ⟨g, o + i, none⟩) 16 16) w := by
 have hu : Tryz.prog.underlying 47 = some (.slice (Tryz.prog.elem 47)) := by rw [sl_elem]; exact Tryz.underlying47
 have e : ((i : Int) + 16).toNat = i + 16 := by omega
 rw [run_sliceAt_slice (P := Tryz.prog) w 47 _ _ _ _ hu, run_slice_lhm w 47 _ len cap hu .i64 .i64 .i64 (i : Int) ((i : Int) + 16) ((i : Int) + 16) (by omega) (by omega) (by omega) (by omega), sl_elem, u8sizeG]
 simp only [Result.andThen, sliced, Int.toNat_natCast, e]
 rw [if_neg (by omega), Option.map_some, add_atS, Nat.mul_one, Nat.add_sub_cancel_left]
theorem chunkS_in (m l B1 B2 gk o cap n : Nat) (hn : 16 * n <= cap) (hcap : n < 250000) (J Jx : List (Fin n) -> World -> Prop) (Kp : World -> World -> Prop)
  (hK1 : ∀ A B, Kp A B -> B.cell? ⟨B1, 0, none⟩ = A.cell? ⟨B1, 0, none⟩ /\ B.cell? ⟨B2, 0, none⟩ = A.cell? ⟨B2, 0, none⟩ /\ A.heap.size <= B.heap.size) (W : World) (hJ : AbidesFrom W.heap.size J)
  (hY : ∀ pre x W1, J pre W1 -> pre.length < n -> YieldAt Fence.wide (m - 1) Tryz.prog l #[pcS gk o x.1] W1 fun e W' =>
   (e = .returned (.bool true) /\ J (pre ++ [x]) W' /\ Kp W1 W') \/ (e = .returned (.bool false) /\ Jx (pre ++ [x]) W'))
  (h1 : W.cell? ⟨B1, 0, none⟩ = some (.slice (some ⟨gk, o, none⟩) (16 * n) cap)) (h2 : W.cell? ⟨B2, 0, none⟩ = some (.int .i64 16)) (h0 : J [] W) :
  CallsIn Fence.wide m Tryz.prog 91 #[.func (.yield l) #[] #[], .pointer (some ⟨B1, 0, none⟩), .pointer (some ⟨B2, 0, none⟩)] W fun e W' => (∃ v, e = .returned v) /\
   ((∃ xs, xs = upF n n /\ J xs W') \/ (∃ pre, True /\ Jx pre W')) := by
 refine callsIn_of_wp Tryz.func91 rfl trivial ?_ rfl
 simp only [Tryz.ntmps91, List.size_toArray, List.length_cons, List.length_nil, Nat.reduceAdd, Nat.reduceSub, Array.replicate_succ, Array.replicate_zero, List.push_toArray, List.append_toArray, List.nil_append, List.cons_append]
 gi_wp2
 gi_loopw [4] (fun i wr => ∃ k : Nat, k <= n /\ i = .int .i64 ((16 * k : Nat) : Int) /\ J (upF n k) wr /\ wr.cell? ⟨B1, 0, none⟩ = some (.slice (some ⟨gk, o, none⟩) (16 * n) cap) /\ wr.cell? ⟨B2, 0, none⟩ = some (.int .i64 16) /\ W.heap.size <= wr.heap.size)
  (fun i _ => 16 * n - (intOf i).toNat)
 case atStart => exact ⟨0, Nat.zero_le _, rfl, h0, h1, h2, Nat.le_refl _⟩
 case round =>
  obtain ⟨k, hk, rfl, hJs, c1, c2, hsz⟩ := hrel
  obtain ⟨i, hi⟩ : ∃ i, i = 16 * k := ⟨_, rfl⟩
  rw [<- hi]
  by_cases hlt : k < n
  ·have hd : decide ((i : Int) < 16 * (n : Int)) = true := by simp; omega
   have hd2 : (i : Int) < 16 * (n : Int) := by omega
   have hs1 := fun w' => sl_from gk o (16 * n) cap i (by omega) hn w'
   have hs2 := fun w' => sl_piece gk o (16 * n) cap i (by omega) w'
   obtain ⟨d, hdd⟩ : ∃ d, d = 16 * n - i := ⟨_, rfl⟩
   rw [<- hdd] at hs1
   have hmin : min (16 : Int) (d : Int) = 16 := by omega
   have HI := Lib.hid hi
   clear hi hdd
   gi_wp2
   gi_quiet (fail)
   have hJd : J (upF n k) (wr.drewN nq) := hJ _ wr _ none hJs ⟨rfl, rfl, rfl, Nat.le_refl _, fun _ _ _ => rfl⟩ (fun r e => by cases e)
   have d1 : (wr.drewN nq).cell? ⟨B1, 0, none⟩ = some (.slice (some ⟨gk, o, none⟩) (16 * n) cap) := c1
   have d2 : (wr.drewN nq).cell? ⟨B2, 0, none⟩ = some (.int .i64 16) := c2
   have dsz : W.heap.size <= (wr.drewN nq).heap.size := hsz
   obtain ⟨W3, hW3⟩ : ∃ W3, W3 = wr.drewN nq := ⟨_, rfl⟩
   rw [<- hW3] at hJd d1 d2 dsz ⊢
   clear hW3 hJs c1 c2 hsz
   obtain ⟨fn, tmps, assign, body, hy, hR⟩ := hY _ ⟨k, hlt⟩ W3 hJd (by rw [upF_len _ _ hk]; exact hlt)
   unfold pcS at hy
   rw [<- HI.out] at hy
   gi_wp2
   refine ⟨fun h => (by cases h), hR.mono ?_⟩
   rintro e W4 (⟨rfl, hJ4, hk4⟩ | ⟨rfl, hJx4⟩)
   ·obtain ⟨k1, k2, hsz4⟩ := hK1 _ _ hk4
    replace hsz4 := Nat.le_trans dsz hsz4
    rw [d1] at k1
    rw [d2] at k2
    gi_wp2
    go_roundw
    case rel => exact ⟨k + 1, by omega, by have := HI.out; go_num, by rw [upF_succ n k hlt]; exact hJ4, k1, k2, hsz4⟩
    case measure => simp [intOf]; omega
   ·gi_wp2
    refine bodyPost_ret (results_none rfl _ _ _) rfl ?_
    exact ⟨⟨_, rfl⟩, .inr ⟨_, trivial, hJx4⟩⟩
  ·obtain rfl : k = n := by omega
   subst hi
   gi_wp2
   go_end0
   exact ⟨⟨_, rfl⟩, .inl ⟨_, rfl, hJs⟩⟩
theorem chunkS_c (p : Addr) (len cap : Nat) (w : World) : Calls Tryz.prog 67 #[.slice (some p) len cap, .int .i64 16] w fun e w' =>
  e = .returned (.func (.func 91) #[] #[.pointer (some ⟨w.heap.size, 0, none⟩), .pointer (some ⟨w.heap.size + 1, 0, none⟩)]) /\ w' = (w.alloc (.cells #[.slice (some p) len cap] 47)).alloc (.cells #[.int .i64 16] 3) := by
 go_enter Tryz.func67, Tryz.ntmps67
 go_wp2
 go_ret
 exact ⟨rfl, rfl⟩
theorem chunkS_stops (m B1 B2 gk o cap n : Nat) (hn : 16 * n <= cap) (hcap : n < 250000) (Kp : World -> World -> Prop)
  (hK1 : ∀ A B, Kp A B -> B.cell? ⟨B1, 0, none⟩ = A.cell? ⟨B1, 0, none⟩ /\ B.cell? ⟨B2, 0, none⟩ = A.cell? ⟨B2, 0, none⟩ /\ A.heap.size <= B.heap.size)
  (w : World) (hb1 : B1 < w.heap.size) (hb2 : B2 < w.heap.size) (h1 : w.cell? ⟨B1, 0, none⟩ = some (.slice (some ⟨gk, o, none⟩) (16 * n) cap)) (h2 : w.cell? ⟨B2, 0, none⟩ = some (.int .i64 16)) :
  SeqStopsK Fence.wide m Tryz.prog 91 #[.pointer (some ⟨B1, 0, none⟩), .pointer (some ⟨B2, 0, none⟩)] (fun x : Fin n => #[pcS gk o x.1]) Kp (fun xs => xs = upF n n) (fun _ => True) n w :=
 fun l J Jx W hW hJ _ hY h0 => chunkS_in m l B1 B2 gk o cap n hn hcap J Jx Kp hK1 W hJ hY ((hW.cell (p := ⟨B1, 0, none⟩) hb1).trans h1) ((hW.cell (p := ⟨B2, 0, none⟩) hb2).trans h2) h0
def rowP (p : Pg) : List Value := (pgA p).toList
def cellsP (L : List Pg) : List Value := L.flatMap rowP
theorem rowP_len (p : Pg) : (rowP p).length = 5 := rfl
theorem cellsP_len (L : List Pg) : (cellsP L).length = L.length * 5 := by
 induction L with
 | nil => rfl
 | cons x xs ih => unfold cellsP at *; rw [List.flatMap_cons, List.length_append, ih, rowP_len, List.length_cons]; omega
theorem cellsP_app (L M : List Pg) : cellsP (L ++ M) = cellsP L ++ cellsP M := by unfold cellsP; rw [List.flatMap_append]
theorem cellsP_get : ∀ (L : List Pg) (i j : Nat) (p : Pg), L[i]? = some p -> j < 5 -> (cellsP L)[i * 5 + j]? = (rowP p)[j]?
 | [], i, j, p, h, hj => by cases h
 | x :: xs, 0, j, p, h, hj => by
  have hx : x = p := by simpa using h
  subst hx
  show (rowP x ++ cellsP xs)[0 * 5 + j]? = _
  rw [Nat.zero_mul, Nat.zero_add, List.getElem?_append_left (by rw [rowP_len]; exact hj)]
 | x :: xs, i + 1, j, p, h, hj => by
  show (rowP x ++ cellsP xs)[(i + 1) * 5 + j]? = _
  rw [List.getElem?_append_right (by rw [rowP_len]; omega), rowP_len, show (i + 1) * 5 + j - 5 = i * 5 + j by omega]
  exact cellsP_get xs i j p (by simpa using h) hj
theorem cellsP_oneCell (L : List Pg) : ∀ v ∈ cellsP L, v.oneCell' = true := by
 intro v hv
 unfold cellsP at hv
 obtain ⟨p, _, hp⟩ := List.mem_flatMap.1 hv
 have := pgA_one p
 rw [<- Array.all_toList, List.all_eq_true] at this
 exact this v hp
theorem pginfo : (Tryz.prog.info? 100).map (fun i => (i.zero, i.size, i.bytes)) = some (some (.agg (pgA ⟨0, 0, 0, 0, 0⟩)), 5, 40) := by kernel_rfl
theorem pgs_of_own {w : World} {base n : Nat} {a : Option Addr} {c : Nat} {L : List Pg} (hown : w.ownsRow base 100 5 (.slice a n c) n (cellsP L)) : PgsAt w a L := by
 intro i p hp
 have hi : i < L.length := (List.getElem?_eq_some_iff.1 hp).1
 have hn : n = L.length := by have := hown.1; rw [cellsP_len] at this; omega
 rcases hown.2 with ⟨h3, h4⟩ | ⟨g, cap, cur, h3, h4, h5, h6⟩
 ·omega
 ·cases h3
  refine ⟨g, 0, rfl, lt_of_block h5, fun j u hu => ?_⟩
  have hj : j < 5 := by have := (List.getElem?_eq_some_iff.1 hu).1; simpa [pgA] using this
  rw [Nat.zero_add, hown.cellAt (i * 5 + j) (by omega), cellsP_get L i j p hp hj]
  exact hu
theorem pgs_cells {w : World} {g o m : Nat} {M : List Pg} (h : PgsAt w (some ⟨g, o, none⟩) M) : ∀ j u, (cellsP M)[j]? = some u -> w.cell? ⟨g, o + j, none⟩ = some u := by
 intro j u hu
 have hj : j < M.length * 5 := by have := (List.getElem?_eq_some_iff.1 hu).1; rwa [cellsP_len] at this
 have hq : j / 5 < M.length := by omega
 obtain ⟨g', o', e1, _, h3⟩ := h (j / 5) M[j / 5] (List.getElem?_eq_getElem hq)
 cases e1
 have e : j / 5 * 5 + j % 5 = j := by omega
 have h4 := cellsP_get M (j / 5) (j % 5) _ (List.getElem?_eq_getElem hq) (by omega)
 rw [e, hu] at h4
 have h5 := h3 (j % 5) u h4.symm
 rw [Nat.add_assoc, e] at h5
 exact h5
/-- append of pages -/
theorem run_append_pgs {w : World} (ty : TypeId) {base n : Nat} {v : Value} {L : List Pg} (hA : w.ownsRow base 100 5 v n (cellsP L)) {a : Option Addr} {m cap : Nat} {M : List Pg} (hm : M.length = m) (hM : PgsAt w a M) (hnil : a = none -> m = 0 /\ cap = 0) (hpl : ∀ p, a = some p -> p.spot = none) (h63 : n + m <= 1000000) (hbase : base <= w.heap.size) :
  ∃ v' w', (Builtin.append_ #[61, 61] ty #[v, .slice a m cap]).run Tryz.prog w = .ok v' w' /\ w'.ownsRow base 100 5 v' (n + m) (cellsP (L ++ M)) /\ w.grownBy w' v.ownBlock := by
 obtain ⟨i0, hi, h⟩ := Option.map_eq_some_iff.1 pginfo
 simp only [Prod.mk.injEq] at h
 cases a with
 | none =>
  obtain ⟨rfl, rfl⟩ := hnil rfl
  have hl : M = [] := List.length_eq_zero_iff.1 hm
  subst hl
  refine ⟨v, w, run_append_owned_none w base 61 ty 100 i0 5 Tryz.underlying61 hi v n _ hA, ?_, World.grownBy.refl w _⟩
  simpa using hA
 | some ad =>
  obtain ⟨g, o, sp⟩ := ad
  have hsp : sp = none := hpl _ rfl
  subst hsp
  obtain ⟨v', w', h4, h5, h6, _⟩ := run_append_own_at (P := Tryz.prog) w base 61 ty 100 i0 _ 5 40 Tryz.underlying61 hi h.1 h.2.1 h.2.2 rfl (by omega) v n (cellsP L) hA ⟨g, o, none⟩ m cap (cellsP M) (by rw [cellsP_len, hm])
   (fun j u hu => by rw [add_plain]; exact pgs_cells (m := m) hM j u hu) (cellsP_oneCell M) (by unfold maxLen; omega) (by omega) hbase
  exact ⟨v', w', h4, by rw [cellsP_app]; exact h5, h6⟩
theorem wpList_append_pgs {w : World} {ops : Array Oper} {rest : List Oper} {o : Oper} {A : Act} {Q : Exit -> Act -> World -> Prop} (hgd : o.guard = none) (s x : Operand)
  (ho : o.op = .call { callee := .builtin .append, args := #[s, x], argTypes := #[61, 61] }) {base n : Nat} {v : Value} {L : List Pg} (hs : A.eval s = v) (hA : w.ownsRow base 100 5 v n (cellsP L))
  {a : Option Addr} {m cap : Nat} {M : List Pg} (hx : A.eval x = .slice a m cap) (hm : M.length = m) (hM : PgsAt w a M) (hnil : a = none -> m = 0 /\ cap = 0) (hpl : ∀ p, a = some p -> p.spot = none) (h63 : n + m <= 1000000) (hbase : base <= w.heap.size)
  (h : ∀ v' w', w'.ownsRow base 100 5 v' (n + m) (cellsP (L ++ M)) -> w.grownBy w' v.ownBlock -> wpList Tryz.prog ops Q rest (A.put o.dst v') w') : wpList Tryz.prog ops Q (o :: rest) A w :=
 wpList_plain hgd fun _ hK => by
  obtain ⟨v', w', h1, h2, h3⟩ := run_append_pgs o.type hA hm hM hnil hpl h63 hbase
  unfold Oper.wp execOp
  simp only [ho, resolve, invoke, builtin, Sem.run_bind, Sem.run_pure, Result.andThen_ok, List.map_toArray, List.map_cons, List.map_nil, hs, hx, h1]
  exact hK _ _ (h v' w' h2 h3)
theorem fillP_any (p : Pg) (B : Array Value) (hB : B.size = 5) : Instr.fill (fun i => some (i * 5, 5)) B [(0, .agg (pgA p))] = some (pgA p) := by
 obtain ⟨l⟩ := B
 match l, hB with
 | [b0, b1, b2, b3, b4], _ =>
  unfold Instr.fill
  simp only [Value.cells, pgA, Nat.zero_mul]
  simp [Instr.fill]
theorem pgs_blk {w : World} {g : Nat} {p : Pg} {t : TypeId} {z : Nat × Nat} (h : w.heap[g]? = some (.cells (pgA p) t z)) : PgsAt w (some ⟨g, 0, none⟩) [p] := by
 intro i q hq
 have hi : i = 0 := by have := (List.getElem?_eq_some_iff.1 hq).1; simpa using this
 subst hi
 have hpq : p = q := by simpa using hq
 subst hpq
 refine ⟨g, 0, rfl, lt_of_block h, fun j u hu => ?_⟩
 rw [Nat.zero_mul, Nat.zero_add, cells_at h j, <- hu, Array.getElem?_toList]
/-- an operation within a round, by its law outside -/
theorem wpListIn_of_wp {l n : Nat} {P : Program} {ops : Array Oper} {rest : List Oper} {o : Oper} {A : Act} {Q : Exit -> Act -> World -> Prop} {w : World} (hgd : o.guard = none) (hd : ∀ c, o.op ≠ Op.defer c)
  (h : ∀ K : Act -> World -> Prop, (∀ a w, wpListIn (Fence.wide.inRound l) n P ops Q rest a w -> K a w) -> o.wp P A w K (OnlyG fun _ _ => False)) : wpListIn (Fence.wide.inRound l) n P ops Q (o :: rest) A w :=
 wpListIn_plain hgd fun K hK => ⟨fun _ _ => trivial, by
  show o.uponIn _ _ _ _ _ _ ((Oper.semAt (some l) A.eval o).run P w)
  rw [Oper.semAt_some l A.eval o hd]
  exact upon_roundG (Q := fun _ _ => False) (h K hK)⟩
theorem wpListIn_build_pg {l n : Nat} {w : World} {ops : Array Oper} {rest : List Oper} {o : Oper} {A : Act} {Q : Exit -> Act -> World -> Prop} (hgd : o.guard = none) (x : Operand) (ho : o.op = .buildSlice 61 1 #[(0, x)])
  {p : Pg} (hx : A.eval x = .agg (pgA p)) (h : wpListIn (Fence.wide.inRound l) n Tryz.prog ops Q rest (A.put o.dst (.slice (some ⟨w.heap.size, 0, none⟩) 1 1)) (w.alloc (.cells (pgA p) 100))) : wpListIn (Fence.wide.inRound l) n Tryz.prog ops Q (o :: rest) A w := by
 obtain ⟨i0, hi, hh⟩ := Option.map_eq_some_iff.1 pginfo
 simp only [Prod.mk.injEq] at hh
 refine wpListIn_of_wp hgd (fun c hc => by rw [ho] at hc; cases hc) fun K hK => ?_
 refine wp_buildSlice 61 100 1 _ ho (pgA p) i0 _ Tryz.underlying61 hi hh.1 (by rw [hh.2.1]; decide) (by rw [hh.2.1]; decide) ?_ (hK _ _ h)
 rw [hh.2.1]
 rw [show (Array.map (fun x : Nat × Operand => match x with | (i, x) => (i, A.eval x)) #[(0, x)]).toList = [(0, A.eval x)] by simp, hx]
 exact fillP_any p _ (by simp [pgA, Value.cells])
theorem wpListIn_append_pgs {l k : Nat} {w : World} {ops : Array Oper} {rest : List Oper} {o : Oper} {A : Act} {Q : Exit -> Act -> World -> Prop} (hgd : o.guard = none) (s x : Operand)
  (ho : o.op = .call { callee := .builtin .append, args := #[s, x], argTypes := #[61, 61] }) {base n : Nat} {v : Value} {L : List Pg} (hs : A.eval s = v) (hA : w.ownsRow base 100 5 v n (cellsP L))
  {a : Option Addr} {m cap : Nat} {M : List Pg} (hx : A.eval x = .slice a m cap) (hm : M.length = m) (hM : PgsAt w a M) (hnil : a = none -> m = 0 /\ cap = 0) (hpl : ∀ p, a = some p -> p.spot = none) (h63 : n + m <= 1000000) (hbase : base <= w.heap.size)
  (h : ∀ v' w', w'.ownsRow base 100 5 v' (n + m) (cellsP (L ++ M)) -> w.grownBy w' v.ownBlock -> wpListIn (Fence.wide.inRound l) k Tryz.prog ops Q rest (A.put o.dst v') w') : wpListIn (Fence.wide.inRound l) k Tryz.prog ops Q (o :: rest) A w := by
 refine wpListIn_of_wp hgd (fun c hc => by rw [ho] at hc; cases hc) fun K hK => ?_
 obtain ⟨v', w', h1, h2, h3⟩ := run_append_pgs o.type hA hm hM hnil hpl h63 hbase
 unfold Oper.wp execOp
 simp only [ho, resolve, invoke, builtin, Sem.run_bind, Sem.run_pure, Result.andThen_ok, List.map_toArray, List.map_cons, List.map_nil, hs, hx, h1]
 exact hK _ _ (h v' w' h2 h3)
end Go.Proofs.YtpbmjfjnmcpieaaGreat
