/- Two packs that are the same: slices.EqualFunc, pack.Same, the reference's Same (at equal ones). Printed by gen_same.py. -/
import Derived.Test.YthpglpnonecnfaaPkH
import Derived.Test.YthpglpnonecnfaaPkE2
import Derived.Test.YthpglpnonecnfaaIntEq
import Derived.OrdersHeld
import Derived.Deep.RegionHeld
import Derived.Deep.MidRow
set_option linter.unusedVariables false
set_option linter.unusedSimpArgs false
namespace Go.Proofs.Ythpglpnonecnfaa
open Go Go.RowKit Sha
theorem wpList_met {P : Program} {ops : Array Oper} {Q : Exit → Act → World → Prop} {a : Act} {w : World} {rest : List Oper} {o : Oper} (hw : Region.wanted o (yielded ops a.tmps) = true)
    (h : ∀ K : Act → World → Prop, (∀ a w, wpList P ops Q rest a w → K a w) → o.wp P a w K Q) : wpList P ops Q (o :: rest) a w :=
  wpList_step fun K hK => by simp only [hw, if_true]; exact h K hK
theorem wpList_load_mid_g {P : Program} {ops : Array Oper} {rest : List Oper} {op : Oper} {a : Act} {w : World} {Q : Exit → Act → World → Prop} (hw : Region.wanted op (yielded ops a.tmps) = true) (ty : TypeId) (x : Operand) (ho : op.op = .load ty x)
    (b o : Nat) (hx : a.eval x = .pointer (some ⟨b, o, none⟩)) (cs : List Value) (d : TypeDesc) (hc : w.rangeAt b o cs)
    (hu : P.underlying ty = some d) (hd : d.isRow = true) (hi : (P.info? ty).map (·.size) = some cs.length)
    (h : wpList P ops Q rest (a.put op.dst (.agg cs.toArray)) w) : wpList P ops Q (op :: rest) a w :=
  wpList_met hw fun _ hK => wp_load_mid ty x ho b o hx cs d hc hu hd hi (hK _ _ h)
theorem run_nes1 (l : List Nat) (hl : ∀ x ∈ l, x < 256) (E : Operand → Value) (x y : Operand) (t : TypeId) (o : Oper) (ho : o.op = .binOp .neq 9 x y t) (hx : E x = strV l) (hy : E y = strV l) (w : World) :
    (execOp E o).run Try.prog w = .ok (.value (.bool false)) w := by
  unfold execOp
  simp only [ho, hx, hy]
  unfold strV
  go_simp
theorem rows_two {w : World} {a a' : Option Addr} {L : List (List Nat)} (h : RowsAt w a L) (h' : RowsAt w a' L) {k : Nat} (hk : k < L.length) :
    ∃ l g o pa pc g' o' pa' pc', a = some ⟨g, o, none⟩ ∧ a' = some ⟨g', o', none⟩ ∧ g < w.heap.size ∧ g' < w.heap.size ∧ w.cell? ⟨g, o + k, none⟩ = some (.slice pa l.length pc) ∧ w.cell? ⟨g', o' + k, none⟩ = some (.slice pa' l.length pc') ∧ BytesAt w pa pc l ∧ BytesAt w pa' pc' l := by
  have hget := List.getElem?_eq_getElem hk
  obtain ⟨g, o, v, h1, h2, h3, pa, pc, rfl, h4, _⟩ := h k _ hget
  obtain ⟨g', o', v', h1', h2', h3', pa', pc', rfl, h4', _⟩ := h' k _ hget
  exact ⟨_, g, o, pa, pc, g', o', pa', pc', h1, h1', h2, h2', h3, h3', h4, h4'⟩
set_option maxRecDepth 100000 in
set_option maxHeartbeats 4000000 in
theorem equalf_c (a a' : Option Addr) (n cap cap' : Nat) (L : List (List Nat)) (hn : L.length = n) (hnm : n ≤ 1000000) (w : World) (hR : RowsAt w a L) (hR' : RowsAt w a' L) :
    Calls Try.prog 34 #[.slice a n cap, .slice a' n cap', .func (.func 28) #[] #[]] w fun e w' => e = .returned (.bool true) ∧ w = w' := by
  have HRR : Hid (∀ k, k < n → _) := fun k hk => rows_two hR hR' (k := k) (by rw [hn]; exact hk)
  have HNM := Lib.hid hnm
  clear hR hR' hn hnm
  go_enter Try.func34, Try.ntmps34
  go_wp2
  go_loop [17] (fun vi => ∃ k : Nat, k ≤ n ∧ vi = .int .i64 (k : Int)) (fun vi => n - (intOf vi).toNat)
  case atStart => exact ⟨0, by omega, rfl⟩
  case round =>
    obtain ⟨k, hk, rfl⟩ := hrel
    by_cases hlt : k < n
    · have hd : decide ((k : Int) < (n : Int)) = true := by simp; omega
      have dl : (k : Int) < (n : Int) := by omega
      have d0 : ¬ (k : Int) < 0 := by omega
      obtain ⟨l, g, o, pa, pc, g', o', pa', pc', rfl, rfl, _, _, hc, hc', hb, hb'⟩ := HRR.out k hlt
      obtain ⟨ln, hln⟩ : ∃ ln, ln = l.length := ⟨_, rfl⟩
      rw [← hln] at hc hc'
      have HB := Lib.hid hb
      have HB' := Lib.hid hb'
      have HLN := Lib.hid hln
      have HK := Lib.hid hlt
      have ek : IntKind.i64.wrap ((k : Int) + 1) = (k : Int) + 1 := by have := HNM.out; exact IntWalk.i64_in _ (by omega)
      clear hb hb' hln hk hlt
      go_wp2_with fail
      refine (equal2_c pa pa' pc pc' ln ln l l HLN.out.symm HLN.out.symm w HB.out HB'.out).mono ?_
      rintro e w1 ⟨rfl, rfl⟩
      have hdl : decide (l = l) = true := by simp
      rw [hdl]
      go_wp2
      go_round
      case rel => exact ⟨k + 1, by have := HK.out; omega, by go_num⟩
      case measure => simp [intOf]; have := HK.out; omega
    · have hkn : k = n := by omega
      have hd : decide ((k : Int) < (n : Int)) = false := by simp; omega
      go_wp2
      go_ret
      exact ⟨rfl, rfl⟩
theorem pack_two {w : World} {A B : Array Value} {t t' : TypeId} : Hid (((w.alloc (.cells A t)).alloc (.cells B t')).heap[w.heap.size]? = some (.cells A t (0, 0))) ∧ Hid (((w.alloc (.cells A t)).alloc (.cells B t')).heap[w.heap.size + 1]? = some (.cells B t' (0, 0))) ∧ Hid (Below w.heap.size w ((w.alloc (.cells A t)).alloc (.cells B t'))) :=
  ⟨(heap_old' _ _ _ (by simp)).trans (heap_new' _ _), (by simp : w.heap.size + 1 = (w.alloc (.cells A t)).heap.size) ▸ heap_new' _ _, ((Below.refl _ _).alloc (Nat.le_refl _) _).alloc (by simp) _⟩
set_option maxRecDepth 100000 in
set_option maxHeartbeats 4000000 in
theorem psame_c (a a' : Option Addr) (n cap cap' : Nat) (L : List (List Nat)) (R : List Int) (hn : L.length = n) (hnm : n ≤ 1000000) (hR16 : R.length = 16) (w : World) (hR : RowsAt w a L) (hR' : RowsAt w a' L) :
    Calls Try.prog 19 #[.agg (packA (.slice a n cap) R), .agg (packA (.slice a' n cap') R)] w fun e w' => e = .returned (.bool true) ∧ Below w.heap.size w w' := by
  obtain ⟨HB1, HB2, HBE⟩ := pack_two (w := w) (A := packA (.slice a n cap) R) (B := packA (.slice a' n cap') R) (t := 33) (t' := 33)
  have c0 := (cells_at HB1.out 0).trans (show _ = some (Value.slice a n cap) from rfl)
  have c1 := (cells_at HB2.out 0).trans (show _ = some (Value.slice a' n cap') from rfl)
  have HR1 := Lib.hid (pack_roots HB1.out)
  have HR2 := Lib.hid (pack_roots HB2.out)
  have H16 := Lib.hid hR16
  have HC := Lib.hid (fun w' h h' => equalf_c a a' n cap cap' L hn hnm w' h h')
  have HRW := Lib.hid hR
  have HRW' := Lib.hid hR'
  have heq : ∀ w, (binOp .eql 23 (.agg (R.map fun (n : Int) => Value.int .i64 n).toArray) (.agg (R.map fun (n : Int) => Value.int .i64 n).toArray)).run Try.prog w = .ok (.bool true) w := fun w => by rw [roots_eql R R hR16 hR16 w]; simp
  clear hn hnm hR16 hR hR' HB1 HB2
  go_enter Try.func19, Try.ntmps19
  go_wp2_with (first
    | (refine wpList_load_mid rfl 23 (.tmp 5) rfl w.heap.size 1 rfl _ _ HR1.out Try.underlying23 rfl (by rw [sixteen23, List.length_map, H16.out]) ?_)
    | (refine wpList_load_mid rfl 23 (.tmp 7) rfl (w.heap.size + 1) 1 rfl _ _ HR2.out Try.underlying23 rfl (by rw [sixteen23, List.length_map, H16.out]) ?_)
    | fail)
  generalize (w.alloc (.cells (packA (.slice a n cap) R) 33)).alloc (.cells (packA (.slice a' n cap') R) 33) = w0 at *
  refine (HC.out w0 (HRW.out.up HBE.out (Nat.le_refl _)) (HRW'.out.up HBE.out (Nat.le_refl _))).mono ?_
  rintro e w1 ⟨rfl, rfl⟩
  go_wp2
  go_ret
  exact ⟨rfl, HBE.out⟩
set_option maxRecDepth 100000 in
set_option maxHeartbeats 4000000 in
theorem rsame_c (a a' : Option Addr) (n cap cap' : Nat) (L : List (List Nat)) (R : List Int) (hn : L.length = n) (hnm : n ≤ 1000000) (hR16 : R.length = 16) (w : World) (hR : RowsAt w a L) (hR' : RowsAt w a' L) :
    Calls Try.prog 12 #[.agg (packA (.slice a n cap) R), .agg (packA (.slice a' n cap') R)] w fun e w' => e = .returned (.bool true) ∧ Below w.heap.size w w' := by
  obtain ⟨HB1, HB2, HBE⟩ := pack_two (w := w) (A := packA (.slice a n cap) R) (B := packA (.slice a' n cap') R) (t := 25) (t' := 25)
  have c0 := (cells_at HB1.out 0).trans (show _ = some (Value.slice a n cap) from rfl)
  have c1 := (cells_at HB2.out 0).trans (show _ = some (Value.slice a' n cap') from rfl)
  have HR1 := Lib.hid (pack_roots HB1.out)
  have HR2 := Lib.hid (pack_roots HB2.out)
  have H16 := Lib.hid hR16
  have HNM := Lib.hid hnm
  have HRW := Lib.hid (hR.up HBE.out (Nat.le_refl _))
  have HRW' := Lib.hid (hR'.up HBE.out (Nat.le_refl _))
  have hne : ∀ w, (binOp .neq 23 (.agg (R.map fun (n : Int) => Value.int .i64 n).toArray) (.agg (R.map fun (n : Int) => Value.int .i64 n).toArray)).run Try.prog w = .ok (.bool false) w := fun w => by rw [roots_neq R R hR16 hR16 w]; simp
  have HRR : Hid (∀ k, k < n → _) := fun k hk => rows_two HRW.out HRW'.out (k := k) (by rw [hn]; exact hk)
  clear hn hnm hR16 hR hR' HB1 HB2 HRW HRW'
  go_enter Try.func12, Try.ntmps12
  go_wp2_with (first
    | (refine wpList_load_mid_g (by rfl) 23 (.tmp 14) rfl w.heap.size 1 rfl _ _ HR1.out Try.underlying23 rfl (by rw [sixteen23, List.length_map, H16.out]) ?_)
    | (refine wpList_load_mid_g (by rfl) 23 (.tmp 16) rfl (w.heap.size + 1) 1 rfl _ _ HR2.out Try.underlying23 rfl (by rw [sixteen23, List.length_map, H16.out]) ?_)
    | fail)
  generalize (w.alloc (.cells (packA (.slice a n cap) R) 25)).alloc (.cells (packA (.slice a' n cap') R) 25) = w0 at *
  go_loopw [23] (fun vi wx => ∃ k q : Nat, k ≤ n ∧ vi = .int .i64 (k : Int) ∧ Hid (wx = w0.drewN q)) (fun vi _ => n - (intOf vi).toNat)
  case atStart => exact ⟨0, 0, by omega, rfl, rfl⟩
  case round =>
    obtain ⟨k, q, hk, rfl, hwr⟩ := hrel
    by_cases hlt : k < n
    · have hd : decide ((k : Int) < (n : Int)) = true := by simp; omega
      have dl : (k : Int) < (n : Int) := by omega
      have d0 : ¬ (k : Int) < 0 := by omega
      obtain ⟨l, g, o, pa, pc, g', o', pa', pc', rfl, rfl, _, _, hc, hc', hb, hb'⟩ := HRR.out k hlt
      obtain ⟨ln, hln⟩ : ∃ ln, ln = l.length := ⟨_, rfl⟩
      rw [← hln] at hc hc'
      have HB := Lib.hid hb
      have HB' := Lib.hid hb'
      have HLN := Lib.hid hln
      have HK := Lib.hid hlt
      have ek : IntKind.i64.wrap ((k : Int) + 1) = (k : Int) + 1 := by have := HNM.out; exact IntWalk.i64_in _ (by omega)
      clear hb hb' hln hk
      have hwr2 := hwr.out
      subst hwr2
      clear hwr
      go_wp2_with fail
      refine wp_region_held_drew (S := fun w' => w' = (w0.drewN q).drew) (by kernel_rfl) rfl ?_
      intro hS
      generalize hWD : (w0.drewN q).drew = WD at hS ⊢
      have e0 : WD.cell? ⟨w.heap.size, 0, none⟩ = some (Value.slice (some ⟨g, o, none⟩) n cap) := by rw [← hWD]; exact c0
      have e1 : WD.cell? ⟨w.heap.size + 1, 0, none⟩ = some (Value.slice (some ⟨g', o', none⟩) n cap') := by rw [← hWD]; exact c1
      have e2 : WD.cell? ⟨g, o + k, none⟩ = some (.slice pa ln pc) := by rw [← hWD]; exact hc
      have e3 : WD.cell? ⟨g', o' + k, none⟩ = some (.slice pa' ln pc') := by rw [← hWD]; exact hc'
      have B1 : Hid (BytesAt WD pa pc l) := by rw [← hWD]; exact HB.out
      have B2 : Hid (BytesAt WD pa' pc' l) := by rw [← hWD]; exact HB'.out
      change wpAnyH _ _ _ _ _ 13 #[false, false, false, false, false, false, false, false, false, false, false, false, false] _ _
      refine wpAnyH_take (i := 0) (v := ?_) rfl (by kernel_rfl) (by kernel_rfl) (by kernel_rfl) (fun _ _ _ h => h) (Or.inl ⟨by rfl, ?hy⟩) hS ?_
      case hy => intro w' hSw; subst hSw; go_simp; try with_reducible rfl
      simp only [List.getElem_toArray, List.getElem_cons_succ, List.getElem_cons_zero, Act.put, List.setIfInBounds_toArray, List.set_cons_zero, List.set_cons_succ]
      change wpAnyH _ _ _ _ _ 12 #[true, false, false, false, false, false, false, false, false, false, false, false, false] _ _
      refine wpAnyH_take (i := 1) (v := ?_) rfl (by kernel_rfl) (by kernel_rfl) (by kernel_rfl) (fun _ _ _ h => h) (Or.inl ⟨by rfl, ?hy⟩) hS ?_
      case hy => intro w' hSw; subst hSw; go_simp; try with_reducible rfl
      simp only [List.getElem_toArray, List.getElem_cons_succ, List.getElem_cons_zero, Act.put, List.setIfInBounds_toArray, List.set_cons_zero, List.set_cons_succ]
      change wpAnyH _ _ _ _ _ 11 #[true, true, false, false, false, false, false, false, false, false, false, false, false] _ _
      refine wpAnyH_take (i := 2) (v := ?_) rfl (by kernel_rfl) (by kernel_rfl) (by kernel_rfl) (fun _ _ _ h => h) (Or.inl ⟨by rfl, ?hy⟩) hS ?_
      case hy => intro w' hSw; subst hSw; go_simp; try with_reducible rfl
      simp only [List.getElem_toArray, List.getElem_cons_succ, List.getElem_cons_zero, Act.put, List.setIfInBounds_toArray, List.set_cons_zero, List.set_cons_succ]
      change wpAnyH _ _ _ _ _ 10 #[true, true, true, false, false, false, false, false, false, false, false, false, false] _ _
      refine wpAnyH_take (i := 3) (v := ?_) rfl (by kernel_rfl) (by kernel_rfl) (by kernel_rfl) (fun _ _ _ h => h) (Or.inl ⟨by rfl, ?hy⟩) hS ?_
      case hy => intro w' hSw; subst hSw; go_simp; try with_reducible rfl
      simp only [List.getElem_toArray, List.getElem_cons_succ, List.getElem_cons_zero, Act.put, List.setIfInBounds_toArray, List.set_cons_zero, List.set_cons_succ]
      change wpAnyH _ _ _ _ _ 9 #[true, true, true, true, false, false, false, false, false, false, false, false, false] _ _
      refine wpAnyH_take (i := 4) (v := ?_) rfl (by kernel_rfl) (by kernel_rfl) (by kernel_rfl) (fun _ _ _ h => h) (Or.inl ⟨by rfl, ?hy⟩) hS ?_
      case hy => intro w' hSw; subst hSw; go_simp; try with_reducible rfl
      simp only [List.getElem_toArray, List.getElem_cons_succ, List.getElem_cons_zero, Act.put, List.setIfInBounds_toArray, List.set_cons_zero, List.set_cons_succ]
      change wpAnyH _ _ _ _ _ 8 #[true, true, true, true, true, false, false, false, false, false, false, false, false] _ _
      refine wpAnyH_take (i := 5) rfl (by kernel_rfl) (by kernel_rfl) (by kernel_rfl) (fun _ _ _ h => h) (Or.inl ⟨by rfl, fun w' hSw => by subst hSw; exact run_conv_op HLN.out.symm B1.out _ (.tmp 30) _ rfl rfl⟩) hS ?_
      simp only [List.getElem_toArray, List.getElem_cons_succ, List.getElem_cons_zero, Act.put, List.setIfInBounds_toArray, List.set_cons_zero, List.set_cons_succ]
      change wpAnyH _ _ _ _ _ 7 #[true, true, true, true, true, true, false, false, false, false, false, false, false] _ _
      refine wpAnyH_take (i := 6) (v := ?_) rfl (by kernel_rfl) (by kernel_rfl) (by kernel_rfl) (fun _ _ _ h => h) (Or.inl ⟨by rfl, ?hy⟩) hS ?_
      case hy => intro w' hSw; subst hSw; go_simp; try with_reducible rfl
      simp only [List.getElem_toArray, List.getElem_cons_succ, List.getElem_cons_zero, Act.put, List.setIfInBounds_toArray, List.set_cons_zero, List.set_cons_succ]
      change wpAnyH _ _ _ _ _ 6 #[true, true, true, true, true, true, true, false, false, false, false, false, false] _ _
      refine wpAnyH_take (i := 7) (v := ?_) rfl (by kernel_rfl) (by kernel_rfl) (by kernel_rfl) (fun _ _ _ h => h) (Or.inl ⟨by rfl, ?hy⟩) hS ?_
      case hy => intro w' hSw; subst hSw; go_simp; try with_reducible rfl
      simp only [List.getElem_toArray, List.getElem_cons_succ, List.getElem_cons_zero, Act.put, List.setIfInBounds_toArray, List.set_cons_zero, List.set_cons_succ]
      change wpAnyH _ _ _ _ _ 5 #[true, true, true, true, true, true, true, true, false, false, false, false, false] _ _
      refine wpAnyH_take (i := 8) (v := ?_) rfl (by kernel_rfl) (by kernel_rfl) (by kernel_rfl) (fun _ _ _ h => h) (Or.inl ⟨by rfl, ?hy⟩) hS ?_
      case hy => intro w' hSw; subst hSw; go_simp; try with_reducible rfl
      simp only [List.getElem_toArray, List.getElem_cons_succ, List.getElem_cons_zero, Act.put, List.setIfInBounds_toArray, List.set_cons_zero, List.set_cons_succ]
      change wpAnyH _ _ _ _ _ 4 #[true, true, true, true, true, true, true, true, true, false, false, false, false] _ _
      refine wpAnyH_take (i := 9) (v := ?_) rfl (by kernel_rfl) (by kernel_rfl) (by kernel_rfl) (fun _ _ _ h => h) (Or.inl ⟨by rfl, ?hy⟩) hS ?_
      case hy => intro w' hSw; subst hSw; go_simp; try with_reducible rfl
      simp only [List.getElem_toArray, List.getElem_cons_succ, List.getElem_cons_zero, Act.put, List.setIfInBounds_toArray, List.set_cons_zero, List.set_cons_succ]
      change wpAnyH _ _ _ _ _ 3 #[true, true, true, true, true, true, true, true, true, true, false, false, false] _ _
      refine wpAnyH_take (i := 10) (v := ?_) rfl (by kernel_rfl) (by kernel_rfl) (by kernel_rfl) (fun _ _ _ h => h) (Or.inl ⟨by rfl, ?hy⟩) hS ?_
      case hy => intro w' hSw; subst hSw; go_simp; try with_reducible rfl
      simp only [List.getElem_toArray, List.getElem_cons_succ, List.getElem_cons_zero, Act.put, List.setIfInBounds_toArray, List.set_cons_zero, List.set_cons_succ]
      change wpAnyH _ _ _ _ _ 2 #[true, true, true, true, true, true, true, true, true, true, true, false, false] _ _
      refine wpAnyH_take (i := 11) rfl (by kernel_rfl) (by kernel_rfl) (by kernel_rfl) (fun _ _ _ h => h) (Or.inl ⟨by rfl, fun w' hSw => by subst hSw; exact run_conv_op HLN.out.symm B2.out _ (.tmp 36) _ rfl rfl⟩) hS ?_
      simp only [List.getElem_toArray, List.getElem_cons_succ, List.getElem_cons_zero, Act.put, List.setIfInBounds_toArray, List.set_cons_zero, List.set_cons_succ]
      change wpAnyH _ _ _ _ _ 1 #[true, true, true, true, true, true, true, true, true, true, true, true, false] _ _
      refine wpAnyH_take (i := 12) rfl (by kernel_rfl) (by kernel_rfl) (by kernel_rfl) (fun _ _ _ h => h) (Or.inl ⟨by rfl, fun w' hSw => run_nes1 l HB.out.1 _ (.tmp 31) (.tmp 37) _ _ rfl rfl rfl w'⟩) hS ?_
      simp only [List.getElem_toArray, List.getElem_cons_succ, List.getElem_cons_zero, Act.put, List.setIfInBounds_toArray, List.set_cons_zero, List.set_cons_succ]
      change wpAnyH _ _ _ _ _ 0 #[true, true, true, true, true, true, true, true, true, true, true, true, true] _ _
      refine wpAnyH_done (by kernel_rfl) ?_ _
      go_wp2
      go_roundw
      case rel => exact ⟨k + 1, q + 1, by have := HK.out; omega, by go_num, by rw [← hWD]; rfl⟩
      case measure => simp [intOf]; have := HK.out; omega
    · have hkn : k = n := by omega
      have hd : decide ((k : Int) < (n : Int)) = false := by simp; omega
      have hwr2 := hwr.out
      go_wp2
      go_ret
      exact ⟨rfl, below_drewN HBE.out q⟩
end Go.Proofs.Ythpglpnonecnfaa
