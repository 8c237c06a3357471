/- Ours: the acts as the program's own. Printed by gen_lnou.py. -/
import Derived.Test.YteennbdakjjcfaaDoorLnWd
set_option linter.unusedVariables false
set_option linter.unusedSimpArgs false
namespace Go.Proofs.YteennbdakjjcfaaDoor
open Go Go.RowKit Go.Lib
theorem wp_build_act {w : World} {o : Oper} {A : Act} {K : Act → World → Prop} {Q : Exit → Act → World → Prop} (T t : TypeId) (x : Operand) (ho : o.op = .buildSlice T 1 #[(0, x)])
    (hT : Tryd.prog.underlying T = some (.slice t)) (hti : (Tryd.prog.info? t).map (fun i => (i.zero, i.size, i.bytes)) = some (some (.agg (actA zeroAct nilV)), 7, 72)) {a : AN} {u : Value} (hx : A.eval x = .agg (actA a u))
    (h : K (A.put o.dst (.slice (some ⟨w.heap.size, 0, none⟩) 1 1)) (w.alloc (.cells (actA a u) t))) : Oper.wp Tryd.prog o A w K Q := by
  obtain ⟨i0, hi, hh⟩ := Option.map_eq_some_iff.1 hti
  simp only [Prod.mk.injEq] at hh
  refine wp_buildSlice T t 1 _ ho (actA a u) i0 _ hT hi hh.1 (by rw [hh.2.1]; decide) (by rw [hh.2.1]; decide) ?_ h
  rw [hh.2.1]
  rw [show (Array.map (fun x : Nat × Operand => match x with | (i, x) => (i, A.eval x)) #[(0, x)]).toList = [(0, A.eval x)] by simp, hx]
  exact fill_act a u
theorem wp_append_act {w : World} {o : Oper} {A : Act} {K : Act → World → Prop} {Q : Exit → Act → World → Prop} (T t : TypeId) (s x : Operand)
    (ho : o.op = .call { callee := .builtin .append, args := #[s, x], argTypes := #[T, T] }) (hT : Tryd.prog.underlying T = some (.slice t)) (hti : (Tryd.prog.info? t).map (fun i => (i.zero, i.size, i.bytes)) = some (some (.agg (actA zeroAct nilV)), 7, 72)) {base : Nat} {v : Value} {L : List AN} (hs : A.eval s = v) (hA : ActsAt w base t v L)
    {g : Nat} {a : AN} {u : Value} {tt : TypeId} {z : Nat × Nat} (hx : A.eval x = .slice (some ⟨g, 0, none⟩) 1 1) (hg : w.heap[g]? = some (.cells (actA a u) tt z)) (hB : Byt w v.ownBlock a u) (h63 : L.length + 1 ≤ 1000000) (hbase : base ≤ w.heap.size)
    (h : ∀ v' w', ActsAt w' base t v' (L ++ [a]) → w.grownBy w' v.ownBlock → K (A.put o.dst v') w') : Oper.wp Tryd.prog o A w K Q := by
  obtain ⟨v', w', h1, h2, h3, h4⟩ := run_append_act T t o.type hT hti hA hg hB h63 hbase
  unfold Oper.wp execOp
  simp only [ho, resolve, invoke, builtin, Sem.run_bind, Sem.run_pure, Result.andThen_ok, List.map_toArray, List.map_cons, List.map_nil, hs, hx, h1]
  exact h v' w' h2 h3
set_option maxRecDepth 100000 in
set_option maxHeartbeats 8000000 in
theorem lours_c (L : List AN) (hL : L.length ≤ 900000) (hLB : ∀ a ∈ L, a.b.length ≤ 900000) (p1 : Nat) (v1 : Value) (w : World) (h1 : ActsAt w p1 27 v1 L) :
    Calls Tryd.prog 15 #[v1] w fun e w' => ∃ v, e = .returned v ∧ ActsAt w' w.heap.size 44 v L ∧ Below w.heap.size w w' := by
  obtain ⟨s1, d1, e1⟩ := h1.len
  subst e1
  obtain ⟨n, hn⟩ : ∃ n, n = L.length := ⟨_, rfl⟩
  have HGET : Hid (∀ i x, L[i]? = some x → x.b.length ≤ 900000 ∧ ∃ g1 u1, s1 = some ⟨g1, 0, none⟩ ∧ g1 < w.heap.size ∧ w.rangeAt g1 (i * 7) (rowA (x, u1)) ∧ Byt w none x u1) := fun i x hx => by
    have hmx := hLB x (List.mem_of_getElem? hx)
    obtain ⟨hi', rfl⟩ := List.getElem?_eq_some_iff.1 hx
    obtain ⟨g1, c1, u1, q1, q2, q3, q4, q5⟩ := h1.get i hi'
    injection q1 with q1 _ _
    obtain ⟨x1, x2, x3, x4, x5, x6⟩ := q5
    exact ⟨hmx, g1, u1, q1, q2, q4, ⟨x1, x2, x3, x4, x5, fun _ _ _ _ _ h => by cases h⟩⟩
  have HNL : Hid (n ≤ 900000) := by show _ ≤ _; rw [hn]; exact hL
  have HNE := Lib.hid hn
  rw [← hn]
  clear h1 hL hLB hn
  go_enter Tryd.func15, Tryd.ntmps15
  go_wp2
  go_loopw [3, 8] (fun vo vi wr => ∃ i : Nat, i ≤ n ∧ vi = .int .i64 (i : Int) ∧ Hid (ActsAt wr w.heap.size 44 vo (L.take i)) ∧ Hid (Below w.heap.size w wr)) (fun _ vi _ => n - (intOf vi).toNat)
  case atStart => exact ⟨0, Nat.zero_le _, rfl, by rw [List.take_zero]; exact actsAt_nil _ _ _, Below.refl _ _⟩
  case round =>
    obtain ⟨i, hi, rfl, hacts, hbel⟩ := hrel
    obtain ⟨oa, oc, ho⟩ := hacts.out.len
    subst ho
    by_cases hlt : i < n
    · have hd : decide ((i : Int) < (n : Int)) = true := by simp; omega
      have dl : (i : Int) < (n : Int) := by omega
      have dk0 : ¬ (i : Int) < 0 := by omega
      have hiL : i < L.length := by rw [← HNE.out]; exact hlt
      obtain ⟨a, hx⟩ : ∃ x, L[i]? = some x := ⟨_, List.getElem?_eq_getElem hiL⟩
      obtain ⟨hbl, g1, u1, hs1, hg1, hr1, hb1⟩ := HGET.out i a hx
      have HTK : Hid (L.take (i + 1) = L.take i ++ [a]) := by show _ = _; obtain ⟨_, h9⟩ := List.getElem?_eq_some_iff.1 hx; rw [List.take_succ_eq_append_getElem hiL, h9]
      obtain ⟨m, hm⟩ : ∃ m, m = (L.take i).length := ⟨_, rfl⟩
      have HMI : Hid (m ≤ i ∧ (L.take i).length = m) := ⟨by rw [hm, List.length_take]; omega, hm.symm⟩
      rw [← hm]
      obtain ⟨va, vc, hu1, hy1, hnil, _⟩ := hb1
      subst hu1
      obtain ⟨un, hun⟩ : ∃ m, m = a.b.length := ⟨_, rfl⟩
      rw [← hun] at hr1 hbl
      subst hs1
      have HR1 : Hid (wr.rangeAt g1 (i * 7) (rowA (a, .slice va un vc))) := range_up hr1 hbel.out hg1
      have HY1 : Hid (BytesAt wr va vc a.b) := hy1.up hbel.out (Nat.le_refl _)
      have HNI := Lib.hid hnil
      have ek : IntKind.i64.wrap ((i : Int) + 1) = (i : Int) + 1 := by have := HNL.out; exact IntWalk.i64_in _ (by omega)
      have HI := Lib.hid hlt
      have HUN : Hid (a.b.length = un) := hun.symm
      have HBL := Lib.hid hbl
      clear hr1 hy1 hnil hun hx hg1 hi hlt hiL hm hbl
      go_upto_region 5 with (first
        | (refine wpList_load_mid rfl 27 (.tmp 10) rfl g1 (i * 7) rfl (rowA (a, .slice va un vc)) _ HR1.out Tryd.underlying27 rfl (by rw [act27]; rfl) ?_)
        | (refine wpList_store_row rfl 27 (.tmp 5) (.tmp 11) rfl wr.heap.size (actA a (.slice va un vc)) rfl rfl 27 _ (heap_new' _ _) (by rw [act27]; rfl) (by rfl) (actA_one _ _ _ _) ?_)
        | fail)
      have HC5 : Hid (((wr.alloc (.cells #[.int .i64 0, .bool false, .int .i64 0, .int .i64 0, .int .i64 0, .int .i64 0, .slice none 0 0] 27)).setRow wr.heap.size (actA a (.slice va un vc))).heap[wr.heap.size]? = some (.cells (actA a (.slice va un vc)) 27 (0, 0))) := setRow_heap _ _ _ _ _ _ (heap_new' _ _)
      have HB5 : Hid (Below wr.heap.size wr ((wr.alloc (.cells #[.int .i64 0, .bool false, .int .i64 0, .int .i64 0, .int .i64 0, .int .i64 0, .slice none 0 0] 27)).setRow wr.heap.size (actA a (.slice va un vc)))) := below_setRow ((Below.refl _ _).alloc (Nat.le_refl _) _) (Nat.le_refl _) _
      generalize (wr.alloc (.cells #[.int .i64 0, .bool false, .int .i64 0, .int .i64 0, .int .i64 0, .int .i64 0, .slice none 0 0] 27)).setRow wr.heap.size (actA a (.slice va un vc)) = w5 at *
      have HAD : Hid (ActsAt w5.drew w.heap.size 44 (.slice oa (L.take i).length oc) (L.take i)) := hacts.out.up HB5.out.drew
      have HBD : Hid (Below w.heap.size w w5.drew) := (hbel.out.trans (HB5.out.mono hbel.out.size)).drew
      have HYD : Hid (BytesAt w5.drew va vc a.b) := HY1.out.up HB5.out.drew (Nat.le_refl _)
      rw [HMI.out.2] at HAD hacts
      have HOL : Hid (∀ k, (Value.slice oa m oc).ownBlock = some k → k < wr.heap.size) := fun k hk => by obtain ⟨xs, _, h6, _⟩ := hacts.out; exact (h6.lt k hk).2
      have HAB : Hid (wr.heap.size < w5.drew.heap.size) := lt_of_block HC5.out
      generalize wr.heap.size = ab at *
      clear hacts hbel HB5 HR1 HY1
      refine wp_region_held_drew (S := fun w' => w'.heap[ab]? = some (.cells (actA a (.slice va un vc)) 27 (0, 0))) (by kernel_rfl) HC5.out ?_
      intro hS
      clear HC5
      generalize w5.drew = WD at *
      change wpAnyH _ _ _ _ _ 21 #[false, false, false, false, false, false, false, false, false, false, false, false, false, false, false, false, false, false, false, false, false] _ _
      refine wpAnyH_take (i := 0) (v := ?_) rfl (by kernel_rfl) (by kernel_rfl) (by kernel_rfl) (fun _ _ _ h => h) (Or.inl ⟨by rfl, ?hy⟩) hS ?_
      case hy => intro w' hSw; go_simp; try with_reducible rfl
      simp only [List.getElem_toArray, List.getElem_cons_succ, List.getElem_cons_zero, Act.put, List.setIfInBounds_toArray, List.set_cons_zero, List.set_cons_succ]
      change wpAnyH _ _ _ _ _ 20 #[true, false, false, false, false, false, false, false, false, false, false, false, false, false, false, false, false, false, false, false, false] _ _
      refine wpAnyH_take (i := 1) (v := ?_) rfl (by kernel_rfl) (by kernel_rfl) (by kernel_rfl) (fun _ _ _ h => h) (Or.inl ⟨by rfl, ?hy⟩) hS ?_
      case hy => intro w' hSw; go_simp; try with_reducible rfl
      simp only [List.getElem_toArray, List.getElem_cons_succ, List.getElem_cons_zero, Act.put, List.setIfInBounds_toArray, List.set_cons_zero, List.set_cons_succ]
      change wpAnyH _ _ _ _ _ 19 #[true, true, false, false, false, false, false, false, false, false, false, false, false, false, false, false, false, false, false, false, false] _ _
      refine wpAnyH_take (i := 2) (v := ?_) rfl (by kernel_rfl) (by kernel_rfl) (by kernel_rfl) (fun _ _ _ h => h) (Or.inl ⟨by rfl, ?hy⟩) hS ?_
      case hy => intro w' hSw; have hc := (cells_at hSw 0).trans (show _ = some (Value.int .i64 a.kind) from rfl); go_simp; try with_reducible rfl
      simp only [List.getElem_toArray, List.getElem_cons_succ, List.getElem_cons_zero, Act.put, List.setIfInBounds_toArray, List.set_cons_zero, List.set_cons_succ]
      change wpAnyH _ _ _ _ _ 18 #[true, true, true, false, false, false, false, false, false, false, false, false, false, false, false, false, false, false, false, false, false] _ _
      refine wpAnyH_take (i := 3) (v := ?_) rfl (by kernel_rfl) (by kernel_rfl) (by kernel_rfl) (fun _ _ _ h => h) (Or.inl ⟨by rfl, ?hy⟩) hS ?_
      case hy => intro w' hSw; go_simp; try with_reducible rfl
      simp only [List.getElem_toArray, List.getElem_cons_succ, List.getElem_cons_zero, Act.put, List.setIfInBounds_toArray, List.set_cons_zero, List.set_cons_succ]
      change wpAnyH _ _ _ _ _ 17 #[true, true, true, true, false, false, false, false, false, false, false, false, false, false, false, false, false, false, false, false, false] _ _
      refine wpAnyH_take (i := 4) (v := ?_) rfl (by kernel_rfl) (by kernel_rfl) (by kernel_rfl) (fun _ _ _ h => h) (Or.inl ⟨by rfl, ?hy⟩) hS ?_
      case hy => intro w' hSw; have hc := (cells_at hSw 1).trans (show _ = some (Value.bool a.yes) from rfl); go_simp; try with_reducible rfl
      simp only [List.getElem_toArray, List.getElem_cons_succ, List.getElem_cons_zero, Act.put, List.setIfInBounds_toArray, List.set_cons_zero, List.set_cons_succ]
      change wpAnyH _ _ _ _ _ 16 #[true, true, true, true, true, false, false, false, false, false, false, false, false, false, false, false, false, false, false, false, false] _ _
      refine wpAnyH_take (i := 5) (v := ?_) rfl (by kernel_rfl) (by kernel_rfl) (by kernel_rfl) (fun _ _ _ h => h) (Or.inl ⟨by rfl, ?hy⟩) hS ?_
      case hy => intro w' hSw; go_simp; try with_reducible rfl
      simp only [List.getElem_toArray, List.getElem_cons_succ, List.getElem_cons_zero, Act.put, List.setIfInBounds_toArray, List.set_cons_zero, List.set_cons_succ]
      change wpAnyH _ _ _ _ _ 15 #[true, true, true, true, true, true, false, false, false, false, false, false, false, false, false, false, false, false, false, false, false] _ _
      refine wpAnyH_take (i := 6) (v := ?_) rfl (by kernel_rfl) (by kernel_rfl) (by kernel_rfl) (fun _ _ _ h => h) (Or.inl ⟨by rfl, ?hy⟩) hS ?_
      case hy => intro w' hSw; have hc := (cells_at hSw 2).trans (show _ = some (Value.int .i64 a.which) from rfl); go_simp; try with_reducible rfl
      simp only [List.getElem_toArray, List.getElem_cons_succ, List.getElem_cons_zero, Act.put, List.setIfInBounds_toArray, List.set_cons_zero, List.set_cons_succ]
      change wpAnyH _ _ _ _ _ 14 #[true, true, true, true, true, true, true, false, false, false, false, false, false, false, false, false, false, false, false, false, false] _ _
      refine wpAnyH_take (i := 7) (v := ?_) rfl (by kernel_rfl) (by kernel_rfl) (by kernel_rfl) (fun _ _ _ h => h) (Or.inl ⟨by rfl, ?hy⟩) hS ?_
      case hy => intro w' hSw; go_simp; try with_reducible rfl
      simp only [List.getElem_toArray, List.getElem_cons_succ, List.getElem_cons_zero, Act.put, List.setIfInBounds_toArray, List.set_cons_zero, List.set_cons_succ]
      change wpAnyH _ _ _ _ _ 13 #[true, true, true, true, true, true, true, true, false, false, false, false, false, false, false, false, false, false, false, false, false] _ _
      refine wpAnyH_take (i := 8) (v := ?_) rfl (by kernel_rfl) (by kernel_rfl) (by kernel_rfl) (fun _ _ _ h => h) (Or.inl ⟨by rfl, ?hy⟩) hS ?_
      case hy => intro w' hSw; have hc := (cells_at hSw 3).trans (show _ = some (Value.int .i64 a.k) from rfl); go_simp; try with_reducible rfl
      simp only [List.getElem_toArray, List.getElem_cons_succ, List.getElem_cons_zero, Act.put, List.setIfInBounds_toArray, List.set_cons_zero, List.set_cons_succ]
      change wpAnyH _ _ _ _ _ 12 #[true, true, true, true, true, true, true, true, true, false, false, false, false, false, false, false, false, false, false, false, false] _ _
      refine wpAnyH_take (i := 9) (v := ?_) rfl (by kernel_rfl) (by kernel_rfl) (by kernel_rfl) (fun _ _ _ h => h) (Or.inl ⟨by rfl, ?hy⟩) hS ?_
      case hy => intro w' hSw; go_simp; try with_reducible rfl
      simp only [List.getElem_toArray, List.getElem_cons_succ, List.getElem_cons_zero, Act.put, List.setIfInBounds_toArray, List.set_cons_zero, List.set_cons_succ]
      change wpAnyH _ _ _ _ _ 11 #[true, true, true, true, true, true, true, true, true, true, false, false, false, false, false, false, false, false, false, false, false] _ _
      refine wpAnyH_take (i := 10) (v := ?_) rfl (by kernel_rfl) (by kernel_rfl) (by kernel_rfl) (fun _ _ _ h => h) (Or.inl ⟨by rfl, ?hy⟩) hS ?_
      case hy => intro w' hSw; have hc := (cells_at hSw 4).trans (show _ = some (Value.int .i64 a.n) from rfl); go_simp; try with_reducible rfl
      simp only [List.getElem_toArray, List.getElem_cons_succ, List.getElem_cons_zero, Act.put, List.setIfInBounds_toArray, List.set_cons_zero, List.set_cons_succ]
      change wpAnyH _ _ _ _ _ 10 #[true, true, true, true, true, true, true, true, true, true, true, false, false, false, false, false, false, false, false, false, false] _ _
      refine wpAnyH_take (i := 11) (v := ?_) rfl (by kernel_rfl) (by kernel_rfl) (by kernel_rfl) (fun _ _ _ h => h) (Or.inl ⟨by rfl, ?hy⟩) hS ?_
      case hy => intro w' hSw; go_simp; try with_reducible rfl
      simp only [List.getElem_toArray, List.getElem_cons_succ, List.getElem_cons_zero, Act.put, List.setIfInBounds_toArray, List.set_cons_zero, List.set_cons_succ]
      change wpAnyH _ _ _ _ _ 9 #[true, true, true, true, true, true, true, true, true, true, true, true, false, false, false, false, false, false, false, false, false] _ _
      refine wpAnyH_take (i := 12) (v := ?_) rfl (by kernel_rfl) (by kernel_rfl) (by kernel_rfl) (fun _ _ _ h => h) (Or.inl ⟨by rfl, ?hy⟩) hS ?_
      case hy => intro w' hSw; have hc := (cells_at hSw 5).trans (show _ = some (Value.int .i64 a.at_) from rfl); go_simp; try with_reducible rfl
      simp only [List.getElem_toArray, List.getElem_cons_succ, List.getElem_cons_zero, Act.put, List.setIfInBounds_toArray, List.set_cons_zero, List.set_cons_succ]
      change wpAnyH _ _ _ _ _ 8 #[true, true, true, true, true, true, true, true, true, true, true, true, true, false, false, false, false, false, false, false, false] _ _
      refine wpAnyH_take (i := 14) (v := ?_) rfl (by kernel_rfl) (by kernel_rfl) (by kernel_rfl) (fun _ _ _ h => h) (Or.inl ⟨by rfl, ?hy⟩) hS ?_
      case hy => intro w' hSw; go_simp; try with_reducible rfl
      simp only [List.getElem_toArray, List.getElem_cons_succ, List.getElem_cons_zero, Act.put, List.setIfInBounds_toArray, List.set_cons_zero, List.set_cons_succ]
      change wpAnyH _ _ _ _ _ 7 #[true, true, true, true, true, true, true, true, true, true, true, true, true, false, true, false, false, false, false, false, false] _ _
      refine wpAnyH_take (i := 15) (v := ?_) rfl (by kernel_rfl) (by kernel_rfl) (by kernel_rfl) (fun _ _ _ h => h) (Or.inl ⟨by rfl, ?hy⟩) hS ?_
      case hy => intro w' hSw; have hc := (cells_at hSw 6).trans (show _ = some (Value.slice va un vc) from rfl); go_simp; try with_reducible rfl
      simp only [List.getElem_toArray, List.getElem_cons_succ, List.getElem_cons_zero, Act.put, List.setIfInBounds_toArray, List.set_cons_zero, List.set_cons_succ]
      change wpAnyH _ _ _ _ _ 6 #[true, true, true, true, true, true, true, true, true, true, true, true, true, false, true, true, false, false, false, false, false] _ _
      refine wpAnyH_ready (rs := [13]) (by kernel_rfl) (by simp) ?_
      refine AllReadyH.cons rfl (fun K hK => ?_) AllReadyH.nil
      rw [if_pos (by rfl)]
      go_simp
      have hS1 : (WD.alloc (.cells #[] 5)).heap[ab]? = some (.cells (actA a (.slice va un vc)) 27 (0, 0)) := (heap_old' _ _ _ HAB.out).trans hS
      refine hK.out _ _ hS1 (fun _ => ?_)
      clear hK K
      have HBE : Hid (Below WD.heap.size WD (WD.alloc (.cells #[] 5))) := (Below.refl _ _).alloc (Nat.le_refl _) _
      have HYE : Hid (BytesAt (WD.alloc (.cells #[] 5)) va vc a.b) := HYD.out.up ((Below.refl _ _).alloc (Nat.le_refl _) _) (Nat.le_refl _)
      have HOE : Hid ((WD.alloc (Obj.cells #[] 5)).ownsRow WD.heap.size 5 1 (.slice (some ⟨WD.heap.size, 0, none⟩) 0 0) 0 []) := own_none0 (Nat.le_refl _)
      have HSE : Hid (WD.heap.size ≤ (WD.alloc (Obj.cells #[] 5)).heap.size) := by show _ ≤ _; have := lt_of_block (heap_new' WD (Obj.cells #[] 5)); omega
      generalize WD.alloc (.cells #[] 5) = WE at *
      clear hS HYD
      simp only [List.getElem_toArray, List.getElem_cons_succ, List.getElem_cons_zero, Act.put, List.setIfInBounds_toArray, List.set_cons_zero, List.set_cons_succ]
      change wpAnyH _ _ _ _ _ 5 #[true, true, true, true, true, true, true, true, true, true, true, true, true, true, true, true, false, false, false, false, false] _ _
      refine wpAnyH_ready (rs := [16]) (by kernel_rfl) (by simp) ?_
      refine AllReadyH.cons rfl (fun K hK => ?_) AllReadyH.nil
      rw [if_pos (by rfl)]
      refine wp_append_bytes (v := .slice (some ⟨WD.heap.size, 0, none⟩) 0 0) (base := WD.heap.size) (n := 0) (m := un) (xs := []) (.tmp 25) (.tmp 27) rfl rfl HOE.out rfl HUN.out HYE.out HNI.out (by have := HBL.out; omega) HSE.out ?_
      intro v4 w4 hown4 hgr4
      rw [Nat.zero_add, List.nil_append] at hown4
      obtain ⟨ca, cc, rfl, hB4, hl4, _, _, hn4, hg4⟩ := own_bytes HYE.out.1 hown4
      have hB44 : Below WD.heap.size WE w4 := (Below.refl _ _).grown hgr4 HSE.out (fun k hk => by cases hk; exact Nat.le_refl _)
      have hS2 : w4.heap[ab]? = some (.cells (actA a (.slice va un vc)) 27 (0, 0)) := (hB44.block _ HAB.out).trans hS1
      refine hK.out _ _ hS2 (fun _ => ?_)
      clear hK K
      have hBW : Below WD.heap.size WD w4 := HBE.out.trans hB44
      have HA4 : Hid (ActsAt w4 w.heap.size 44 (.slice oa m oc) (L.take i)) := HAD.out.up hBW
      have HB4 : Hid (Below w.heap.size w w4) := HBD.out.trans (hBW.mono HBD.out.size)
      have HBY4 : Hid (Byt w4 (Value.slice oa m oc).ownBlock a (.slice ca un cc)) := ⟨ca, cc, by rw [HUN.out], hB4, hn4, fun _ g o z hg e => by have := (hg4 g o z hg).1; have := HOL.out g e; have := HAB.out; omega⟩
      have HAB4 : Hid (ab < w4.heap.size) := lt_of_block hS2
      clear hS1 hB4 hl4 hn4 hg4 hgr4 hown4 hB44 hBW HAD HBD HBE HYE HOE HSE HAB
      simp only [List.getElem_toArray, List.getElem_cons_succ, List.getElem_cons_zero, Act.put, List.setIfInBounds_toArray, List.set_cons_zero, List.set_cons_succ]
      change wpAnyH _ _ _ _ _ 4 #[true, true, true, true, true, true, true, true, true, true, true, true, true, true, true, true, true, false, false, false, false] _ _
      refine wpAnyH_take (i := 17) (v := ?_) rfl (by kernel_rfl) (by kernel_rfl) (by kernel_rfl) (fun _ _ _ h => h) (Or.inl ⟨by rfl, ?hy⟩) hS2 ?_
      case hy => intro w' hSw; go_simp; try with_reducible rfl
      simp only [List.getElem_toArray, List.getElem_cons_succ, List.getElem_cons_zero, Act.put, List.setIfInBounds_toArray, List.set_cons_zero, List.set_cons_succ]
      change wpAnyH _ _ _ _ _ 3 #[true, true, true, true, true, true, true, true, true, true, true, true, true, true, true, true, true, true, false, false, false] _ _
      refine wpAnyH_ready (rs := [18]) (by kernel_rfl) (by simp) ?_
      refine AllReadyH.cons rfl (fun K hK => ?_) AllReadyH.nil
      rw [if_pos (by rfl)]
      refine wp_build_act 30 44 (.tmp 29) rfl Tryd.underlying30 sinfo (a := a) (u := .slice ca un cc) rfl ?_
      have hS3 : (w4.alloc (.cells (actA a (.slice ca un cc)) 44)).heap[ab]? = some (.cells (actA a (.slice va un vc)) 27 (0, 0)) := (heap_old' _ _ _ HAB4.out).trans hS2
      refine hK.out _ _ hS3 (fun _ => ?_)
      clear hK K
      have HA6 : Hid (ActsAt (w4.alloc (.cells (actA a (.slice ca un cc)) 44)) w.heap.size 44 (.slice oa m oc) (L.take i)) := HA4.out.up ((Below.refl _ _).alloc (Nat.le_refl _) _)
      have HB6 : Hid (Below w.heap.size w (w4.alloc (.cells (actA a (.slice ca un cc)) 44))) := HB4.out.alloc HB4.out.size _
      have HBX6 : Hid (Byt (w4.alloc (.cells (actA a (.slice ca un cc)) 44)) (Value.slice oa m oc).ownBlock a (.slice ca un cc)) := HBY4.out.up ((Below.refl _ _).alloc (Nat.le_refl _) _) (Nat.le_refl _)
      have HC6 : Hid ((w4.alloc (.cells (actA a (.slice ca un cc)) 44)).heap[w4.heap.size]? = some (.cells (actA a (.slice ca un cc)) 44 (0, 0))) := heap_new' _ _
      simp only [List.getElem_toArray, List.getElem_cons_succ, List.getElem_cons_zero, Act.put, List.setIfInBounds_toArray, List.set_cons_zero, List.set_cons_succ]
      change wpAnyH _ _ _ _ _ 2 #[true, true, true, true, true, true, true, true, true, true, true, true, true, true, true, true, true, true, true, false, false] _ _
      refine wpAnyH_ready (rs := [19]) (by kernel_rfl) (by simp) ?_
      refine AllReadyH.cons rfl (fun K hK => ?_) AllReadyH.nil
      rw [if_pos (by rfl)]
      refine wp_append_act 30 44 (.tmp 12) (.tmp 30) rfl Tryd.underlying30 sinfo (v := .slice oa m oc) (L := L.take i) (base := w.heap.size) (a := a) (u := .slice ca un cc) rfl HA6.out rfl HC6.out HBX6.out (by have := HMI.out; have := HI.out; have := HNL.out; omega) HB6.out.size ?_
      intro v6 w6 hacts6 hgr6
      have hS4 : w6.heap[ab]? = some (.cells (actA a (.slice va un vc)) 27 (0, 0)) := (hgr6.block ab (lt_of_block hS3) (fun e => by have := HOL.out ab e.symm; omega)).trans hS3
      refine hK.out _ _ hS4 (fun _ => ?_)
      clear hK K
      have HA7 := Lib.hid hacts6
      have HBF7 : Hid (Below w.heap.size w w6) := HB6.out.grown hgr6 HB6.out.size (fun k hk => HA6.out.own k hk)
      clear hacts6 hgr6 hS3 hS2 HA6 HB6 HBX6 HC6 HA4 HB4 HBY4
      simp only [List.getElem_toArray, List.getElem_cons_succ, List.getElem_cons_zero, Act.put, List.setIfInBounds_toArray, List.set_cons_zero, List.set_cons_succ]
      change wpAnyH _ _ _ _ _ 1 #[true, true, true, true, true, true, true, true, true, true, true, true, true, true, true, true, true, true, true, true, false] _ _
      refine wpAnyH_take (i := 20) (v := ?_) rfl (by kernel_rfl) (by kernel_rfl) (by kernel_rfl) (fun _ _ _ h => h) (Or.inl ⟨by rfl, ?hy⟩) hS4 ?_
      case hy => intro w' hSw; go_simp; try with_reducible rfl
      simp only [List.getElem_toArray, List.getElem_cons_succ, List.getElem_cons_zero, Act.put, List.setIfInBounds_toArray, List.set_cons_zero, List.set_cons_succ]
      change wpAnyH _ _ _ _ _ 0 #[true, true, true, true, true, true, true, true, true, true, true, true, true, true, true, true, true, true, true, true, true] _ _
      refine wpAnyH_done (by kernel_rfl) ?_ _
      clear hS4
      go_wp2
      go_roundw
      case rel => exact ⟨i + 1, by have := HI.out; omega, by go_num, by rw [HTK.out]; exact HA7.out, HBF7.out⟩
      case measure => simp [intOf]; have := HI.out; omega
    · have hd : decide ((i : Int) < (n : Int)) = false := by simp; omega
      have dl : ¬ (i : Int) < (n : Int) := by omega
      have htk : L.take i = L := List.take_of_length_le (by rw [← HNE.out]; omega)
      rw [htk] at hacts
      rw [htk]
      obtain ⟨m, hm⟩ : ∃ m, m = L.length := ⟨_, rfl⟩
      rw [← hm] at hacts
      rw [← hm]
      clear htk hm
      go_wp2
      go_ret
      exact ⟨_, rfl, hacts.out, hbel.out⟩
end Go.Proofs.YteennbdakjjcfaaDoor
