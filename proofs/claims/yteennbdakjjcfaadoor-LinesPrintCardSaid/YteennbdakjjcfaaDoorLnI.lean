/- The program's May of an act. Printed by gen_lni.py. -/
import Derived.Test.YteennbdakjjcfaaDoorLnH
set_option linter.unusedVariables false
set_option linter.unusedSimpArgs false
namespace Go.Proofs.YteennbdakjjcfaaDoor
open Go Go.RowKit Go.Lib
theorem rest_eql (k w_ kk n at_ bl : Int) (y : Bool) (w : World) : (binOp .eql 107 (.agg #[.int .i64 k, .int .i64 w_, .int .i64 kk, .int .i64 n, .int .i64 at_, .int .i64 bl, .bool y]) (.agg #[.int .i64 0, .int .i64 0, .int .i64 0, .int .i64 0, .int .i64 0, .int .i64 0, .bool false])).run Tryd.prog w = .ok (.bool (k == 0 && (w_ == 0 && (kk == 0 && (n == 0 && (at_ == 0 && (bl == 0 && (y == false)))))))) w := by
  have hs : Tryd.prog.stoodInHeld 107 = false := by kernel_rfl
  go_simp
  by_cases h1 : k = 0
  · by_cases h2 : w_ = 0
    · by_cases h3 : kk = 0
      · by_cases h4 : n = 0
        · by_cases h5 : at_ = 0
          · by_cases h6 : bl = 0
            · cases y <;> simp [h1, h2, h3, h4, h5, h6]
            · simp [h1, h2, h3, h4, h5, h6]
          · simp [h1, h2, h3, h4, h5]
        · simp [h1, h2, h3, h4]
      · simp [h1, h2, h3]
    · simp [h1, h2]
  · simp [h1]
theorem rest7 : (Tryd.prog.info? 107).map (·.size) = some 7 := by kernel_rfl
def restA (a : AN) (bl : Nat) : Array Value := #[.int .i64 a.kind, .int .i64 a.which, .int .i64 a.k, .int .i64 a.n, .int .i64 a.at_, .int .i64 (bl : Int), .bool a.yes]
def zeroA (a : AN) (bl : Nat) : Bool := a.kind == 0 && (a.which == 0 && (a.k == 0 && (a.n == 0 && (a.at_ == 0 && ((bl : Int) == 0 && (a.yes == false))))))
set_option maxRecDepth 100000 in
set_option maxHeartbeats 2000000 in
theorem rest_c (a : AN) (va : Option Addr) (bl vc : Nat) (w : World) :
    Calls Tryd.prog 71 #[.agg (actA a (.slice va bl vc))] w fun e w' => e = .returned (.agg (restA a bl)) ∧ Below w.heap.size w w' := by
  obtain ⟨HB0, HZ0, HE0⟩ := act_two (w := w) (A := actA a (.slice va bl vc)) (B := #[.int .i64 0, .int .i64 0, .int .i64 0, .int .i64 0, .int .i64 0, .int .i64 0, .bool false]) (t := 44) (t' := 107)
  have c0 := (cells_at HB0.out 0).trans (show _ = some (Value.int .i64 a.kind) from rfl)
  have c1 := (cells_at HB0.out 1).trans (show _ = some (Value.bool a.yes) from rfl)
  have c2 := (cells_at HB0.out 2).trans (show _ = some (Value.int .i64 a.which) from rfl)
  have c3 := (cells_at HB0.out 3).trans (show _ = some (Value.int .i64 a.k) from rfl)
  have c4 := (cells_at HB0.out 4).trans (show _ = some (Value.int .i64 a.n) from rfl)
  have c5 := (cells_at HB0.out 5).trans (show _ = some (Value.int .i64 a.at_) from rfl)
  have c6 := (cells_at HB0.out 6).trans (show _ = some (Value.slice va bl vc) from rfl)
  have hone : (restA a bl).all (·.oneCell') = true := by simp [restA, Value.oneCell']
  go_enter Tryd.func71, Tryd.ntmps71
  go_wp2_with (first
    | (refine wpList_store_row rfl 107 (.tmp 2) (.tmp 18) rfl (w.heap.size + 1) (restA a bl) rfl rfl 107 _ HZ0.out (by rw [rest7]; rfl) (by rfl) hone ?_)
    | fail)
  exact bodyPost_ret (results_cell_row rfl _ _ (w.heap.size + 1) 107 (restA a bl) (0, 0) _ rfl (setRow_heap _ _ _ _ _ _ HZ0.out) Tryd.underlying107 rfl (by rw [rest7]; rfl)) rfl ⟨rfl, below_setRow HE0.out (Nat.le_succ _) _⟩
theorem run_reql {E : Operand → Value} {X Y : Value} {b : Bool} (x y : Operand) {o : Oper} (ho : o.op = .binOp .eql 107 x y 107) (hx : E x = X) (hy : E y = Y) {w : World}
    (h : (binOp .eql 107 X Y).run Tryd.prog w = .ok (.bool b) w) (hg : (eqGuard .eql 107 x y X Y).run Tryd.prog w = .ok () w := by kernel_rfl) : (execOp E o).run Tryd.prog w = .ok (.value (.bool b)) w := by
  unfold execOp
  simp only [ho, hx, hy, Sem.run_bind, hg, Result.andThen_ok, h]
  rfl
def zeroAct : AN := ⟨0, false, 0, 0, 0, 0, []⟩
theorem range_act {w : World} {g : Nat} {A : Array Value} {t : TypeId} (h : w.heap[g]? = some (.cells A t (0, 0))) : w.rangeAt g 0 A.toList := range_row h
set_option maxRecDepth 100000 in
set_option maxHeartbeats 4000000 in
theorem same_c (a : AN) (va : Option Addr) (bl vc : Nat) (hva : va = none → vc = 0) (w : World) :
    Calls Tryd.prog 59 #[.agg (actA a (.slice va bl vc)), .agg #[.int .i64 0, .bool false, .int .i64 0, .int .i64 0, .int .i64 0, .int .i64 0, .slice none 0 0]] w fun e w' => e = .returned (.bool (zeroA a bl)) ∧ Below w.heap.size w w' := by
  obtain ⟨HB0, HZ0, HE0⟩ := act_two (w := w) (A := actA a (.slice va bl vc)) (B := #[.int .i64 0, .bool false, .int .i64 0, .int .i64 0, .int .i64 0, .int .i64 0, .slice none 0 0]) (t := 44) (t' := 44)
  have HRE := Lib.hid (fun w => rest_eql a.kind a.which a.k a.n a.at_ (bl : Int) a.yes w)
  go_enter Tryd.func59, Tryd.ntmps59
  go_wp2_with fail
  generalize (w.alloc (.cells (actA a (.slice va bl vc)) 44)).alloc (.cells #[.int .i64 0, .bool false, .int .i64 0, .int .i64 0, .int .i64 0, .int .i64 0, .slice none 0 0] 44) = w0 at *
  obtain ⟨z, hz⟩ : ∃ z, z = zeroA a bl := ⟨_, rfl⟩
  have HRE2 : Hid (∀ w, (binOp .eql 107 (.agg (restA a bl)) (.agg (restA zeroAct 0))).run Tryd.prog w = .ok (.bool z) w) := fun w => by rw [hz]; exact HRE.out w
  have HZB : Hid (z = true → bl = 0) := fun h => by
    rw [hz] at h
    unfold zeroA at h
    simp only [Bool.and_eq_true, beq_iff_eq] at h
    omega
  have HAX : Hid (∀ w', Below w0.heap.size w0 w' → w'.heap[w.heap.size]? = some (.cells (actA a (.slice va bl vc)) 44 (0, 0))) := fun w' h => (h.block _ (lt_of_block HB0.out)).trans HB0.out
  have HZX : Hid (∀ w', Below w0.heap.size w0 w' → w'.heap[w.heap.size + 1]? = some (.cells (actA zeroAct (.slice none 0 0)) 44 (0, 0))) := fun w' h => (h.block _ (lt_of_block HZ0.out)).trans HZ0.out
  have HZE := Lib.hid hz
  clear HRE HB0 HZ0 hz
  cases z with
  | true =>
    refine wp_region_held_drew (S := fun w' => Below w0.heap.size w0 w') (by kernel_rfl) (Below.refl _ _).drew ?_
    intro hS
    generalize w0.drew = WD at hS ⊢
    change wpAnyH _ _ _ _ _ 13 #[false, false, false, false, false, false, false, false, false, false, false, false, false] _ _
    refine wpAnyH_take (i := 0) rfl (by kernel_rfl) (by kernel_rfl) (by kernel_rfl) (fun _ _ _ h => h) (yieldsIf_load_mid (by rfl) _ _ rfl w.heap.size 0 rfl (actA a (.slice va bl vc)).toList _ (fun w' h => range_row (HAX.out w' h)) Tryd.underlying44 rfl (by rw [act44]; rfl)) hS ?_
    simp only [List.getElem_toArray, List.getElem_cons_succ, List.getElem_cons_zero, Act.put, List.setIfInBounds_toArray, List.set_cons_zero, List.set_cons_succ]
    change wpAnyH _ _ _ _ _ 12 #[true, false, false, false, false, false, false, false, false, false, false, false, false] _ _
    refine wpAnyH_take (i := 2) rfl (by kernel_rfl) (by kernel_rfl) (by kernel_rfl) (fun _ _ _ h => h) (yieldsIf_load_mid (by rfl) _ _ rfl (w.heap.size + 1) 0 rfl (actA zeroAct (.slice none 0 0)).toList _ (fun w' h => range_row (HZX.out w' h)) Tryd.underlying44 rfl (by rw [act44]; rfl)) hS ?_
    simp only [List.getElem_toArray, List.getElem_cons_succ, List.getElem_cons_zero, Act.put, List.setIfInBounds_toArray, List.set_cons_zero, List.set_cons_succ]
    change wpAnyH _ _ _ _ _ 11 #[true, false, true, false, false, false, false, false, false, false, false, false, false] _ _
    refine wpAnyH_ready (rs := [1]) (by kernel_rfl) (by simp) ?_
    refine AllReadyH.cons rfl (fun K hK => ?_) AllReadyH.nil
    rw [if_pos (by rfl)]
    go_simp
    refine (rest_c a va bl vc WD).mono ?_
    rintro e wa ⟨rfl, hb10⟩
    refine hK.out _ _ (hS.trans (hb10.mono hS.size)) (fun hSa => ?_)
    clear hK K
    simp only [List.getElem_toArray, List.getElem_cons_succ, List.getElem_cons_zero, Act.put, List.setIfInBounds_toArray, List.set_cons_zero, List.set_cons_succ]
    change wpAnyH _ _ _ _ _ 10 #[true, true, true, false, false, false, false, false, false, false, false, false, false] _ _
    refine wpAnyH_ready (rs := [3]) (by kernel_rfl) (by simp) ?_
    refine AllReadyH.cons rfl (fun K hK => ?_) AllReadyH.nil
    rw [if_pos (by rfl)]
    go_simp
    refine (rest_c zeroAct none 0 0 wa).mono ?_
    rintro e wb ⟨rfl, hb11⟩
    refine hK.out _ _ (hSa.trans (hb11.mono hSa.size)) (fun hSb => ?_)
    clear hK K
    simp only [List.getElem_toArray, List.getElem_cons_succ, List.getElem_cons_zero, Act.put, List.setIfInBounds_toArray, List.set_cons_zero, List.set_cons_succ]
    change wpAnyH _ _ _ _ _ 9 #[true, true, true, true, false, false, false, false, false, false, false, false, false] _ _
    refine wpAnyH_take (i := 4) rfl (by kernel_rfl) (by kernel_rfl) (by kernel_rfl) (fun _ _ _ h => h) (Or.inl ⟨by rfl, fun w' hSw => run_reql (.tmp 6) (.tmp 8) rfl rfl rfl (HRE2.out w')⟩) hSb ?_
    simp only [List.getElem_toArray, List.getElem_cons_succ, List.getElem_cons_zero, Act.put, List.setIfInBounds_toArray, List.set_cons_zero, List.set_cons_succ]
    change wpAnyH _ _ _ _ _ 8 #[true, true, true, true, true, false, false, false, false, false, false, false, false] _ _
    refine wpAnyH_take (i := 5) (v := ?_) rfl (by kernel_rfl) (by kernel_rfl) (by kernel_rfl) (fun _ _ _ h => h) (Or.inl ⟨by rfl, ?hy⟩) hSb ?_
    case hy => intro w' hSw; go_simp; try with_reducible rfl
    simp only [List.getElem_toArray, List.getElem_cons_succ, List.getElem_cons_zero, Act.put, List.setIfInBounds_toArray, List.set_cons_zero, List.set_cons_succ]
    change wpAnyH _ _ _ _ _ 7 #[true, true, true, true, true, true, false, false, false, false, false, false, false] _ _
    refine wpAnyH_take (i := 6) (v := ?_) rfl (by kernel_rfl) (by kernel_rfl) (by kernel_rfl) (fun _ _ _ h => h) (Or.inl ⟨by rfl, ?hy⟩) hSb ?_
    case hy => intro w' hSw; go_simp; try with_reducible rfl
    simp only [List.getElem_toArray, List.getElem_cons_succ, List.getElem_cons_zero, Act.put, List.setIfInBounds_toArray, List.set_cons_zero, List.set_cons_succ]
    change wpAnyH _ _ _ _ _ 6 #[true, true, true, true, true, true, true, false, false, false, false, false, false] _ _
    refine wpAnyH_take (i := 7) (v := ?_) rfl (by kernel_rfl) (by kernel_rfl) (by kernel_rfl) (fun _ _ _ h => h) (Or.inl ⟨by rfl, ?hy⟩) hSb ?_
    case hy => intro w' hSw; have hc6 := (cells_at (HAX.out w' hSw) 6).trans (show _ = some (Value.slice va bl vc) from rfl); go_simp; try with_reducible rfl
    simp only [List.getElem_toArray, List.getElem_cons_succ, List.getElem_cons_zero, Act.put, List.setIfInBounds_toArray, List.set_cons_zero, List.set_cons_succ]
    change wpAnyH _ _ _ _ _ 5 #[true, true, true, true, true, true, true, true, false, false, false, false, false] _ _
    refine wpAnyH_take (i := 8) (v := ?_) rfl (by kernel_rfl) (by kernel_rfl) (by kernel_rfl) (fun _ _ _ h => h) (Or.inl ⟨by rfl, ?hy⟩) hSb ?_
    case hy => intro w' hSw; go_simp; try with_reducible rfl
    simp only [List.getElem_toArray, List.getElem_cons_succ, List.getElem_cons_zero, Act.put, List.setIfInBounds_toArray, List.set_cons_zero, List.set_cons_succ]
    change wpAnyH _ _ _ _ _ 4 #[true, true, true, true, true, true, true, true, true, false, false, false, false] _ _
    refine wpAnyH_take (i := 9) (v := ?_) rfl (by kernel_rfl) (by kernel_rfl) (by kernel_rfl) (fun _ _ _ h => h) (Or.inl ⟨by rfl, ?hy⟩) hSb ?_
    case hy => intro w' hSw; have hc6 := (cells_at (HZX.out w' hSw) 6).trans (show _ = some (Value.slice none 0 0) from rfl); go_simp; try with_reducible rfl
    simp only [List.getElem_toArray, List.getElem_cons_succ, List.getElem_cons_zero, Act.put, List.setIfInBounds_toArray, List.set_cons_zero, List.set_cons_succ]
    change wpAnyH _ _ _ _ _ 3 #[true, true, true, true, true, true, true, true, true, true, false, false, false] _ _
    refine wpAnyH_ready (rs := [10]) (by kernel_rfl) (by simp) ?_
    refine AllReadyH.cons rfl (fun K hK => ?_) AllReadyH.nil
    rw [if_pos (by rfl)]
    go_simp
    have hbl0 := HZB.out rfl
    subst hbl0
    refine (equal_c va none vc 0 0 [] [] rfl rfl wb ⟨(fun x h => by cases h), (fun h => by cases h)⟩ ⟨(fun x h => by cases h), (fun h => by cases h)⟩).mono ?_
    rintro e wc ⟨rfl, rfl⟩
    rw [show decide (([] : List Nat) = []) = true from rfl]
    refine hK.out _ _ (hSb) (fun hSc => ?_)
    clear hK K
    simp only [List.getElem_toArray, List.getElem_cons_succ, List.getElem_cons_zero, Act.put, List.setIfInBounds_toArray, List.set_cons_zero, List.set_cons_succ]
    change wpAnyH _ _ _ _ _ 2 #[true, true, true, true, true, true, true, true, true, true, true, false, false] _ _
    refine wpAnyH_take (i := 11) (v := ?_) rfl (by kernel_rfl) (by kernel_rfl) (by kernel_rfl) (fun _ _ _ h => h) (Or.inl ⟨by rfl, ?hy⟩) hSc ?_
    case hy => intro w' hSw; go_simp; try with_reducible rfl
    simp only [List.getElem_toArray, List.getElem_cons_succ, List.getElem_cons_zero, Act.put, List.setIfInBounds_toArray, List.set_cons_zero, List.set_cons_succ]
    change wpAnyH _ _ _ _ _ 1 #[true, true, true, true, true, true, true, true, true, true, true, true, false] _ _
    refine wpAnyH_take (i := 12) (v := ?_) rfl (by kernel_rfl) (by kernel_rfl) (by kernel_rfl) (fun _ _ _ h => h) (Or.inl ⟨by rfl, ?hy⟩) hSc ?_
    case hy => intro w' hSw; go_simp; try with_reducible rfl
    simp only [List.getElem_toArray, List.getElem_cons_succ, List.getElem_cons_zero, Act.put, List.setIfInBounds_toArray, List.set_cons_zero, List.set_cons_succ]
    change wpAnyH _ _ _ _ _ 0 #[true, true, true, true, true, true, true, true, true, true, true, true, true] _ _
    refine wpAnyH_done (by kernel_rfl) ?_ _
    go_wp2_with fail
    go_ret
    exact ⟨by rw [← HZE.out]; rfl, HE0.out.trans (hSc.mono HE0.out.size)⟩
  | false =>
    refine wp_region_held_drew (S := fun w' => Below w0.heap.size w0 w') (by kernel_rfl) (Below.refl _ _).drew ?_
    intro hS
    generalize w0.drew = WD at hS ⊢
    change wpAnyH _ _ _ _ _ 13 #[false, false, false, false, false, false, false, false, false, false, false, false, false] _ _
    refine wpAnyH_take (i := 0) rfl (by kernel_rfl) (by kernel_rfl) (by kernel_rfl) (fun _ _ _ h => h) (yieldsIf_load_mid (by rfl) _ _ rfl w.heap.size 0 rfl (actA a (.slice va bl vc)).toList _ (fun w' h => range_row (HAX.out w' h)) Tryd.underlying44 rfl (by rw [act44]; rfl)) hS ?_
    simp only [List.getElem_toArray, List.getElem_cons_succ, List.getElem_cons_zero, Act.put, List.setIfInBounds_toArray, List.set_cons_zero, List.set_cons_succ]
    change wpAnyH _ _ _ _ _ 12 #[true, false, false, false, false, false, false, false, false, false, false, false, false] _ _
    refine wpAnyH_take (i := 2) rfl (by kernel_rfl) (by kernel_rfl) (by kernel_rfl) (fun _ _ _ h => h) (yieldsIf_load_mid (by rfl) _ _ rfl (w.heap.size + 1) 0 rfl (actA zeroAct (.slice none 0 0)).toList _ (fun w' h => range_row (HZX.out w' h)) Tryd.underlying44 rfl (by rw [act44]; rfl)) hS ?_
    simp only [List.getElem_toArray, List.getElem_cons_succ, List.getElem_cons_zero, Act.put, List.setIfInBounds_toArray, List.set_cons_zero, List.set_cons_succ]
    change wpAnyH _ _ _ _ _ 11 #[true, false, true, false, false, false, false, false, false, false, false, false, false] _ _
    refine wpAnyH_ready (rs := [1]) (by kernel_rfl) (by simp) ?_
    refine AllReadyH.cons rfl (fun K hK => ?_) AllReadyH.nil
    rw [if_pos (by rfl)]
    go_simp
    refine (rest_c a va bl vc WD).mono ?_
    rintro e wa ⟨rfl, hb10⟩
    refine hK.out _ _ (hS.trans (hb10.mono hS.size)) (fun hSa => ?_)
    clear hK K
    simp only [List.getElem_toArray, List.getElem_cons_succ, List.getElem_cons_zero, Act.put, List.setIfInBounds_toArray, List.set_cons_zero, List.set_cons_succ]
    change wpAnyH _ _ _ _ _ 10 #[true, true, true, false, false, false, false, false, false, false, false, false, false] _ _
    refine wpAnyH_ready (rs := [3]) (by kernel_rfl) (by simp) ?_
    refine AllReadyH.cons rfl (fun K hK => ?_) AllReadyH.nil
    rw [if_pos (by rfl)]
    go_simp
    refine (rest_c zeroAct none 0 0 wa).mono ?_
    rintro e wb ⟨rfl, hb11⟩
    refine hK.out _ _ (hSa.trans (hb11.mono hSa.size)) (fun hSb => ?_)
    clear hK K
    simp only [List.getElem_toArray, List.getElem_cons_succ, List.getElem_cons_zero, Act.put, List.setIfInBounds_toArray, List.set_cons_zero, List.set_cons_succ]
    change wpAnyH _ _ _ _ _ 9 #[true, true, true, true, false, false, false, false, false, false, false, false, false] _ _
    refine wpAnyH_take (i := 4) rfl (by kernel_rfl) (by kernel_rfl) (by kernel_rfl) (fun _ _ _ h => h) (Or.inl ⟨by rfl, fun w' hSw => run_reql (.tmp 6) (.tmp 8) rfl rfl rfl (HRE2.out w')⟩) hSb ?_
    simp only [List.getElem_toArray, List.getElem_cons_succ, List.getElem_cons_zero, Act.put, List.setIfInBounds_toArray, List.set_cons_zero, List.set_cons_succ]
    change wpAnyH _ _ _ _ _ 8 #[true, true, true, true, true, false, false, false, false, false, false, false, false] _ _
    refine wpAnyH_take (i := 5) (v := ?_) rfl (by kernel_rfl) (by kernel_rfl) (by kernel_rfl) (fun _ _ _ h => h) (Or.inl ⟨by rfl, ?hy⟩) hSb ?_
    case hy => intro w' hSw; go_simp; try with_reducible rfl
    simp only [List.getElem_toArray, List.getElem_cons_succ, List.getElem_cons_zero, Act.put, List.setIfInBounds_toArray, List.set_cons_zero, List.set_cons_succ]
    change wpAnyH _ _ _ _ _ 7 #[true, true, true, true, true, true, false, false, false, false, false, false, false] _ _
    refine wpAnyH_take (i := 6) rfl (by kernel_rfl) (by kernel_rfl) (by kernel_rfl) (fun _ _ _ h => h) (Or.inr ⟨by rfl, rfl⟩) hSb ?_
    simp only [List.getElem_toArray, List.getElem_cons_succ, List.getElem_cons_zero, Act.put, List.setIfInBounds_toArray, List.set_cons_zero, List.set_cons_succ]
    change wpAnyH _ _ _ _ _ 6 #[true, true, true, true, true, true, true, false, false, false, false, false, false] _ _
    refine wpAnyH_take (i := 7) rfl (by kernel_rfl) (by kernel_rfl) (by kernel_rfl) (fun _ _ _ h => h) (Or.inr ⟨by rfl, rfl⟩) hSb ?_
    simp only [List.getElem_toArray, List.getElem_cons_succ, List.getElem_cons_zero, Act.put, List.setIfInBounds_toArray, List.set_cons_zero, List.set_cons_succ]
    change wpAnyH _ _ _ _ _ 5 #[true, true, true, true, true, true, true, true, false, false, false, false, false] _ _
    refine wpAnyH_take (i := 8) rfl (by kernel_rfl) (by kernel_rfl) (by kernel_rfl) (fun _ _ _ h => h) (Or.inr ⟨by rfl, rfl⟩) hSb ?_
    simp only [List.getElem_toArray, List.getElem_cons_succ, List.getElem_cons_zero, Act.put, List.setIfInBounds_toArray, List.set_cons_zero, List.set_cons_succ]
    change wpAnyH _ _ _ _ _ 4 #[true, true, true, true, true, true, true, true, true, false, false, false, false] _ _
    refine wpAnyH_take (i := 9) rfl (by kernel_rfl) (by kernel_rfl) (by kernel_rfl) (fun _ _ _ h => h) (Or.inr ⟨by rfl, rfl⟩) hSb ?_
    simp only [List.getElem_toArray, List.getElem_cons_succ, List.getElem_cons_zero, Act.put, List.setIfInBounds_toArray, List.set_cons_zero, List.set_cons_succ]
    change wpAnyH _ _ _ _ _ 3 #[true, true, true, true, true, true, true, true, true, true, false, false, false] _ _
    refine wpAnyH_take (i := 10) rfl (by kernel_rfl) (by kernel_rfl) (by kernel_rfl) (fun _ _ _ h => h) (Or.inr ⟨by rfl, rfl⟩) hSb ?_
    simp only [List.getElem_toArray, List.getElem_cons_succ, List.getElem_cons_zero, Act.put, List.setIfInBounds_toArray, List.set_cons_zero, List.set_cons_succ]
    change wpAnyH _ _ _ _ _ 2 #[true, true, true, true, true, true, true, true, true, true, true, false, false] _ _
    refine wpAnyH_take (i := 11) (v := ?_) rfl (by kernel_rfl) (by kernel_rfl) (by kernel_rfl) (fun _ _ _ h => h) (Or.inl ⟨by rfl, ?hy⟩) hSb ?_
    case hy => intro w' hSw; go_simp; try with_reducible rfl
    simp only [List.getElem_toArray, List.getElem_cons_succ, List.getElem_cons_zero, Act.put, List.setIfInBounds_toArray, List.set_cons_zero, List.set_cons_succ]
    change wpAnyH _ _ _ _ _ 1 #[true, true, true, true, true, true, true, true, true, true, true, true, false] _ _
    refine wpAnyH_take (i := 12) (v := ?_) rfl (by kernel_rfl) (by kernel_rfl) (by kernel_rfl) (fun _ _ _ h => h) (Or.inl ⟨by rfl, ?hy⟩) hSb ?_
    case hy => intro w' hSw; go_simp; try with_reducible rfl
    simp only [List.getElem_toArray, List.getElem_cons_succ, List.getElem_cons_zero, Act.put, List.setIfInBounds_toArray, List.set_cons_zero, List.set_cons_succ]
    change wpAnyH _ _ _ _ _ 0 #[true, true, true, true, true, true, true, true, true, true, true, true, true] _ _
    refine wpAnyH_done (by kernel_rfl) ?_ _
    go_wp2_with fail
    go_ret
    exact ⟨by rw [← HZE.out]; rfl, HE0.out.trans (hSb.mono HE0.out.size)⟩
set_option maxRecDepth 100000 in
theorem zero_c (a : AN) (va : Option Addr) (bl vc : Nat) (hva : va = none → vc = 0) (w : World) :
    Calls Tryd.prog 46 #[.agg (actA a (.slice va bl vc))] w fun e w' => e = .returned (.bool (zeroA a bl)) ∧ Below w.heap.size w w' := by
  have HB0 : Hid ((w.alloc (.cells (actA a (.slice va bl vc)) 44)).heap[w.heap.size]? = some (.cells (actA a (.slice va bl vc)) 44 (0, 0))) := heap_new' _ _
  have HE0 : Hid (Below w.heap.size w (w.alloc (.cells (actA a (.slice va bl vc)) 44))) := (Below.refl _ _).alloc (Nat.le_refl _) _
  have HC := Lib.hid (fun w => same_c a va bl vc hva w)
  clear hva
  go_enter Tryd.func46, Tryd.ntmps46
  go_wp2_with (first
    | (refine wpList_load_row rfl 44 (.tmp 1) rfl w.heap.size rfl _ _ _ _ HB0.out Tryd.underlying44 rfl (by rw [act44]; rfl) ?_)
    | fail)
  generalize w.alloc (.cells (actA a (.slice va bl vc)) 44) = w0 at *
  refine (HC.out w0).mono ?_
  rintro e w1 ⟨rfl, hb1⟩
  have HE1 : Hid (Below w.heap.size w w1) := HE0.out.trans (hb1.mono HE0.out.size)
  clear hb1
  go_wp2
  go_ret
  exact ⟨rfl, HE1.out⟩
/-- what May asks of the fields that a kind lacks -/
def lackF (k : Nat) (a : AN) (bl : Nat) : Bool := (hasK k 119 || a.which == 0) && ((hasK k 107 || a.k == 0) && ((hasK k 110 || a.n == 0) && ((hasK k 97 || a.at_ == 0) && ((hasK k 98 || (bl : Int) == 0) && (hasK k 121 || (a.yes == false))))))
theorem bare_c (k : Nat) (hk : k < 20) (a : AN) (hak : a.kind = (k : Int)) (va : Option Addr) (bl vc : Nat) (hva : va = none → vc = 0) (w : World) :
    Calls Tryd.prog 45 #[.agg (actA a (.slice va bl vc))] w fun e w' => (∃ a' va' bl' vc', e = .returned (.agg (actA a' (.slice va' bl' vc'))) ∧ (va' = none → vc' = 0) ∧ zeroA a' bl' = lackF k a bl) ∧ Below w.heap.size w w' := by
  rcases (by omega : k = 0 ∨ k = 1 ∨ k = 2 ∨ k = 3 ∨ k = 4 ∨ k = 5 ∨ k = 6 ∨ k = 7 ∨ k = 8 ∨ k = 9 ∨ k = 10 ∨ k = 11 ∨ k = 12 ∨ k = 13 ∨ k = 14 ∨ k = 15 ∨ k = 16 ∨ k = 17 ∨ k = 18 ∨ k = 19) with rfl | rfl | rfl | rfl | rfl | rfl | rfl | rfl | rfl | rfl | rfl | rfl | rfl | rfl | rfl | rfl | rfl | rfl | rfl | rfl
  · refine Calls.mono (show Calls _ _ #[.agg (actA a (.slice va bl vc))] _ _ from by unfold actA; rw [hak]; exact bare_0 a va bl vc w) ?_
    rintro e w' ⟨rfl, hb⟩
    exact ⟨⟨⟨0, a.yes, a.which, a.k, a.n, a.at_, a.b⟩, va, bl, vc, rfl, hva, by unfold zeroA lackF; simp [hasK, fieldsK]⟩, hb⟩
  · refine Calls.mono (show Calls _ _ #[.agg (actA a (.slice va bl vc))] _ _ from by unfold actA; rw [hak]; exact bare_1 a va bl vc w) ?_
    rintro e w' ⟨rfl, hb⟩
    exact ⟨⟨⟨0, false, a.which, a.k, a.n, a.at_, a.b⟩, va, bl, vc, rfl, hva, by unfold zeroA lackF; simp [hasK, fieldsK]⟩, hb⟩
  · refine Calls.mono (show Calls _ _ #[.agg (actA a (.slice va bl vc))] _ _ from by unfold actA; rw [hak]; exact bare_2 a va bl vc w) ?_
    rintro e w' ⟨rfl, hb⟩
    exact ⟨⟨⟨0, a.yes, a.which, a.k, a.n, a.at_, a.b⟩, va, bl, vc, rfl, hva, by unfold zeroA lackF; simp [hasK, fieldsK]⟩, hb⟩
  · refine Calls.mono (show Calls _ _ #[.agg (actA a (.slice va bl vc))] _ _ from by unfold actA; rw [hak]; exact bare_3 a va bl vc w) ?_
    rintro e w' ⟨rfl, hb⟩
    exact ⟨⟨⟨0, a.yes, a.which, a.k, a.n, a.at_, a.b⟩, va, bl, vc, rfl, hva, by unfold zeroA lackF; simp [hasK, fieldsK]⟩, hb⟩
  · refine Calls.mono (show Calls _ _ #[.agg (actA a (.slice va bl vc))] _ _ from by unfold actA; rw [hak]; exact bare_4 a va bl vc w) ?_
    rintro e w' ⟨rfl, hb⟩
    exact ⟨⟨⟨0, a.yes, a.which, a.k, a.n, a.at_, a.b⟩, va, bl, vc, rfl, hva, by unfold zeroA lackF; simp [hasK, fieldsK]⟩, hb⟩
  · refine Calls.mono (show Calls _ _ #[.agg (actA a (.slice va bl vc))] _ _ from by unfold actA; rw [hak]; exact bare_5 a va bl vc w) ?_
    rintro e w' ⟨rfl, hb⟩
    exact ⟨⟨⟨0, a.yes, a.which, a.k, a.n, a.at_, a.b⟩, va, bl, vc, rfl, hva, by unfold zeroA lackF; simp [hasK, fieldsK]⟩, hb⟩
  · refine Calls.mono (show Calls _ _ #[.agg (actA a (.slice va bl vc))] _ _ from by unfold actA; rw [hak]; exact bare_6 a va bl vc w) ?_
    rintro e w' ⟨rfl, hb⟩
    exact ⟨⟨⟨0, a.yes, a.which, a.k, 0, a.at_, a.b⟩, va, bl, vc, rfl, hva, by unfold zeroA lackF; simp [hasK, fieldsK]⟩, hb⟩
  · refine Calls.mono (show Calls _ _ #[.agg (actA a (.slice va bl vc))] _ _ from by unfold actA; rw [hak]; exact bare_7 a va bl vc w) ?_
    rintro e w' ⟨rfl, hb⟩
    exact ⟨⟨⟨0, a.yes, 0, a.k, a.n, a.at_, a.b⟩, va, bl, vc, rfl, hva, by unfold zeroA lackF; simp [hasK, fieldsK]⟩, hb⟩
  · refine Calls.mono (show Calls _ _ #[.agg (actA a (.slice va bl vc))] _ _ from by unfold actA; rw [hak]; exact bare_8 a va bl vc w) ?_
    rintro e w' ⟨rfl, hb⟩
    exact ⟨⟨⟨0, a.yes, 0, a.k, 0, a.at_, a.b⟩, va, bl, vc, rfl, hva, by unfold zeroA lackF; simp [hasK, fieldsK]⟩, hb⟩
  · refine Calls.mono (show Calls _ _ #[.agg (actA a (.slice va bl vc))] _ _ from by unfold actA; rw [hak]; exact bare_9 a va bl vc w) ?_
    rintro e w' ⟨rfl, hb⟩
    exact ⟨⟨⟨0, a.yes, 0, a.k, a.n, 0, a.b⟩, none, 0, 0, rfl, fun _ => rfl, by unfold zeroA lackF; simp [hasK, fieldsK]⟩, hb⟩
  · refine Calls.mono (show Calls _ _ #[.agg (actA a (.slice va bl vc))] _ _ from by unfold actA; rw [hak]; exact bare_10 a va bl vc w) ?_
    rintro e w' ⟨rfl, hb⟩
    exact ⟨⟨⟨0, a.yes, 0, a.k, 0, 0, a.b⟩, va, bl, vc, rfl, hva, by unfold zeroA lackF; simp [hasK, fieldsK]⟩, hb⟩
  · refine Calls.mono (show Calls _ _ #[.agg (actA a (.slice va bl vc))] _ _ from by unfold actA; rw [hak]; exact bare_11 a va bl vc w) ?_
    rintro e w' ⟨rfl, hb⟩
    exact ⟨⟨⟨0, false, 0, 0, a.n, a.at_, a.b⟩, va, bl, vc, rfl, hva, by unfold zeroA lackF; simp [hasK, fieldsK]⟩, hb⟩
  · refine Calls.mono (show Calls _ _ #[.agg (actA a (.slice va bl vc))] _ _ from by unfold actA; rw [hak]; exact bare_12 a va bl vc w) ?_
    rintro e w' ⟨rfl, hb⟩
    exact ⟨⟨⟨0, a.yes, a.which, 0, a.n, a.at_, a.b⟩, va, bl, vc, rfl, hva, by unfold zeroA lackF; simp [hasK, fieldsK]⟩, hb⟩
  · refine Calls.mono (show Calls _ _ #[.agg (actA a (.slice va bl vc))] _ _ from by unfold actA; rw [hak]; exact bare_13 a va bl vc w) ?_
    rintro e w' ⟨rfl, hb⟩
    exact ⟨⟨⟨0, a.yes, 0, a.k, a.n, a.at_, a.b⟩, va, bl, vc, rfl, hva, by unfold zeroA lackF; simp [hasK, fieldsK]⟩, hb⟩
  · refine Calls.mono (show Calls _ _ #[.agg (actA a (.slice va bl vc))] _ _ from by unfold actA; rw [hak]; exact bare_14 a va bl vc w) ?_
    rintro e w' ⟨rfl, hb⟩
    exact ⟨⟨⟨0, a.yes, a.which, a.k, a.n, a.at_, a.b⟩, va, bl, vc, rfl, hva, by unfold zeroA lackF; simp [hasK, fieldsK]⟩, hb⟩
  · refine Calls.mono (show Calls _ _ #[.agg (actA a (.slice va bl vc))] _ _ from by unfold actA; rw [hak]; exact bare_15 a va bl vc w) ?_
    rintro e w' ⟨rfl, hb⟩
    exact ⟨⟨⟨0, a.yes, a.which, a.k, a.n, a.at_, a.b⟩, va, bl, vc, rfl, hva, by unfold zeroA lackF; simp [hasK, fieldsK]⟩, hb⟩
  · refine Calls.mono (show Calls _ _ #[.agg (actA a (.slice va bl vc))] _ _ from by unfold actA; rw [hak]; exact bare_16 a va bl vc w) ?_
    rintro e w' ⟨rfl, hb⟩
    exact ⟨⟨⟨0, a.yes, a.which, a.k, a.n, a.at_, a.b⟩, none, 0, 0, rfl, fun _ => rfl, by unfold zeroA lackF; simp [hasK, fieldsK]⟩, hb⟩
  · refine Calls.mono (show Calls _ _ #[.agg (actA a (.slice va bl vc))] _ _ from by unfold actA; rw [hak]; exact bare_17 a va bl vc w) ?_
    rintro e w' ⟨rfl, hb⟩
    exact ⟨⟨⟨0, a.yes, a.which, a.k, 0, a.at_, a.b⟩, none, 0, 0, rfl, fun _ => rfl, by unfold zeroA lackF; simp [hasK, fieldsK]⟩, hb⟩
  · refine Calls.mono (show Calls _ _ #[.agg (actA a (.slice va bl vc))] _ _ from by unfold actA; rw [hak]; exact bare_18 a va bl vc w) ?_
    rintro e w' ⟨rfl, hb⟩
    exact ⟨⟨⟨0, a.yes, a.which, a.k, a.n, 0, a.b⟩, none, 0, 0, rfl, fun _ => rfl, by unfold zeroA lackF; simp [hasK, fieldsK]⟩, hb⟩
  · refine Calls.mono (show Calls _ _ #[.agg (actA a (.slice va bl vc))] _ _ from by unfold actA; rw [hak]; exact bare_19 a va bl vc w) ?_
    rintro e w' ⟨rfl, hb⟩
    exact ⟨⟨⟨0, a.yes, a.which, a.k, a.n, a.at_, a.b⟩, va, bl, vc, rfl, hva, by unfold zeroA lackF; simp [hasK, fieldsK]⟩, hb⟩
end Go.Proofs.YteennbdakjjcfaaDoor
