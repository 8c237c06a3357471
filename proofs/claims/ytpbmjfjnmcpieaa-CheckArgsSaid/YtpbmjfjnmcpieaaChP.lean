/- package pages: plain, free, tail, slots, head, may, bad; class.Pages. -/
import Derived.Test.YtpbmjfjnmcpieaaChK
set_option linter.unusedVariables false
set_option linter.unusedSimpArgs false
namespace Go.Proofs.Ytpbmjfjnmcpieaa
open Go Go.RowKit
/-- a page as a value -/
def pgA (p : Pg) : Array Value := #[.int .i64 (p.kind : Int), .int .i64 (p.cls : Int), .int .i64 (p.run : Int), .int .i64 (p.size : Int), .int .u64 (p.ser : Int)]
def pgEq (p q : Pg) : Bool := p.kind == q.kind && p.cls == q.cls && p.run == q.run && p.size == q.size && p.ser == q.ser
theorem page5 : (Try.prog.info? 81).map (·.size) = some 5 := by kernel_rfl
theorem pgA_one (p : Pg) : (pgA p).all (·.oneCell') = true := by simp [pgA, Value.oneCell']
set_option maxRecDepth 100000 in
theorem eql_pg (p q : Pg) (w : World) : (binOp .eql 81 (.agg (pgA p)) (.agg (pgA q))).run Try.prog w = .ok (.bool (pgEq p q)) w := by
  obtain ⟨a, b, c, d, s⟩ := p
  obtain ⟨a', b', c', d', s'⟩ := q
  unfold pgA pgEq
  simp only
  go_simp
  by_cases h1 : a = a'
  · rw [if_pos (by omega)]
    by_cases h2 : b = b'
    · rw [if_pos (by omega)]
      by_cases h3 : c = c'
      · rw [if_pos (by omega)]
        by_cases h4 : d = d'
        · rw [if_pos (by omega)]
          by_cases h5 : s = s'
          · rw [if_pos (by omega)]
            simp [h1, h2, h3, h4, h5]
          · rw [if_neg (by omega), show (s == s') = false by simpa using h5]; simp
        · rw [if_neg (by omega), show (d == d') = false by simpa using h4]; simp
      · rw [if_neg (by omega), show (c == c') = false by simpa using h3]; simp
    · rw [if_neg (by omega), show (b == b') = false by simpa using h2]; simp
  · rw [if_neg (by omega), show (a == a') = false by simpa using h1]; simp
theorem quiet_eql_agg {ops : Array Oper} {C : World → Prop} {Q : Act → Prop} {rest : List Oper} {o : Oper} {a : Act} (hgd : Region.wanted o (yielded ops a.tmps) = true) (T ty : TypeId) (x y : Operand) (ho : o.op = .binOp .eql T x y ty)
    (xs ys : Array Value) (hx : a.eval x = .agg xs) (hy : a.eval y = .agg ys) (hm : Try.prog.eqGuardType Try.prog.depth T = false) (b : Bool) (hr : ∀ w, (binOp .eql T (.agg xs) (.agg ys)).run Try.prog w = .ok (.bool b) w)
    (h : wpQuiet Try.prog ops C Q rest (a.put o.dst (.bool b))) : wpQuiet Try.prog ops C Q (o :: rest) a :=
  wpQuiet_step fun K hK => by
    rw [if_pos hgd]
    refine ⟨.bool b, fun w hw => ?_, hK _ h⟩
    unfold Oper.quietAt execOp
    simp only [ho, hx, hy, Sem.run_bind, Sem.run_pure, run_eqGuard_agg _ _ _ _ _ _ _ hm, Result.andThen_ok, hr]
    exact ⟨rfl, rfl⟩
set_option maxRecDepth 100000 in
set_option maxHeartbeats 1000000 in
theorem plain_c (k : Nat) (w : World) :
    Calls Try.prog 82 #[.int .i64 (k : Int)] w fun e w' => e = .returned (.agg (pgA ⟨k, 0, 0, 0, 0⟩)) ∧ Below w.heap.size w w' := by
  have HZ : Hid ((w.alloc (.cells #[.int .i64 0, .int .i64 0, .int .i64 0, .int .i64 0, .int .u64 0] 81)).heap[w.heap.size]? = some (.cells (pgA ⟨0, 0, 0, 0, 0⟩) 81 (0, 0))) := heap_new' _ _
  have HE := Lib.hid (below_box w (.cells #[.int .i64 0, .int .i64 0, .int .i64 0, .int .i64 0, .int .u64 0] 81))
  go_enter Try.func82, Try.ntmps82
  go_wp2_with (first
    | (refine wpList_store_row rfl 81 (.tmp 2) (.tmp 4) rfl w.heap.size (pgA ⟨k, 0, 0, 0, 0⟩) rfl rfl 81 _ HZ.out (by rw [page5]; rfl) rfl (pgA_one _) ?_)
    | fail)
  refine bodyPost_ret (results_cell_row rfl _ _ w.heap.size _ (pgA ⟨k, 0, 0, 0, 0⟩) (0, 0) _ rfl (setRow_heap _ _ _ _ _ _ HZ.out) Try.underlying81 rfl (by rw [page5]; rfl)) rfl ?_
  exact ⟨rfl, below_setRow HE.out (Nat.le_refl _) _⟩
set_option maxRecDepth 100000 in
set_option maxHeartbeats 1000000 in
theorem pgfree_c (p : Pg) (w : World) :
    Calls Try.prog 78 #[.agg (pgA p)] w fun e w' => e = .returned (.bool (freeP p)) ∧ Below w.heap.size w w' := by
  go_enter Try.func78, Try.ntmps78
  go_wp2
  obtain ⟨W, hW⟩ : ∃ W, W = w.alloc (.cells (pgA p) 81) := ⟨_, rfl⟩
  rw [← hW]
  have hWh : W.heap[w.heap.size]? = some (.cells (pgA p) 81 (0, 0)) := by rw [hW]; exact heap_new' _ _
  have hz : w.heap.size < W.heap.size := by rw [hW]; simp
  have hbW : Below w.heap.size w W := by rw [hW]; exact below_box _ _
  clear hW
  obtain ⟨S, f, hne, h1, h2⟩ := bclass W
  have HK : Hid (∀ s', (f s').heap[w.heap.size]? = some (.cells (pgA p) 81 (0, 0))) := fun s' => ((h1 s').block _ hz).trans hWh
  have H1 := Lib.hid h1
  have H2 := Lib.hid h2
  have HB := Lib.hid hbW
  have M1 : Hid (∀ x : S, Calls Try.prog 82 #[.int .i64 0] (f x) fun e w' => e = .returned (.agg (pgA ⟨0, 0, 0, 0, 0⟩)) ∧ ∃ s', w' = f s') := fun x => bcall h1 h2 (plain_c 0 _)
  clear h1 h2 hbW
  refine wp_region_quiet (C := fun w' => ∃ s, w' = f s) (by kernel_rfl) (by kernel_rfl) (H2.out _ (Below.refl _ _).drew) ?_
  simp only
  repeat first | (refine quiet_load_rowG rfl 81 (.tmp 1) rfl w.heap.size rfl 81 (pgA p) (0, 0) _ (by rintro _ ⟨x, rfl⟩; exact HK.out x) Try.underlying81 rfl (by rw [page5]; rfl) ?_; simp only [Act.put, List.setIfInBounds_toArray, List.set_cons_succ, List.set_cons_zero]) | (refine quiet_eql_agg rfl 81 _ (.tmp 3) (.tmp 4) rfl (pgA p) (pgA ⟨0, 0, 0, 0, 0⟩) rfl rfl (by kernel_rfl) (freeP p) (fun w => eql_pg p _ w) ?_; simp only [Act.put, List.setIfInBounds_toArray, List.set_cons_succ, List.set_cons_zero]) | go_big_quiet_step ((with_reducible first | exact M1.out _))
  refine wpQuiet_nil ?_
  rintro _ ⟨s0, rfl⟩
  have b0 := Lib.hid (HB.out.trans ((H1.out s0).mono (by omega)))
  clear HK H1 H2 HB M1 hWh
  go_wp2
  go_ret
  exact ⟨rfl, b0.out⟩
set_option maxRecDepth 100000 in
set_option maxHeartbeats 1000000 in
theorem pgtail_c (p : Pg) (w : World) :
    Calls Try.prog 73 #[.agg (pgA p)] w fun e w' => e = .returned (.bool (tailP p)) ∧ Below w.heap.size w w' := by
  go_enter Try.func73, Try.ntmps73
  go_wp2
  obtain ⟨W, hW⟩ : ∃ W, W = w.alloc (.cells (pgA p) 81) := ⟨_, rfl⟩
  rw [← hW]
  have hWh : W.heap[w.heap.size]? = some (.cells (pgA p) 81 (0, 0)) := by rw [hW]; exact heap_new' _ _
  have hz : w.heap.size < W.heap.size := by rw [hW]; simp
  have hbW : Below w.heap.size w W := by rw [hW]; exact below_box _ _
  clear hW
  obtain ⟨S, f, hne, h1, h2⟩ := bclass W
  have HK : Hid (∀ s', (f s').heap[w.heap.size]? = some (.cells (pgA p) 81 (0, 0))) := fun s' => ((h1 s').block _ hz).trans hWh
  have H1 := Lib.hid h1
  have H2 := Lib.hid h2
  have HB := Lib.hid hbW
  have M1 : Hid (∀ x : S, Calls Try.prog 82 #[.int .i64 3] (f x) fun e w' => e = .returned (.agg (pgA ⟨3, 0, 0, 0, 0⟩)) ∧ ∃ s', w' = f s') := fun x => bcall h1 h2 (plain_c 3 _)
  clear h1 h2 hbW
  refine wp_region_quiet (C := fun w' => ∃ s, w' = f s) (by kernel_rfl) (by kernel_rfl) (H2.out _ (Below.refl _ _).drew) ?_
  simp only
  repeat first | (refine quiet_load_rowG rfl 81 (.tmp 1) rfl w.heap.size rfl 81 (pgA p) (0, 0) _ (by rintro _ ⟨x, rfl⟩; exact HK.out x) Try.underlying81 rfl (by rw [page5]; rfl) ?_; simp only [Act.put, List.setIfInBounds_toArray, List.set_cons_succ, List.set_cons_zero]) | (refine quiet_eql_agg rfl 81 _ (.tmp 3) (.tmp 4) rfl (pgA p) (pgA ⟨3, 0, 0, 0, 0⟩) rfl rfl (by kernel_rfl) (tailP p) (fun w => eql_pg p _ w) ?_; simp only [Act.put, List.setIfInBounds_toArray, List.set_cons_succ, List.set_cons_zero]) | go_big_quiet_step ((with_reducible first | exact M1.out _))
  refine wpQuiet_nil ?_
  rintro _ ⟨s0, rfl⟩
  have b0 := Lib.hid (HB.out.trans ((H1.out s0).mono (by omega)))
  clear HK H1 H2 HB M1 hWh
  go_wp2
  go_ret
  exact ⟨rfl, b0.out⟩
set_option maxRecDepth 100000 in
set_option maxHeartbeats 1000000 in
theorem pages_c (n : Nat) (hn : n < 4611686018427387904) (w : World) :
    Calls Try.prog 83 #[.int .i64 (n : Int)] w fun e w' => e = .returned (if 120 < n ∧ n ≤ 4096 then .tuple #[.int .i64 (pagesOf n : Int), .bool true] else .tuple #[.int .i64 0, .bool false]) ∧ w = w' := by
  by_cases h1 : n ≤ 120
  · have d1 : decide ((n : Int) ≤ 120) = true := by simp; omega
    have i1 : (n : Int) ≤ 120 := by omega
    rw [if_neg (by omega)]
    clear h1
    go_enter Try.func83, Try.ntmps83
    go_wp2
    go_ret2
    exact ⟨rfl, rfl⟩
  · have d1 : decide ((n : Int) ≤ 120) = false := by simp; omega
    have i1 : ¬ (n : Int) ≤ 120 := by omega
    by_cases h2 : n ≤ 4096
    · have d2 : decide ((n : Int) > 4096) = false := by simp; omega
      have i2 : ¬ 4096 < (n : Int) := by omega
      rw [if_pos (by omega)]
      have e3 : ((n : Int) + 255) / 256 = (pagesOf n : Int) := by unfold pagesOf; omega
      have e1 : IntKind.i64.wrap ((n : Int) + 256) = (n : Int) + 256 := IntWalk.i64_in _ (by omega)
      have e2 : IntKind.i64.wrap ((n : Int) + 256 - 1) = (n : Int) + 255 := by rw [show (n : Int) + 256 - 1 = (n : Int) + 255 by omega]; exact IntWalk.i64_in _ (by omega)
      have e4 : IntKind.i64.wrap (((n : Int) + 255).tdiv 256) = (pagesOf n : Int) := by
        rw [← e3, Int.tdiv_eq_ediv_of_nonneg (by omega)]; exact IntWalk.i64_in _ (by omega)
      clear h1 h2 e3
      go_enter Try.func83, Try.ntmps83
      go_wp2
      go_ret2
      exact ⟨rfl, rfl⟩
    · have d2 : decide ((n : Int) > 4096) = true := by simp; omega
      have i2 : 4096 < (n : Int) := by omega
      rw [if_neg (by omega)]
      clear h1 h2
      go_enter Try.func83, Try.ntmps83
      go_wp2
      go_ret2
      exact ⟨rfl, rfl⟩
end Go.Proofs.Ytpbmjfjnmcpieaa
