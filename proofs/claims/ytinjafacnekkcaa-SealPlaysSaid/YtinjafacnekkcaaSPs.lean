/- Texts SpA, put together by pack.py. -/
import Derived.Test.YtinjafacnekkcaaSPj
import Derived.Test.YtinjafacnekkcaaSPq
import Derived.Shelf.SlSortCmp.SmallK
set_option linter.unusedVariables false
set_option linter.unusedSimpArgs false
namespace Go.Proofs.Ytinjafacnekkcaa
open Go Go.RowKit GfM
namespace Fre
variable {P : Program} {ops : Array Oper}
/-- worlds in which nothing that was there is another, and draws only go on -/
def Kd (a b : World) : Prop := Below a.heap.size a b ∧ a.drawn ≤ b.drawn
theorem Kd.refl (a : World) : Kd a a := ⟨Below.refl _ _, Nat.le_refl _⟩
theorem Kd.trans {a b c : World} (h : Kd a b) (k : Kd b c) : Kd a c := ⟨Below.trans h.1 (k.1.mono h.1.size), Nat.le_trans h.2 k.2⟩
theorem Kd.drew (a : World) : Kd a a.drew := ⟨Below.drew (Below.refl _ _), Nat.le_succ _⟩
theorem Kd.grown {a b : World} (h : Kd a b) : ∃ q os, b = Go.Sort.grow (a.drewN q) os := by
  obtain ⟨⟨h1, h2, h3, h4, h5⟩, h6⟩ := h
  refine ⟨b.drawn - a.drawn, b.heap.extract a.heap.size b.heap.size, ?_⟩
  have hh : a.heap ++ b.heap.extract a.heap.size b.heap.size = b.heap := by
    apply Array.ext_getElem?
    intro i
    by_cases hi : i < a.heap.size
    · rw [Array.getElem?_append_left hi]; exact (h5 i hi).symm
    · rw [Array.getElem?_append_right (by omega), Array.getElem?_extract]
      by_cases hb : i < b.heap.size
      · rw [if_pos (by omega)]; congr 1; omega
      · rw [if_neg (by omega), Array.getElem?_eq_none (by omega)]
  cases a; cases b
  simp only [Go.Sort.grow, World.drewN] at *
  subst h1 h2 h3
  congr 1
  · exact hh.symm
  · omega
/-- the law for regions that only make memory; the draws counted -/
theorem region_kd {id : Nat} {Q : Exit → Act → World → Prop} {a0 : Act} {w0 : World} (N : Nat) (hm : P.follows .mixedOrders = true) (hf : fit .any ops N = true) (hN : a0.tmps.size = N) (V : Nat → Value → World → Prop)
    (hst : ∀ j v w w', j < ops.size → V j v w → Kd w w' → V j v w') (hop : ∀ i, i < ops.size → StepB P ops a0 w0 V Kd i)
    (hQ : ∀ (vs : Nat → Value) w, (∀ j, j < ops.size → V j (vs j) w) → Kd w0 w → Q .normal ⟨finT ops vs a0.tmps ops.size, a0.defers⟩ w) : (Code.region id ops true).wp P Q a0 w0 :=
  region_free N hm hf hN V Kd Kd.refl (Kd.drew _) (fun _ _ _ h k => h.trans k) hst (fun i hi => (hop i hi).step) hQ
end Fre
theorem below_box1 (w : World) (o : Obj) : Below w.heap.size w (w.alloc o) := (Below.refl _ _).alloc (Nat.le_refl _) _
def cmpN (a b : Nat) : Int := if a < b then -1 else if b < a then 1 else 0
def cfN (x y : Nat × Nat) : Int := if cmpN x.1 y.1 ≠ 0 then cmpN x.1 y.1 else cmpN x.2 y.2
set_option maxRecDepth 100000 in
theorem isnan64_c (a : Nat) (w : World) : Calls Try.prog 55 #[.int .u64 (a : Int)] w fun e w' => e = .returned (.bool false) ∧ w' = w := by
  go_enter Try.func55, Try.ntmps55
  go_wp2
  go_ret
  exact ⟨by simp, rfl⟩
set_option maxRecDepth 100000 in
theorem cmp64_c (a b : Nat) (w : World) : Calls Try.prog 40 #[.int .u64 (a : Int), .int .u64 (b : Int)] w fun e w' => e = .returned (.int .i64 (cmpN a b)) ∧ w' = w := by
  unfold cmpN
  rcases Nat.lt_trichotomy a b with h | h | h
  · rw [if_pos h]
    have h1 : ((a : Int) < (b : Int)) := by omega
    go_enter Try.func40, Try.ntmps40
    go_wp2_with (first | (refine (isnan64_c _ _).mono ?_; rintro e w' ⟨rfl, rfl⟩) | fail)
    go_ret
    exact ⟨rfl, rfl⟩
  · subst h
    rw [if_neg (Nat.lt_irrefl _), if_neg (Nat.lt_irrefl _)]
    go_enter Try.func40, Try.ntmps40
    go_wp2_with (first | (refine (isnan64_c _ _).mono ?_; rintro e w' ⟨rfl, rfl⟩) | fail)
    go_ret
    exact ⟨rfl, rfl⟩
  · rw [if_neg (Nat.lt_asymm h), if_pos h]
    have h1 : ¬ ((a : Int) < (b : Int)) := by omega
    have h2 : ((b : Int) < (a : Int)) := by omega
    go_enter Try.func40, Try.ntmps40
    go_wp2_with (first | (refine (isnan64_c _ _).mono ?_; rintro e w' ⟨rfl, rfl⟩) | fail)
    go_ret
    exact ⟨rfl, rfl⟩
set_option maxRecDepth 100000 in
theorem isnanint_c (a : Nat) (w : World) : Calls Try.prog 56 #[.int .i64 (a : Int)] w fun e w' => e = .returned (.bool false) ∧ w' = w := by
  go_enter Try.func56, Try.ntmps56
  go_wp2
  go_ret
  exact ⟨by simp, rfl⟩
set_option maxRecDepth 100000 in
theorem cmpint_c (a b : Nat) (w : World) : Calls Try.prog 41 #[.int .i64 (a : Int), .int .i64 (b : Int)] w fun e w' => e = .returned (.int .i64 (cmpN a b)) ∧ w' = w := by
  unfold cmpN
  rcases Nat.lt_trichotomy a b with h | h | h
  · rw [if_pos h]
    have h1 : ((a : Int) < (b : Int)) := by omega
    go_enter Try.func41, Try.ntmps41
    go_wp2_with (first | (refine (isnanint_c _ _).mono ?_; rintro e w' ⟨rfl, rfl⟩) | fail)
    go_ret
    exact ⟨rfl, rfl⟩
  · subst h
    rw [if_neg (Nat.lt_irrefl _), if_neg (Nat.lt_irrefl _)]
    go_enter Try.func41, Try.ntmps41
    go_wp2_with (first | (refine (isnanint_c _ _).mono ?_; rintro e w' ⟨rfl, rfl⟩) | fail)
    go_ret
    exact ⟨rfl, rfl⟩
  · rw [if_neg (Nat.lt_asymm h), if_pos h]
    have h1 : ¬ ((a : Int) < (b : Int)) := by omega
    have h2 : ((b : Int) < (a : Int)) := by omega
    go_enter Try.func41, Try.ntmps41
    go_wp2_with (first | (refine (isnanint_c _ _).mono ?_; rintro e w' ⟨rfl, rfl⟩) | fail)
    go_ret
    exact ⟨rfl, rfl⟩
set_option maxRecDepth 100000 in
theorem or2_c (a b : Int) (g : Nat) (w : World) (hg : w.heap[g]? = some (.cells #[.int .i64 a, .int .i64 b] 3 (0, 0))) : Calls Try.prog 39 #[.slice (some ⟨g, 0, none⟩) 2 2] w fun e w' => e = .returned (.int .i64 (if a ≠ 0 then a else b)) ∧ w' = w := by
  have c0 : w.cell? ⟨g, 0, none⟩ = some (.int .i64 a) := (cells_at hg 0).trans rfl
  have c1 : w.cell? ⟨g, 1, none⟩ = some (.int .i64 b) := (cells_at hg 1).trans rfl
  clear hg
  by_cases ha : a = 0
  · subst ha
    by_cases hb : b = 0
    · subst hb
      go_enter Try.func39, Try.ntmps39
      go_wp2
      refine wp_loop_rounds 3 ?_
      rw [rounds_succ]
      go_wp2
      rw [rounds_succ]
      go_wp2
      rw [rounds_succ]
      go_wp2
      go_ret
      exact ⟨rfl, rfl⟩
    · go_enter Try.func39, Try.ntmps39
      go_wp2
      refine wp_loop_rounds 3 ?_
      rw [rounds_succ]
      go_wp2
      rw [rounds_succ]
      go_wp2
      go_ret
      exact ⟨rfl, rfl⟩
  · go_enter Try.func39, Try.ntmps39
    go_wp2
    refine wp_loop_rounds 3 ?_
    rw [rounds_succ]
    go_wp2
    go_ret
    exact ⟨rfl, rfl⟩
def opsCN : {o : Array Oper // some o = (Try.f23.body.bind (Fre.findR 1))} := ⟨_, rfl⟩
theorem fitCN : Fre.fit .any opsCN.1 17 = true := by kernel_rfl
theorem sizeCN : opsCN.1.size = 13 := by kernel_rfl
def VCN (x y : Nat × Nat) (p q : Nat) (i : Nat) (v : Value) (w : World) : Prop := match i with
  | 0 => v = .pointer (some ⟨p, 0, none⟩)
  | 1 => v = .int .u64 (x.1 : Int)
  | 2 => v = .pointer (some ⟨q, 0, none⟩)
  | 3 => v = .int .u64 (y.1 : Int)
  | 4 => v = .int .i64 (cmpN x.1 y.1)
  | 5 => v = .pointer (some ⟨p, 1, none⟩)
  | 6 => v = .int .i64 (x.2 : Int)
  | 7 => v = .pointer (some ⟨q, 1, none⟩)
  | 8 => v = .int .i64 (y.2 : Int)
  | 9 => v = .int .i64 (cmpN x.2 y.2)
  | 10 => ∃ g, v = .slice (some ⟨g, 0, none⟩) 2 2 ∧ w.heap[g]? = some (.cells #[.int .i64 (cmpN x.1 y.1), .int .i64 (cmpN x.2 y.2)] 3 (0, 0))
  | 11 => v = .int .i64 (cfN x y)
  | 12 => v = .int .i64 (cfN x y)
  | _ => True
set_option maxRecDepth 100000 in
theorem stCN_0 (x y : Nat × Nat) (p q : Nat) (a0 : Act) (g92 : a0.tmps.getD 2 undef = .pointer (some ⟨p, 0, none⟩)) (w0 : World) (hp : w0.heap[p]? = some (.cells #[.int .u64 (x.1 : Int), .int .i64 (x.2 : Int)] 42 (0, 0))) (hq : w0.heap[q]? = some (.cells #[.int .u64 (y.1 : Int), .int .i64 (y.2 : Int)] 42 (0, 0))) : Fre.StepB Try.prog opsCN.1 a0 w0 (VCN x y p q) Fre.Kd 0 := by
  intro E w hc hf hE hV hN hS o ho
  obtain rfl := Option.some.inj ho
  clear ho
  simp only [opsCN, List.getElem_toArray, List.getElem_cons_succ, List.getElem_cons_zero]
  have b2 : E (.tmp 2) = .pointer (some ⟨p, 0, none⟩) := (hE 2 (by kernel_rfl)).trans g92
  clear g92
  refine Fre.Does.value (v := .pointer (some ⟨p, 0, none⟩)) (w' := w) ?_ ⟨rfl, Fre.Kd.refl _⟩
  go_simp
set_option maxRecDepth 100000 in
theorem stCN_1 (x y : Nat × Nat) (p q : Nat) (a0 : Act)  (w0 : World) (hp : w0.heap[p]? = some (.cells #[.int .u64 (x.1 : Int), .int .i64 (x.2 : Int)] 42 (0, 0))) (hq : w0.heap[q]? = some (.cells #[.int .u64 (y.1 : Int), .int .i64 (y.2 : Int)] 42 (0, 0))) : Fre.StepB Try.prog opsCN.1 a0 w0 (VCN x y p q) Fre.Kd 1 := by
  intro E w hc hf hE hV hN hS o ho
  obtain rfl := Option.some.inj ho
  clear ho
  simp only [opsCN, List.getElem_toArray, List.getElem_cons_succ, List.getElem_cons_zero]
  have d0 := hV 0 5 (by kernel_rfl) (by kernel_rfl)
  have d0 : E (.tmp 5) = .pointer (some ⟨p, 0, none⟩) := d0
  have hlp := lt_of_block hp
  have hp1 := (hS.1.block p hlp).trans hp
  clear hp hq
  have c0 := cells_at hp1 0
  simp at c0
  refine Fre.Does.value (v := .int .u64 (x.1 : Int)) (w' := w) ?_ ⟨rfl, Fre.Kd.refl _⟩
  go_simp
set_option maxRecDepth 100000 in
theorem stCN_2 (x y : Nat × Nat) (p q : Nat) (a0 : Act) (g93 : a0.tmps.getD 3 undef = .pointer (some ⟨q, 0, none⟩)) (w0 : World) (hp : w0.heap[p]? = some (.cells #[.int .u64 (x.1 : Int), .int .i64 (x.2 : Int)] 42 (0, 0))) (hq : w0.heap[q]? = some (.cells #[.int .u64 (y.1 : Int), .int .i64 (y.2 : Int)] 42 (0, 0))) : Fre.StepB Try.prog opsCN.1 a0 w0 (VCN x y p q) Fre.Kd 2 := by
  intro E w hc hf hE hV hN hS o ho
  obtain rfl := Option.some.inj ho
  clear ho
  simp only [opsCN, List.getElem_toArray, List.getElem_cons_succ, List.getElem_cons_zero]
  have b3 : E (.tmp 3) = .pointer (some ⟨q, 0, none⟩) := (hE 3 (by kernel_rfl)).trans g93
  clear g93
  refine Fre.Does.value (v := .pointer (some ⟨q, 0, none⟩)) (w' := w) ?_ ⟨rfl, Fre.Kd.refl _⟩
  go_simp
set_option maxRecDepth 100000 in
theorem stCN_3 (x y : Nat × Nat) (p q : Nat) (a0 : Act)  (w0 : World) (hp : w0.heap[p]? = some (.cells #[.int .u64 (x.1 : Int), .int .i64 (x.2 : Int)] 42 (0, 0))) (hq : w0.heap[q]? = some (.cells #[.int .u64 (y.1 : Int), .int .i64 (y.2 : Int)] 42 (0, 0))) : Fre.StepB Try.prog opsCN.1 a0 w0 (VCN x y p q) Fre.Kd 3 := by
  intro E w hc hf hE hV hN hS o ho
  obtain rfl := Option.some.inj ho
  clear ho
  simp only [opsCN, List.getElem_toArray, List.getElem_cons_succ, List.getElem_cons_zero]
  have d2 := hV 2 7 (by kernel_rfl) (by kernel_rfl)
  have d2 : E (.tmp 7) = .pointer (some ⟨q, 0, none⟩) := d2
  have hlq := lt_of_block hq
  have hq1 := (hS.1.block q hlq).trans hq
  clear hp hq
  have c0 := cells_at hq1 0
  simp at c0
  refine Fre.Does.value (v := .int .u64 (y.1 : Int)) (w' := w) ?_ ⟨rfl, Fre.Kd.refl _⟩
  go_simp
set_option maxRecDepth 100000 in
theorem stCN_4 (x y : Nat × Nat) (p q : Nat) (a0 : Act)  (w0 : World) (hp : w0.heap[p]? = some (.cells #[.int .u64 (x.1 : Int), .int .i64 (x.2 : Int)] 42 (0, 0))) (hq : w0.heap[q]? = some (.cells #[.int .u64 (y.1 : Int), .int .i64 (y.2 : Int)] 42 (0, 0))) : Fre.StepB Try.prog opsCN.1 a0 w0 (VCN x y p q) Fre.Kd 4 := by
  intro E w hc hf hE hV hN hS o ho
  obtain rfl := Option.some.inj ho
  clear ho
  simp only [opsCN, List.getElem_toArray, List.getElem_cons_succ, List.getElem_cons_zero]
  have d1 := hV 1 6 (by kernel_rfl) (by kernel_rfl)
  have d1 : E (.tmp 6) = .int .u64 (x.1 : Int) := d1
  have d3 := hV 3 8 (by kernel_rfl) (by kernel_rfl)
  have d3 : E (.tmp 8) = .int .u64 (y.1 : Int) := d3
  refine Fre.Does.enter (f := 40) (args := #[.int .u64 (x.1 : Int), .int .u64 (y.1 : Int)]) (w' := w) ?_ ((cmp64_c x.1 y.1 w).mono ?_)
  · go_simp
  · rintro e w' ⟨rfl, rfl⟩; exact ⟨_, rfl, rfl, Fre.Kd.refl _⟩
set_option maxRecDepth 100000 in
theorem stCN_5 (x y : Nat × Nat) (p q : Nat) (a0 : Act) (g92 : a0.tmps.getD 2 undef = .pointer (some ⟨p, 0, none⟩)) (w0 : World) (hp : w0.heap[p]? = some (.cells #[.int .u64 (x.1 : Int), .int .i64 (x.2 : Int)] 42 (0, 0))) (hq : w0.heap[q]? = some (.cells #[.int .u64 (y.1 : Int), .int .i64 (y.2 : Int)] 42 (0, 0))) : Fre.StepB Try.prog opsCN.1 a0 w0 (VCN x y p q) Fre.Kd 5 := by
  intro E w hc hf hE hV hN hS o ho
  obtain rfl := Option.some.inj ho
  clear ho
  simp only [opsCN, List.getElem_toArray, List.getElem_cons_succ, List.getElem_cons_zero]
  have b2 : E (.tmp 2) = .pointer (some ⟨p, 0, none⟩) := (hE 2 (by kernel_rfl)).trans g92
  clear g92
  refine Fre.Does.value (v := .pointer (some ⟨p, 1, none⟩)) (w' := w) ?_ ⟨rfl, Fre.Kd.refl _⟩
  go_simp
set_option maxRecDepth 100000 in
theorem stCN_6 (x y : Nat × Nat) (p q : Nat) (a0 : Act)  (w0 : World) (hp : w0.heap[p]? = some (.cells #[.int .u64 (x.1 : Int), .int .i64 (x.2 : Int)] 42 (0, 0))) (hq : w0.heap[q]? = some (.cells #[.int .u64 (y.1 : Int), .int .i64 (y.2 : Int)] 42 (0, 0))) : Fre.StepB Try.prog opsCN.1 a0 w0 (VCN x y p q) Fre.Kd 6 := by
  intro E w hc hf hE hV hN hS o ho
  obtain rfl := Option.some.inj ho
  clear ho
  simp only [opsCN, List.getElem_toArray, List.getElem_cons_succ, List.getElem_cons_zero]
  have d5 := hV 5 10 (by kernel_rfl) (by kernel_rfl)
  have d5 : E (.tmp 10) = .pointer (some ⟨p, 1, none⟩) := d5
  have hlp := lt_of_block hp
  have hp1 := (hS.1.block p hlp).trans hp
  clear hp hq
  have c0 := cells_at hp1 1
  simp at c0
  refine Fre.Does.value (v := .int .i64 (x.2 : Int)) (w' := w) ?_ ⟨rfl, Fre.Kd.refl _⟩
  go_simp
set_option maxRecDepth 100000 in
theorem stCN_7 (x y : Nat × Nat) (p q : Nat) (a0 : Act) (g93 : a0.tmps.getD 3 undef = .pointer (some ⟨q, 0, none⟩)) (w0 : World) (hp : w0.heap[p]? = some (.cells #[.int .u64 (x.1 : Int), .int .i64 (x.2 : Int)] 42 (0, 0))) (hq : w0.heap[q]? = some (.cells #[.int .u64 (y.1 : Int), .int .i64 (y.2 : Int)] 42 (0, 0))) : Fre.StepB Try.prog opsCN.1 a0 w0 (VCN x y p q) Fre.Kd 7 := by
  intro E w hc hf hE hV hN hS o ho
  obtain rfl := Option.some.inj ho
  clear ho
  simp only [opsCN, List.getElem_toArray, List.getElem_cons_succ, List.getElem_cons_zero]
  have b3 : E (.tmp 3) = .pointer (some ⟨q, 0, none⟩) := (hE 3 (by kernel_rfl)).trans g93
  clear g93
  refine Fre.Does.value (v := .pointer (some ⟨q, 1, none⟩)) (w' := w) ?_ ⟨rfl, Fre.Kd.refl _⟩
  go_simp
set_option maxRecDepth 100000 in
theorem stCN_8 (x y : Nat × Nat) (p q : Nat) (a0 : Act)  (w0 : World) (hp : w0.heap[p]? = some (.cells #[.int .u64 (x.1 : Int), .int .i64 (x.2 : Int)] 42 (0, 0))) (hq : w0.heap[q]? = some (.cells #[.int .u64 (y.1 : Int), .int .i64 (y.2 : Int)] 42 (0, 0))) : Fre.StepB Try.prog opsCN.1 a0 w0 (VCN x y p q) Fre.Kd 8 := by
  intro E w hc hf hE hV hN hS o ho
  obtain rfl := Option.some.inj ho
  clear ho
  simp only [opsCN, List.getElem_toArray, List.getElem_cons_succ, List.getElem_cons_zero]
  have d7 := hV 7 12 (by kernel_rfl) (by kernel_rfl)
  have d7 : E (.tmp 12) = .pointer (some ⟨q, 1, none⟩) := d7
  have hlq := lt_of_block hq
  have hq1 := (hS.1.block q hlq).trans hq
  clear hp hq
  have c0 := cells_at hq1 1
  simp at c0
  refine Fre.Does.value (v := .int .i64 (y.2 : Int)) (w' := w) ?_ ⟨rfl, Fre.Kd.refl _⟩
  go_simp
set_option maxRecDepth 100000 in
theorem stCN_9 (x y : Nat × Nat) (p q : Nat) (a0 : Act)  (w0 : World) (hp : w0.heap[p]? = some (.cells #[.int .u64 (x.1 : Int), .int .i64 (x.2 : Int)] 42 (0, 0))) (hq : w0.heap[q]? = some (.cells #[.int .u64 (y.1 : Int), .int .i64 (y.2 : Int)] 42 (0, 0))) : Fre.StepB Try.prog opsCN.1 a0 w0 (VCN x y p q) Fre.Kd 9 := by
  intro E w hc hf hE hV hN hS o ho
  obtain rfl := Option.some.inj ho
  clear ho
  simp only [opsCN, List.getElem_toArray, List.getElem_cons_succ, List.getElem_cons_zero]
  have d6 := hV 6 11 (by kernel_rfl) (by kernel_rfl)
  have d6 : E (.tmp 11) = .int .i64 (x.2 : Int) := d6
  have d8 := hV 8 13 (by kernel_rfl) (by kernel_rfl)
  have d8 : E (.tmp 13) = .int .i64 (y.2 : Int) := d8
  refine Fre.Does.enter (f := 41) (args := #[.int .i64 (x.2 : Int), .int .i64 (y.2 : Int)]) (w' := w) ?_ ((cmpint_c x.2 y.2 w).mono ?_)
  · go_simp
  · rintro e w' ⟨rfl, rfl⟩; exact ⟨_, rfl, rfl, Fre.Kd.refl _⟩
set_option maxRecDepth 100000 in
theorem stCN_10 (x y : Nat × Nat) (p q : Nat) (a0 : Act)  (w0 : World) (hp : w0.heap[p]? = some (.cells #[.int .u64 (x.1 : Int), .int .i64 (x.2 : Int)] 42 (0, 0))) (hq : w0.heap[q]? = some (.cells #[.int .u64 (y.1 : Int), .int .i64 (y.2 : Int)] 42 (0, 0))) : Fre.StepB Try.prog opsCN.1 a0 w0 (VCN x y p q) Fre.Kd 10 := by
  intro E w hc hf hE hV hN hS o ho
  obtain rfl := Option.some.inj ho
  clear ho
  simp only [opsCN, List.getElem_toArray, List.getElem_cons_succ, List.getElem_cons_zero]
  have d4 := hV 4 9 (by kernel_rfl) (by kernel_rfl)
  have d4 : E (.tmp 9) = .int .i64 (cmpN x.1 y.1) := d4
  have d9 := hV 9 14 (by kernel_rfl) (by kernel_rfl)
  have d9 : E (.tmp 14) = .int .i64 (cmpN x.2 y.2) := d9
  refine Fre.Does.value (v := .slice (some ⟨w.heap.size, 0, none⟩) 2 2) (w' := w.alloc (.cells #[.int .i64 (cmpN x.1 y.1), .int .i64 (cmpN x.2 y.2)] 3)) ?_ ⟨⟨_, rfl, heap_new' _ _⟩, below_box1 _ _, Nat.le_refl _⟩
  generalize cmpN x.1 y.1 = r at *
  generalize cmpN x.2 y.2 = s at *
  go_simp
set_option maxRecDepth 100000 in
theorem stCN_11 (x y : Nat × Nat) (p q : Nat) (a0 : Act)  (w0 : World) (hp : w0.heap[p]? = some (.cells #[.int .u64 (x.1 : Int), .int .i64 (x.2 : Int)] 42 (0, 0))) (hq : w0.heap[q]? = some (.cells #[.int .u64 (y.1 : Int), .int .i64 (y.2 : Int)] 42 (0, 0))) : Fre.StepB Try.prog opsCN.1 a0 w0 (VCN x y p q) Fre.Kd 11 := by
  intro E w hc hf hE hV hN hS o ho
  obtain rfl := Option.some.inj ho
  clear ho
  simp only [opsCN, List.getElem_toArray, List.getElem_cons_succ, List.getElem_cons_zero]
  have d10 := hV 10 15 (by kernel_rfl) (by kernel_rfl)
  replace d10 : (fun v : Value => ∃ g, v = .slice (some ⟨g, 0, none⟩) 2 2 ∧ w.heap[g]? = some (.cells #[.int .i64 (cmpN x.1 y.1), .int .i64 (cmpN x.2 y.2)] 3 (0, 0))) (E (.tmp 15)) := d10
  simp only at d10
  obtain ⟨g, e, h2⟩ := d10
  refine Fre.Does.enter (f := 39) (args := #[.slice (some ⟨g, 0, none⟩) 2 2]) (w' := w) ?_ ((or2_c _ _ g w h2).mono ?_)
  · unfold execOp; simp only [e]; go_simp
  · rintro e w' ⟨rfl, rfl⟩; exact ⟨_, rfl, rfl, Fre.Kd.refl _⟩
set_option maxRecDepth 100000 in
theorem stCN_12 (x y : Nat × Nat) (p q : Nat) (a0 : Act)  (w0 : World) (hp : w0.heap[p]? = some (.cells #[.int .u64 (x.1 : Int), .int .i64 (x.2 : Int)] 42 (0, 0))) (hq : w0.heap[q]? = some (.cells #[.int .u64 (y.1 : Int), .int .i64 (y.2 : Int)] 42 (0, 0))) : Fre.StepB Try.prog opsCN.1 a0 w0 (VCN x y p q) Fre.Kd 12 := by
  intro E w hc hf hE hV hN hS o ho
  obtain rfl := Option.some.inj ho
  clear ho
  simp only [opsCN, List.getElem_toArray, List.getElem_cons_succ, List.getElem_cons_zero]
  have d11 := hV 11 16 (by kernel_rfl) (by kernel_rfl)
  have d11 : E (.tmp 16) = .int .i64 (cfN x y) := d11
  refine Fre.Does.value (v := .int .i64 (cfN x y)) (w' := w) ?_ ⟨rfl, Fre.Kd.refl _⟩
  go_simp
theorem kpCN (x y : Nat × Nat) (p q : Nat) : ∀ j v w w', j < opsCN.1.size → VCN x y p q j v w → Fre.Kd w w' → VCN x y p q j v w' := by
  intro j v w w' hj h hs
  rw [sizeCN] at hj
  have hc : j = 0 ∨ j = 1 ∨ j = 2 ∨ j = 3 ∨ j = 4 ∨ j = 5 ∨ j = 6 ∨ j = 7 ∨ j = 8 ∨ j = 9 ∨ j = 10 ∨ j = 11 ∨ j = 12 := by omega
  rcases hc with rfl | rfl | rfl | rfl | rfl | rfl | rfl | rfl | rfl | rfl | rfl | rfl | rfl
  · exact h
  · exact h
  · exact h
  · exact h
  · exact h
  · exact h
  · exact h
  · exact h
  · exact h
  · exact h
  · change ∃ g, v = .slice (some ⟨g, 0, none⟩) 2 2 ∧ w.heap[g]? = some (.cells #[.int .i64 (cmpN x.1 y.1), .int .i64 (cmpN x.2 y.2)] 3 (0, 0)) at h
    obtain ⟨g, h1, h2⟩ := h
    exact ⟨g, h1, (hs.1.block g (lt_of_block h2)).trans h2⟩
  · exact h
  · exact h
set_option maxRecDepth 100000 in
theorem finCN {u5 u6 u7 u8 u9 u10 u11 u12 u13 u14 u15 u16 : Value} (x y : Nat × Nat) (p q : Nat) (vs : Nat → Value) : Fre.finT opsCN.1 vs #[nonV x, nonV y, .pointer (some ⟨p, 0, none⟩), .pointer (some ⟨q, 0, none⟩), .int .i64 0, u5, u6, u7, u8, u9, u10, u11, u12, u13, u14, u15, u16] opsCN.1.size = #[nonV x, nonV y, .pointer (some ⟨p, 0, none⟩), .pointer (some ⟨q, 0, none⟩), vs 12, vs 0, vs 1, vs 2, vs 3, vs 4, vs 5, vs 6, vs 7, vs 8, vs 9, vs 10, vs 11] := by kernel_rfl
set_option maxRecDepth 100000 in
set_option maxHeartbeats 400000 in
theorem regionCN {u5 u6 u7 u8 u9 u10 u11 u12 u13 u14 u15 u16 : Value} (x y : Nat × Nat) (p q : Nat) (w0 : World) (hp : w0.heap[p]? = some (.cells #[.int .u64 (x.1 : Int), .int .i64 (x.2 : Int)] 42 (0, 0))) (hq : w0.heap[q]? = some (.cells #[.int .u64 (y.1 : Int), .int .i64 (y.2 : Int)] 42 (0, 0))) {QQ : Exit → Act → World → Prop} (hQ : ∀ (vs : Nat → Value) w, (∀ j, j < 13 → VCN x y p q j (vs j) w) → Fre.Kd w0 w → QQ .normal ⟨#[nonV x, nonV y, .pointer (some ⟨p, 0, none⟩), .pointer (some ⟨q, 0, none⟩), vs 12, vs 0, vs 1, vs 2, vs 3, vs 4, vs 5, vs 6, vs 7, vs 8, vs 9, vs 10, vs 11], []⟩ w) : (Code.region 1 opsCN.1 true).wp Try.prog QQ ⟨#[nonV x, nonV y, .pointer (some ⟨p, 0, none⟩), .pointer (some ⟨q, 0, none⟩), .int .i64 0, u5, u6, u7, u8, u9, u10, u11, u12, u13, u14, u15, u16], []⟩ w0 := by
  refine Fre.region_kd 17 (by kernel_rfl) fitCN rfl (VCN x y p q) (kpCN x y p q) (fun i hi => ?_) (fun vs w h1 h2 => ?_)
  case refine_2 =>
    have e9 := @finCN u5 u6 u7 u8 u9 u10 u11 u12 u13 u14 u15 u16 x y p q vs
    have h9 := hQ vs w (fun j hj => h1 j (by rw [sizeCN]; exact hj)) h2
    rw [← e9] at h9
    exact h9
  rw [sizeCN] at hi
  have hc : i = 0 ∨ i = 1 ∨ i = 2 ∨ i = 3 ∨ i = 4 ∨ i = 5 ∨ i = 6 ∨ i = 7 ∨ i = 8 ∨ i = 9 ∨ i = 10 ∨ i = 11 ∨ i = 12 := by omega
  rcases hc with rfl | rfl | rfl | rfl | rfl | rfl | rfl | rfl | rfl | rfl | rfl | rfl | rfl
  · exact stCN_0 x y p q _ rfl w0 hp hq
  · exact stCN_1 x y p q _  w0 hp hq
  · exact stCN_2 x y p q _ rfl w0 hp hq
  · exact stCN_3 x y p q _  w0 hp hq
  · exact stCN_4 x y p q _  w0 hp hq
  · exact stCN_5 x y p q _ rfl w0 hp hq
  · exact stCN_6 x y p q _  w0 hp hq
  · exact stCN_7 x y p q _ rfl w0 hp hq
  · exact stCN_8 x y p q _  w0 hp hq
  · exact stCN_9 x y p q _  w0 hp hq
  · exact stCN_10 x y p q _  w0 hp hq
  · exact stCN_11 x y p q _  w0 hp hq
  · exact stCN_12 x y p q _  w0 hp hq
set_option maxRecDepth 100000 in
theorem ncmp_c (x y : Nat × Nat) (W : World) : Calls Try.prog 23 #[nonV x, nonV y] W fun e w' => e = .returned (.int .i64 (cfN x y)) ∧ ∃ q os', w' = Go.Sort.grow (W.drewN q) os' := by
  have hp := heap_new' W (.cells #[.int .u64 (x.1 : Int), .int .i64 (x.2 : Int)] 42)
  have hp2 := (heap_old' (W.alloc (.cells #[.int .u64 (x.1 : Int), .int .i64 (x.2 : Int)] 42)) (.cells #[.int .u64 (y.1 : Int), .int .i64 (y.2 : Int)] 42) _ (lt_of_block hp)).trans hp
  have hq2 := heap_new' (W.alloc (.cells #[.int .u64 (x.1 : Int), .int .i64 (x.2 : Int)] 42)) (.cells #[.int .u64 (y.1 : Int), .int .i64 (y.2 : Int)] 42)
  have hk : Fre.Kd W ((W.alloc (.cells #[.int .u64 (x.1 : Int), .int .i64 (x.2 : Int)] 42)).alloc (.cells #[.int .u64 (y.1 : Int), .int .i64 (y.2 : Int)] 42)) :=
    ⟨((Below.refl _ _).alloc (Nat.le_refl _) _).alloc (by simp) _, Nat.le_refl _⟩
  rw [World.size_alloc] at hq2
  unfold nonV
  go_enter Try.func23, Try.ntmps23
  have HP := Lib.hid hp2
  have HQ := Lib.hid hq2
  have HK := Lib.hid hk
  clear hp hp2 hq2 hk
  go_wp2
  generalize hW2 : (World.alloc (World.alloc W _) _) = W2 at HP HQ HK ⊢
  clear hW2
  refine regionCN x y W.heap.size (W.heap.size + 1) W2 HP.out HQ.out ?_
  intro vs w1 hv hk1
  have v12 : vs 12 = .int .i64 (cfN x y) := hv 12 (by omega)
  have hk2 := (HK.out.trans hk1).grown
  clear hv hk1
  rw [v12]
  have HG := Lib.hid hk2
  clear hk2 v12
  go_wp2
  go_ret
  exact ⟨rfl, HG.out⟩
def encN (x : Nat × Nat) : List Value := [.int .u64 (x.1 : Int), .int .i64 (x.2 : Int)]
theorem cmpLaysN (blk off size : Nat) (w : World) : CmpLays Try.prog 23 #[] encN 2 cfN blk off size w :=
  fun _ _ _ _ x y => ncmp_c x y _
end Go.Proofs.Ytinjafacnekkcaa
