/- Texts NewB, put together by pack.py. -/
import Derived.Test.YtinjafacnekkcaaSPg
set_option linter.unusedVariables false
set_option linter.unusedSimpArgs false
namespace Go.Proofs.Ytinjafacnekkcaa
open Go Go.RowKit GfM
attribute [local go_sem] Oper.semAt_some
set_option maxRecDepth 100000 in
set_option maxHeartbeats 4000000 in
theorem new8_c (b gk o cap : Nat) (key : List Nat) (hkl : key.length = 32) (hkb : ∀ x ∈ key, x < 256) (hcap : 32 ≤ cap) (w : World) (hB : IsBox w b) (hg : gk < w.heap.size)
    (hk : ∀ j, j < 32 → w.cell? ⟨gk, o + j, none⟩ = some (.int .u8 ((key.getD j 0 : Nat) : Int))) :
    Calls Try.prog 10 #[.pointer (some ⟨b, 0, none⟩), .slice (some ⟨gk, o, none⟩) 32 cap] w fun e w' =>
      ∃ c g cp, e = .returned (.tuple #[.pointer (some ⟨c, 0, none⟩), .int .i64 0]) ∧ Cip w' c b g 60 cp 14 (sched 8 key 52) ∧ w.heap.size ≤ c ∧ w.heap.size ≤ g ∧ Below w.heap.size w w' := by
  have HKL := Lib.hid hkl
  have HKB := Lib.hid hkb
  have HB := Lib.hid hB
  have HK := Lib.hid hk
  clear hkl hkb hB hk
  refine (callsIn_wide (n := 5)).1 ?_
  refine callsIn_of_wp_marks Try.func10 rfl trivial ?_ rfl
  simp only [Try.ntmps10, List.size_toArray, List.length_cons, List.length_nil, Nat.reduceAdd, Nat.reduceSub, Array.replicate_succ, Array.replicate_zero, List.push_toArray, List.append_toArray, List.nil_append, List.cons_append]
  gi_wp2_with fail
  refine ⟨trivial, callsIn_wide.2 ((chunk_c _ _ _ _).mono ?_)⟩
  rintro e w1 ⟨rfl, rfl⟩
  gi_wp2
  obtain ⟨W0, hW0⟩ : ∃ W0, W0 = ((((w.alloc (Obj.cells #[.pointer (some ⟨b, 0, none⟩), .slice none 0 0, .int .i64 14] 78)).alloc (Obj.cells #[.pointer (some ⟨w.heap.size, 0, none⟩)] 47)).alloc (Obj.cells #[.slice (some ⟨gk, o, none⟩) 32 cap] 76)).alloc (Obj.cells #[.int .i64 4] 3)) := ⟨_, rfl⟩
  have z0 : W0.heap.size = w.heap.size + 4 := by rw [hW0]; simp
  have g0 : W0.heap[w.heap.size]? = some (.cells #[.pointer (some ⟨b, 0, none⟩), .slice none 0 0, .int .i64 14] 78 (0, 0)) := by
    rw [hW0, heap_old' _ _ _ (by simp <;> omega), heap_old' _ _ _ (by simp <;> omega), heap_old' _ _ _ (by simp), heap_new']
  have g1 : W0.heap[w.heap.size + 1]? = some (.cells #[.pointer (some ⟨w.heap.size, 0, none⟩)] 47 (0, 0)) := by
    rw [hW0, heap_old' _ _ _ (by simp <;> omega), heap_old' _ _ _ (by simp)]
    exact heap_new' (w.alloc _) _ |> fun h => by rw [World.size_alloc] at h; exact h
  have g2 : W0.cell? ⟨w.heap.size + 1 + 1, 0, none⟩ = some (.slice (some ⟨gk, o, none⟩) (4 * 8) cap) := by
    have h : W0.heap[w.heap.size + 1 + 1]? = some (.cells #[.slice (some ⟨gk, o, none⟩) 32 cap] 76 (0, 0)) := by
      rw [hW0, heap_old' _ _ _ (by simp)]
      exact heap_new' ((w.alloc _).alloc _) _ |> fun h => by rw [World.size_alloc, World.size_alloc] at h; exact h
    exact (cells_at h 0).trans rfl
  have g3 : W0.cell? ⟨w.heap.size + 1 + 1 + 1, 0, none⟩ = some (.int .i64 4) := by
    have h : W0.heap[w.heap.size + 1 + 1 + 1]? = some (.cells #[.int .i64 4] 3 (0, 0)) := by
      rw [hW0]
      exact heap_new' (((w.alloc _).alloc _).alloc _) _ |> fun h => by rw [World.size_alloc, World.size_alloc, World.size_alloc] at h; exact h
    exact (cells_at h 0).trans rfl
  have gb : Below w.heap.size w W0 := by rw [hW0]; exact ((((Below.refl _ _).alloc (Nat.le_refl _) _).alloc (by simp) _).alloc (by simp <;> omega) _).alloc (by simp <;> omega) _
  rw [← hW0]
  clear hW0
  have HI0 : Hid (NewI 8 b 14 w.heap.size (w.heap.size + 1) W0.heap.size key w [] W0) := ⟨⟨_, g0, rfl, .inl ⟨rfl, rfl⟩⟩, g1, gb, Nat.le_refl _⟩
  have HSEQ : Hid (SeqStopsK Fence.wide 4 Try.prog 42 #[.pointer (some ⟨w.heap.size + 1 + 1, 0, none⟩), .pointer (some ⟨w.heap.size + 1 + 1 + 1, 0, none⟩)] (fun x : Fin 8 => #[pcV gk o x.1]) (NewK w.heap.size W0.heap.size) (fun xs => xs = upF 8 8) (fun _ => True) 8 W0) :=
    chunk_stops 4 (w.heap.size + 1 + 1) (w.heap.size + 1 + 1 + 1) gk o cap 8 hcap (by omega) _ (fun A B h => ⟨newK_cell _ _ _ _ (by omega) (by omega) h, newK_cell _ _ _ _ (by omega) (by omega) h, h.1⟩) W0 (by omega) (by omega) g2 g3
  have HZ0 := Lib.hid z0
  clear g0 g1 g2 g3 gb z0
  refine wpIn_rangeFunc_ownF (α := Fin 8) rfl (by omega) (gf := 42) (lb := #[.pointer (some ⟨w.heap.size + 1 + 1, 0, none⟩), .pointer (some ⟨w.heap.size + 1 + 1 + 1, 0, none⟩)]) rfl trivial (enters_of Try.func42 (by kernel_rfl) rfl) HSEQ.out (fun h1 h2 => newK_t _ _ h1 h2)
    (fun W l o o' hl ho hc _ => ⟨by simp, fun k hk hkc => World.putObj_heap_other (by omega)⟩) (Below.refl _ _) (fun _ => rfl) (NewI 8 b 14 w.heap.size (w.heap.size + 1) W0.heap.size key w) (fun _ _ _ => False)
    (newI_own _ _ _ _ _ _ _ _ (by have := HZ0.out; omega)) (fun _ _ _ _ _ hs _ _ => hs) HI0.out
    (fun x => { tmps := #[.pointer (some ⟨b, 0, none⟩), .slice (some ⟨gk, o, none⟩) 32 cap, undef, undef, .pointer none, .int .i64 0, .int .i64 8, .pointer (some ⟨w.heap.size + 1, 0, none⟩), pcV gk o x.1, undef, .bool false, .pointer (some ⟨b, 0, none⟩), .bool false, .bool false, .slice (some ⟨gk, o, none⟩) 32 cap, .int .i64 32, .bool true, .bool true, .slice (some ⟨gk, o, none⟩) 32 cap, .int .i64 32, .bool false, .bool false, .slice (some ⟨gk, o, none⟩) 32 cap, .int .i64 32, .int .i64 8, .pointer (some ⟨b, 0, none⟩), .int .i64 8, .int .i64 14, .agg #[.pointer (some ⟨b, 0, none⟩), .slice none 0 0, .int .i64 14], .pointer (some ⟨w.heap.size, 0, none⟩), .slice (some ⟨gk, o, none⟩) 32 cap, .func (.func 42) #[] #[.pointer (some ⟨w.heap.size + 1 + 1, 0, none⟩), .pointer (some ⟨w.heap.size + 1 + 1 + 1, 0, none⟩)], pcV gk o x.1, undef, undef, undef, undef, undef, undef, undef, undef, undef, undef, undef, undef, undef, undef, undef, undef, undef, undef, undef, undef, undef, undef, undef, undef, undef, undef, undef, undef, undef, undef, undef, undef, undef, undef, undef, undef, undef, undef, undef, undef, undef, undef, undef, undef, undef, undef, undef], defers := [] }) ?assign ?body ?done ?stop
  case assign =>
    intro l x W K hK
    gi_wp2
    exact hK
  case stop =>
    rintro D c pre W _ _ h _
    exact h.elim
  case done =>
    rintro D xs W hD rfl ⟨⟨v, i1, i2⟩, i3, i4, i5⟩ hDD
    clear HI0 HSEQ
    have hkey : contL 8 key (upF 8 8) = key := contL_all8 key HKL.out
    rw [hkey, show (upF 8 8).length = 8 from by rw [upF_len _ _ (Nat.le_refl _)]] at i2
    have HROW : Hid (RowI b 14 w.heap.size (w.heap.size + 1) W0.heap.size (sched 8 key 0) 8 w W) := ⟨⟨v, i1, i2⟩, i3, i4, i5⟩
    have HDD := Lib.hid hDD
    have c7 := (cells_at i3 0).trans rfl
    clear i1 i2 i3 i4 i5 hkey hDD
    have HRB : Hid (∀ k, ∀ x ∈ sched 8 key k, x < 256) := sched_lt_of 8 key (by omega) HKL.out HKB.out
    have HRL : Hid (∀ k, (sched 8 key k).length = 4 * (8 + k)) := sched_len 8 key (by rw [HKL.out])
    gi_wp2
    gi_loopw [9] (fun vi wr => ∃ k : Nat, k ≤ 52 ∧ vi = .int .i64 ((8 + k : Nat) : Int) ∧ Hid (RowI b 14 w.heap.size (w.heap.size + 1) W0.heap.size (sched 8 key k) (8 + k) w wr) ∧ Hid (wr.heap[D]? = some (.deferred (some [])))) (fun vi _ => 60 - (intOf vi).toNat)
    case atStart => exact ⟨0, by omega, rfl, HROW.out, HDD.out⟩
    case round =>
      clear HROW HDD c7
      obtain ⟨k, hk, rfl, hrow, hDk⟩ := hrel
      obtain ⟨⟨v, j1, j2⟩, j3, j4, j5⟩ := hrow.out
      obtain ⟨g, cp, rfl, hC, hgb, hmc⟩ := row_cip (by omega) (HRL.out k) (HRB.out k) j1 j2 (HB.out.later j4 HB.out.lt)
      have c7 := (cells_at j3 0).trans rfl
      have c8 := hC.c2
      obtain ⟨m, hm⟩ : ∃ m, m = 8 + k := ⟨_, rfl⟩
      rw [← hm] at hC hmc j2 j1
      rw [← hm]
      by_cases hlt : k < 52
      · have hd2 : (m : Int) < 60 := by omega
        have hd : decide ((m : Int) < 60) = true := by simp; omega
        have HM := Lib.hid hm
        have HC := Lib.hid hC
        have J1 := Lib.hid j1
        have J2 := Lib.hid j2
        have J3 := Lib.hid j3
        have J4 := Lib.hid j4
        have J5 := Lib.hid j5
        have HGB := Lib.hid hgb
        have HMC := Lib.hid hmc
        clear hm hC j1 j2 j3 j4 j5 hgb hmc hrow
        have e1 : IntKind.i64.wrap ((m : Int) - 8) = (k : Int) := by have := HM.out; rw [IntWalk.i64_in _ (by omega)]; omega
        have k0 : (0 : Int) ≤ (k : Int) := by omega
        have k1 : (k : Int) < (m : Int) := by have := HM.out; omega
        gi_wp2
        have HST : Hid (∀ w', Below wr.heap.size wr w' → w'.cell? ⟨w.heap.size + 1, 0, none⟩ = some (.pointer (some ⟨w.heap.size, 0, none⟩)) ∧ w'.cell? ⟨w.heap.size, 1, none⟩ = some (.slice (some ⟨g, 0, none⟩) m cp)) := fun w' h =>
          ⟨(cells_at ((h.block _ (lt_of_block J3.out)).trans J3.out) 0).trans rfl, (HC.out.up h (Nat.le_refl _)).c1⟩
        refine wpIn_wide.2 (wp_region_noPanic ?_)
        refine wp_region_T (S := fun w' => w'.cell? ⟨w.heap.size + 1, 0, none⟩ = some (.pointer (some ⟨w.heap.size, 0, none⟩)) ∧ w'.cell? ⟨w.heap.size, 1, none⟩ = some (.slice (some ⟨g, 0, none⟩) m cp)) (z := 23) (by kernel_rfl) ?_
        have hb0 : Below wr.heap.size wr wr.drew := (Below.refl _ _).drew
        have hS := HST.out _ hb0
        change wpAnyT _ _ _ _ _ _ 24 #[false, false, false, false, false, false, false, false, false, false, false, false, false, false, false, false, false, false, false, false, false, false, false, false] _ _
        refine wpAnyT_take (i := 0) (v := ?_) rfl (by kernel_rfl) (by kernel_rfl) (by kernel_rfl) (by kernel_rfl) (fun _ _ _ h => h) (Or.inl ⟨by rfl, ?hy⟩) hS ?_
        case hy => intro w' hSw; obtain ⟨hw1, hw2⟩ := hSw; go_simp; try with_reducible rfl
        simp only [List.getElem_toArray, List.getElem_cons_succ, List.getElem_cons_zero, Act.put, List.setIfInBounds_toArray, List.set_cons_zero, List.set_cons_succ]
        change wpAnyT _ _ _ _ _ _ 23 #[true, false, false, false, false, false, false, false, false, false, false, false, false, false, false, false, false, false, false, false, false, false, false, false] _ _
        refine wpAnyT_take (i := 1) (v := ?_) rfl (by kernel_rfl) (by kernel_rfl) (by kernel_rfl) (by kernel_rfl) (fun _ _ _ h => h) (Or.inl ⟨by rfl, ?hy⟩) hS ?_
        case hy => intro w' hSw; obtain ⟨hw1, hw2⟩ := hSw; go_simp; try with_reducible rfl
        simp only [List.getElem_toArray, List.getElem_cons_succ, List.getElem_cons_zero, Act.put, List.setIfInBounds_toArray, List.set_cons_zero, List.set_cons_succ]
        change wpAnyT _ _ _ _ _ _ 22 #[true, true, false, false, false, false, false, false, false, false, false, false, false, false, false, false, false, false, false, false, false, false, false, false] _ _
        refine wpAnyT_take (i := 2) (v := ?_) rfl (by kernel_rfl) (by kernel_rfl) (by kernel_rfl) (by kernel_rfl) (fun _ _ _ h => h) (Or.inl ⟨by rfl, ?hy⟩) hS ?_
        case hy => intro w' hSw; obtain ⟨hw1, hw2⟩ := hSw; go_simp; try with_reducible rfl
        simp only [List.getElem_toArray, List.getElem_cons_succ, List.getElem_cons_zero, Act.put, List.setIfInBounds_toArray, List.set_cons_zero, List.set_cons_succ]
        change wpAnyT _ _ _ _ _ _ 21 #[true, true, true, false, false, false, false, false, false, false, false, false, false, false, false, false, false, false, false, false, false, false, false, false] _ _
        refine wpAnyT_take (i := 3) (v := ?_) rfl (by kernel_rfl) (by kernel_rfl) (by kernel_rfl) (by kernel_rfl) (fun _ _ _ h => h) (Or.inl ⟨by rfl, ?hy⟩) hS ?_
        case hy => intro w' hSw; obtain ⟨hw1, hw2⟩ := hSw; go_simp; try with_reducible rfl
        simp only [List.getElem_toArray, List.getElem_cons_succ, List.getElem_cons_zero, Act.put, List.setIfInBounds_toArray, List.set_cons_zero, List.set_cons_succ]
        change wpAnyT _ _ _ _ _ _ 20 #[true, true, true, true, false, false, false, false, false, false, false, false, false, false, false, false, false, false, false, false, false, false, false, false] _ _
        refine wpAnyT_take (i := 4) (v := ?_) rfl (by kernel_rfl) (by kernel_rfl) (by kernel_rfl) (by kernel_rfl) (fun _ _ _ h => h) (Or.inl ⟨by rfl, ?hy⟩) hS ?_
        case hy => intro w' hSw; obtain ⟨hw1, hw2⟩ := hSw; go_simp; try with_reducible rfl
        simp only [List.getElem_toArray, List.getElem_cons_succ, List.getElem_cons_zero, Act.put, List.setIfInBounds_toArray, List.set_cons_zero, List.set_cons_succ]
        change wpAnyT _ _ _ _ _ _ 19 #[true, true, true, true, true, false, false, false, false, false, false, false, false, false, false, false, false, false, false, false, false, false, false, false] _ _
        refine wpAnyT_take (i := 5) (v := ?_) rfl (by kernel_rfl) (by kernel_rfl) (by kernel_rfl) (by kernel_rfl) (fun _ _ _ h => h) (Or.inl ⟨by rfl, ?hy⟩) hS ?_
        case hy => intro w' hSw; obtain ⟨hw1, hw2⟩ := hSw; go_simp; try with_reducible rfl
        simp only [List.getElem_toArray, List.getElem_cons_succ, List.getElem_cons_zero, Act.put, List.setIfInBounds_toArray, List.set_cons_zero, List.set_cons_succ]
        change wpAnyT _ _ _ _ _ _ 18 #[true, true, true, true, true, true, false, false, false, false, false, false, false, false, false, false, false, false, false, false, false, false, false, false] _ _
        refine wpAnyT_take (i := 6) (v := ?_) rfl (by kernel_rfl) (by kernel_rfl) (by kernel_rfl) (by kernel_rfl) (fun _ _ _ h => h) (Or.inl ⟨by rfl, ?hy⟩) hS ?_
        case hy => intro w' hSw; obtain ⟨hw1, hw2⟩ := hSw; go_simp; try with_reducible rfl
        simp only [List.getElem_toArray, List.getElem_cons_succ, List.getElem_cons_zero, Act.put, List.setIfInBounds_toArray, List.set_cons_zero, List.set_cons_succ]
        change wpAnyT _ _ _ _ _ _ 17 #[true, true, true, true, true, true, true, false, false, false, false, false, false, false, false, false, false, false, false, false, false, false, false, false] _ _
        refine wpAnyT_take (i := 7) (v := ?_) rfl (by kernel_rfl) (by kernel_rfl) (by kernel_rfl) (by kernel_rfl) (fun _ _ _ h => h) (Or.inl ⟨by rfl, ?hy⟩) hS ?_
        case hy => intro w' hSw; obtain ⟨hw1, hw2⟩ := hSw; go_simp; try with_reducible rfl
        simp only [List.getElem_toArray, List.getElem_cons_succ, List.getElem_cons_zero, Act.put, List.setIfInBounds_toArray, List.set_cons_zero, List.set_cons_succ]
        change wpAnyT _ _ _ _ _ _ 16 #[true, true, true, true, true, true, true, true, false, false, false, false, false, false, false, false, false, false, false, false, false, false, false, false] _ _
        refine wpAnyT_take (i := 8) (v := ?_) rfl (by kernel_rfl) (by kernel_rfl) (by kernel_rfl) (by kernel_rfl) (fun _ _ _ h => h) (Or.inl ⟨by rfl, ?hy⟩) hS ?_
        case hy => intro w' hSw; obtain ⟨hw1, hw2⟩ := hSw; go_simp; try with_reducible rfl
        simp only [List.getElem_toArray, List.getElem_cons_succ, List.getElem_cons_zero, Act.put, List.setIfInBounds_toArray, List.set_cons_zero, List.set_cons_succ]
        change wpAnyT _ _ _ _ _ _ 15 #[true, true, true, true, true, true, true, true, true, false, false, false, false, false, false, false, false, false, false, false, false, false, false, false] _ _
        refine wpAnyT_take (i := 9) (v := ?_) rfl (by kernel_rfl) (by kernel_rfl) (by kernel_rfl) (by kernel_rfl) (fun _ _ _ h => h) (Or.inl ⟨by rfl, ?hy⟩) hS ?_
        case hy => intro w' hSw; obtain ⟨hw1, hw2⟩ := hSw; go_simp; try with_reducible rfl
        simp only [List.getElem_toArray, List.getElem_cons_succ, List.getElem_cons_zero, Act.put, List.setIfInBounds_toArray, List.set_cons_zero, List.set_cons_succ]
        change wpAnyT _ _ _ _ _ _ 14 #[true, true, true, true, true, true, true, true, true, true, false, false, false, false, false, false, false, false, false, false, false, false, false, false] _ _
        refine wpAnyT_take (i := 10) (v := ?_) rfl (by kernel_rfl) (by kernel_rfl) (by kernel_rfl) (by kernel_rfl) (fun _ _ _ h => h) (Or.inl ⟨by rfl, ?hy⟩) hS ?_
        case hy => intro w' hSw; obtain ⟨hw1, hw2⟩ := hSw; go_simp; try with_reducible rfl
        simp only [List.getElem_toArray, List.getElem_cons_succ, List.getElem_cons_zero, Act.put, List.setIfInBounds_toArray, List.set_cons_zero, List.set_cons_succ]
        change wpAnyT _ _ _ _ _ _ 13 #[true, true, true, true, true, true, true, true, true, true, true, false, false, false, false, false, false, false, false, false, false, false, false, false] _ _
        refine wpAnyT_take (i := 11) (v := ?_) rfl (by kernel_rfl) (by kernel_rfl) (by kernel_rfl) (by kernel_rfl) (fun _ _ _ h => h) (Or.inl ⟨by rfl, ?hy⟩) hS ?_
        case hy => intro w' hSw; obtain ⟨hw1, hw2⟩ := hSw; go_simp; try with_reducible rfl
        simp only [List.getElem_toArray, List.getElem_cons_succ, List.getElem_cons_zero, Act.put, List.setIfInBounds_toArray, List.set_cons_zero, List.set_cons_succ]
        change wpAnyT _ _ _ _ _ _ 12 #[true, true, true, true, true, true, true, true, true, true, true, true, false, false, false, false, false, false, false, false, false, false, false, false] _ _
        refine wpAnyT_take (i := 12) (v := ?_) rfl (by kernel_rfl) (by kernel_rfl) (by kernel_rfl) (by kernel_rfl) (fun _ _ _ h => h) (Or.inl ⟨by rfl, ?hy⟩) hS ?_
        case hy => intro w' hSw; obtain ⟨hw1, hw2⟩ := hSw; go_simp; try with_reducible rfl
        simp only [List.getElem_toArray, List.getElem_cons_succ, List.getElem_cons_zero, Act.put, List.setIfInBounds_toArray, List.set_cons_zero, List.set_cons_succ]
        change wpAnyT _ _ _ _ _ _ 11 #[true, true, true, true, true, true, true, true, true, true, true, true, true, false, false, false, false, false, false, false, false, false, false, false] _ _
        refine wpAnyT_take (i := 14) (v := ?_) rfl (by kernel_rfl) (by kernel_rfl) (by kernel_rfl) (by kernel_rfl) (fun _ _ _ h => h) (Or.inl ⟨by rfl, ?hy⟩) hS ?_
        case hy => intro w' hSw; obtain ⟨hw1, hw2⟩ := hSw; go_simp; try with_reducible rfl
        simp only [List.getElem_toArray, List.getElem_cons_succ, List.getElem_cons_zero, Act.put, List.setIfInBounds_toArray, List.set_cons_zero, List.set_cons_succ]
        change wpAnyT _ _ _ _ _ _ 10 #[true, true, true, true, true, true, true, true, true, true, true, true, true, false, true, false, false, false, false, false, false, false, false, false] _ _
        refine wpAnyT_take (i := 15) (v := ?_) rfl (by kernel_rfl) (by kernel_rfl) (by kernel_rfl) (by kernel_rfl) (fun _ _ _ h => h) (Or.inl ⟨by rfl, ?hy⟩) hS ?_
        case hy => intro w' hSw; obtain ⟨hw1, hw2⟩ := hSw; go_simp; try with_reducible rfl
        simp only [List.getElem_toArray, List.getElem_cons_succ, List.getElem_cons_zero, Act.put, List.setIfInBounds_toArray, List.set_cons_zero, List.set_cons_succ]
        change wpAnyT _ _ _ _ _ _ 9 #[true, true, true, true, true, true, true, true, true, true, true, true, true, false, true, true, false, false, false, false, false, false, false, false] _ _
        refine wpAnyT_take (i := 16) (v := ?_) rfl (by kernel_rfl) (by kernel_rfl) (by kernel_rfl) (by kernel_rfl) (fun _ _ _ h => h) (Or.inl ⟨by rfl, ?hy⟩) hS ?_
        case hy => intro w' hSw; obtain ⟨hw1, hw2⟩ := hSw; go_simp; try with_reducible rfl
        simp only [List.getElem_toArray, List.getElem_cons_succ, List.getElem_cons_zero, Act.put, List.setIfInBounds_toArray, List.set_cons_zero, List.set_cons_succ]
        change wpAnyT _ _ _ _ _ _ 8 #[true, true, true, true, true, true, true, true, true, true, true, true, true, false, true, true, true, false, false, false, false, false, false, false] _ _
        refine wpAnyT_ready (rs := [13, 17]) (by kernel_rfl) (by simp) ?_
        obtain ⟨i0, hi, hz0, hz1, hz2⟩ := info_parts info4
        have HBK : Hid (∀ j, j < 4 → colOf (sched 8 key k) k j < 256) := col_lt HC.out k (by omega)
        have HBN : Hid (∀ j, j < 4 → (nextN 8 m (colOf (sched 8 key k) (m - 1))) j < 256) := nextN_lt 8 m _ (col_lt HC.out (m - 1) (by omega))
        refine AllReadyT.cons rfl (fun K hK => ?_) ?_
        · skip
          rw [if_pos (by rfl)]
          have hr := range_word (HC.out.up hb0 (Nat.le_refl _)) k (by omega)
          rw [Nat.mul_comm] at hr
          refine wp_load_mid 61 (.tmp 68) rfl g (k * 4) rfl (v4 (colOf (sched 8 key k) k)).toList _ hr Try.underlying61 rfl (by rw [four4]; simp [v4]) ?_
          have hS1 := hS
          refine hK.out _ _ (fun _ => hS1) ?_
          clear hK K
          simp only [List.getElem_toArray, List.getElem_cons_succ, List.getElem_cons_zero, Act.put, List.setIfInBounds_toArray, List.set_cons_zero, List.set_cons_succ]
          change wpAnyT _ _ _ _ _ _ 7 #[true, true, true, true, true, true, true, true, true, true, true, true, true, true, true, true, true, false, false, false, false, false, false, false] _ _
          refine wpAnyT_ready (rs := [17]) (by kernel_rfl) (by simp) ?_
          refine AllReadyT.cons rfl (fun K hK => ?_) AllReadyT.nil
          rw [if_pos (by rfl)]
          go_simp
          refine (next8_c w.heap.size b g m cp 14 (sched 8 key k) (by have := HM.out; omega) (by have := HM.out; omega) _ (HC.out.up hb0 (Nat.le_refl _))).mono ?_
          rintro e w1 ⟨rfl, hx1⟩
          have hb1 := hb0.trans (hx1.mono hb0.size)
          have hS2 := HST.out _ hb1
          refine hK.out _ _ (fun _ => hS2) ?_
          clear hK K
          simp only [List.getElem_toArray, List.getElem_cons_succ, List.getElem_cons_zero, Act.put, List.setIfInBounds_toArray, List.set_cons_zero, List.set_cons_succ]
          change wpAnyT _ _ _ _ _ _ 6 #[true, true, true, true, true, true, true, true, true, true, true, true, true, true, true, true, true, true, false, false, false, false, false, false] _ _
          refine wpAnyT_ready (rs := [18]) (by kernel_rfl) (by simp) ?_
          refine AllReadyT.cons rfl (fun K hK => ?_) AllReadyT.nil
          rw [if_pos (by rfl)]
          go_simp
          refine (xor_c (colOf (sched 8 key k) k) (nextN 8 m (colOf (sched 8 key k) (m - 1))) HBK.out HBN.out _).mono ?_
          rintro e w2 ⟨rfl, hx2⟩
          have hb2 := hb1.trans (hx2.mono hb1.size)
          have hS3 := HST.out _ hb2
          refine hK.out _ _ (fun _ => hS3) ?_
          clear hK K
          simp only [List.getElem_toArray, List.getElem_cons_succ, List.getElem_cons_zero, Act.put, List.setIfInBounds_toArray, List.set_cons_zero, List.set_cons_succ]
          change wpAnyT _ _ _ _ _ _ 5 #[true, true, true, true, true, true, true, true, true, true, true, true, true, true, true, true, true, true, true, false, false, false, false, false] _ _
          refine wpAnyT_ready (rs := [19]) (by kernel_rfl) (by simp) ?_
          refine AllReadyT.cons rfl (fun K hK => ?_) AllReadyT.nil
          rw [if_pos (by rfl)]
          go_simp
          have hb3 : Below wr.heap.size wr (w2.alloc (.cells (v4 (xorN (colOf (sched 8 key k) k) (nextN 8 m (colOf (sched 8 key k) (m - 1))))) 61)) := hb2.alloc hb2.size _
          have hS4 := HST.out _ hb3
          refine hK.out _ (w2.alloc (.cells (v4 (xorN (colOf (sched 8 key k) k) (nextN 8 m (colOf (sched 8 key k) (m - 1))))) 61)) (fun _ => hS4) ?_
          clear hK K
          simp only [List.getElem_toArray, List.getElem_cons_succ, List.getElem_cons_zero, Act.put, List.setIfInBounds_toArray, List.set_cons_zero, List.set_cons_succ]
          change wpAnyT _ _ _ _ _ _ 4 #[true, true, true, true, true, true, true, true, true, true, true, true, true, true, true, true, true, true, true, true, false, false, false, false] _ _
          refine wpAnyT_ready (rs := [20]) (by kernel_rfl) (by simp) ?_
          refine AllReadyT.cons rfl (fun K hK => ?_) AllReadyT.nil
          have hrow2 : w2.ownsRow W0.heap.size 61 4 (.slice (some ⟨g, 0, none⟩) m cp) m (u8L (sched 8 key k)) := row_below J2.out hb2
          have hown := World.ownsRow.alloc hrow2 (.cells (v4 (xorN (colOf (sched 8 key k) k) (nextN 8 m (colOf (sched 8 key k) (m - 1))))) 61)
          have hnew := heap_new' w2 (.cells (v4 (xorN (colOf (sched 8 key k) k) (nextN 8 m (colOf (sched 8 key k) (m - 1))))) 61)
          refine step_append_lies _ (by rfl) (.tmp 60) (.tmp 75) 55 (by rfl) W0.heap.size 61 i0 _ 4 4 Try.underlying55 hi hz0 hz1 hz2 rfl (by omega) (.slice (some ⟨g, 0, none⟩) m cp) m (u8L (sched 8 key k)) (by rfl) hown ⟨w2.heap.size, 0, none⟩ 1 1 (v4 (xorN (colOf (sched 8 key k) k) (nextN 8 m (colOf (sched 8 key k) (m - 1))))).toList (by rfl) (by simp [v4]) (World.news_of_block hnew) (v4_all _) (by omega) (by have := HM.out; unfold maxLen; omega) (by have := HM.out; omega) (by have := hb3.size; have := J5.out; omega) _ rfl ?_
          intro g2 cp2 w3 hown3 hgrow3 hat hlt3
          have FIN := rowI_step b 14 w.heap.size (w.heap.size + 1) W0.heap.size (sched 8 key k) m w wr _ w2 w3 g2 cp2 (xorN (colOf (sched 8 key k) k) (nextN 8 m (colOf (sched 8 key k) (m - 1)))) J1.out J2.out J3.out J4.out J5.out (by have := HZ0.out; omega) (by have := HZ0.out; omega) (by have := HZ0.out; omega) (by omega) (Nat.le_refl _) hb2 _ hgrow3 hown3
          have hlow : ∀ q, q < W0.heap.size → w3.heap[q]? = wr.heap[q]? := fun q hq => (hgrow3.block q (by rw [World.size_alloc]; have := hb2.size; have := J5.out; omega) (fun e => by have := own_ge J2.out q e.symm; omega)).trans (hb3.block q (by have := J5.out; omega))
          have hc3 := (hlow w.heap.size (by have := HZ0.out; omega)).trans J1.out
          have hS5 := (⟨(cells_at ((hlow _ (by have := HZ0.out; omega)).trans J3.out) 0).trans rfl, (cells_at hc3 1).trans rfl⟩ : w3.cell? ⟨w.heap.size + 1, 0, none⟩ = some (.pointer (some ⟨w.heap.size, 0, none⟩)) ∧ w3.cell? ⟨w.heap.size, 1, none⟩ = some (.slice (some ⟨g, 0, none⟩) m cp))
          refine hK.out _ _ (fun _ => hS5) ?_
          clear hK K
          simp only [List.getElem_toArray, List.getElem_cons_succ, List.getElem_cons_zero, Act.put, List.setIfInBounds_toArray, List.set_cons_zero, List.set_cons_succ]
          change wpAnyT _ _ _ _ _ _ 3 #[true, true, true, true, true, true, true, true, true, true, true, true, true, true, true, true, true, true, true, true, true, false, false, false] _ _
          refine wpAnyT_ready (rs := [21]) (by kernel_rfl) (by simp) ?_
          refine AllReadyT.cons rfl (fun K hK => ?_) AllReadyT.nil
          rw [if_pos (by rfl)]
          go_simp
          have hS6 := hS5
          refine hK.out _ _ (fun _ => hS6) ?_
          clear hK K
          simp only [List.getElem_toArray, List.getElem_cons_succ, List.getElem_cons_zero, Act.put, List.setIfInBounds_toArray, List.set_cons_zero, List.set_cons_succ]
          change wpAnyT _ _ _ _ _ _ 2 #[true, true, true, true, true, true, true, true, true, true, true, true, true, true, true, true, true, true, true, true, true, true, false, false] _ _
          refine wpAnyT_take (i := 22) (v := ?_) rfl (by kernel_rfl) (by kernel_rfl) (by kernel_rfl) (by kernel_rfl) (fun _ _ _ h => h) (Or.inl ⟨by rfl, ?hy⟩) hS6 ?_
          case hy => intro w' hSw; obtain ⟨hw1, hw2⟩ := hSw; go_simp; try with_reducible rfl
          simp only [List.getElem_toArray, List.getElem_cons_succ, List.getElem_cons_zero, Act.put, List.setIfInBounds_toArray, List.set_cons_zero, List.set_cons_succ]
          change wpAnyT _ _ _ _ _ _ 1 #[true, true, true, true, true, true, true, true, true, true, true, true, true, true, true, true, true, true, true, true, true, true, true, false] _ _
          refine wpAnyT_ready (rs := [23]) (by kernel_rfl) (by simp) ?_
          refine AllReadyT.cons rfl (fun K hK => ?_) AllReadyT.nil
          have cB := (cells_at hc3 1).trans rfl
          have fB := free_at hc3 1
          rw [if_pos (by rfl)]
          go_simp
          refine hK.out _ _ (fun h => absurd h (by omega)) ?_
          clear hK K
          simp only [List.getElem_toArray, List.getElem_cons_succ, List.getElem_cons_zero, Act.put, List.setIfInBounds_toArray, List.set_cons_zero, List.set_cons_succ]
          change wpAnyT _ _ _ _ _ _ 0 #[true, true, true, true, true, true, true, true, true, true, true, true, true, true, true, true, true, true, true, true, true, true, true, true] _ _
          refine wpAnyT_done (by kernel_rfl) ?_ _
          refine NoPanic.normal ?_
          have e9 : IntKind.i64.wrap ((m : Int) + 1) = (m : Int) + 1 := by have := HM.out; exact IntWalk.i64_in _ (by omega)
          gi_wp2
          go_roundw
          case rel => exact ⟨k + 1, by omega, by have := HM.out; go_num, by have hmm := HM.out; subst hmm; rw [sched_next 8 key k]; exact FIN.2, FIN.1.2 D _ hDk.out rfl⟩
          case measure => have := HM.out; simp [intOf]; omega
        · refine AllReadyT.cons rfl (fun K hK => ?_) AllReadyT.nil
          rw [if_pos (by rfl)]
          go_simp
          refine (next8_c w.heap.size b g m cp 14 (sched 8 key k) (by have := HM.out; omega) (by have := HM.out; omega) _ (HC.out.up hb0 (Nat.le_refl _))).mono ?_
          rintro e w1 ⟨rfl, hx1⟩
          have hb1 := hb0.trans (hx1.mono hb0.size)
          have hS1 := HST.out _ hb1
          refine hK.out _ _ (fun _ => hS1) ?_
          clear hK K
          simp only [List.getElem_toArray, List.getElem_cons_succ, List.getElem_cons_zero, Act.put, List.setIfInBounds_toArray, List.set_cons_zero, List.set_cons_succ]
          change wpAnyT _ _ _ _ _ _ 7 #[true, true, true, true, true, true, true, true, true, true, true, true, true, false, true, true, true, true, false, false, false, false, false, false] _ _
          refine wpAnyT_ready (rs := [13]) (by kernel_rfl) (by simp) ?_
          refine AllReadyT.cons rfl (fun K hK => ?_) AllReadyT.nil
          rw [if_pos (by rfl)]
          have hr := range_word (HC.out.up hb1 (Nat.le_refl _)) k (by omega)
          rw [Nat.mul_comm] at hr
          refine wp_load_mid 61 (.tmp 68) rfl g (k * 4) rfl (v4 (colOf (sched 8 key k) k)).toList _ hr Try.underlying61 rfl (by rw [four4]; simp [v4]) ?_
          have hS2 := hS1
          refine hK.out _ _ (fun _ => hS2) ?_
          clear hK K
          simp only [List.getElem_toArray, List.getElem_cons_succ, List.getElem_cons_zero, Act.put, List.setIfInBounds_toArray, List.set_cons_zero, List.set_cons_succ]
          change wpAnyT _ _ _ _ _ _ 6 #[true, true, true, true, true, true, true, true, true, true, true, true, true, true, true, true, true, true, false, false, false, false, false, false] _ _
          refine wpAnyT_ready (rs := [18]) (by kernel_rfl) (by simp) ?_
          refine AllReadyT.cons rfl (fun K hK => ?_) AllReadyT.nil
          rw [if_pos (by rfl)]
          go_simp
          refine (xor_c (colOf (sched 8 key k) k) (nextN 8 m (colOf (sched 8 key k) (m - 1))) HBK.out HBN.out _).mono ?_
          rintro e w2 ⟨rfl, hx2⟩
          have hb2 := hb1.trans (hx2.mono hb1.size)
          have hS3 := HST.out _ hb2
          refine hK.out _ _ (fun _ => hS3) ?_
          clear hK K
          simp only [List.getElem_toArray, List.getElem_cons_succ, List.getElem_cons_zero, Act.put, List.setIfInBounds_toArray, List.set_cons_zero, List.set_cons_succ]
          change wpAnyT _ _ _ _ _ _ 5 #[true, true, true, true, true, true, true, true, true, true, true, true, true, true, true, true, true, true, true, false, false, false, false, false] _ _
          refine wpAnyT_ready (rs := [19]) (by kernel_rfl) (by simp) ?_
          refine AllReadyT.cons rfl (fun K hK => ?_) AllReadyT.nil
          rw [if_pos (by rfl)]
          go_simp
          have hb3 : Below wr.heap.size wr (w2.alloc (.cells (v4 (xorN (colOf (sched 8 key k) k) (nextN 8 m (colOf (sched 8 key k) (m - 1))))) 61)) := hb2.alloc hb2.size _
          have hS4 := HST.out _ hb3
          refine hK.out _ (w2.alloc (.cells (v4 (xorN (colOf (sched 8 key k) k) (nextN 8 m (colOf (sched 8 key k) (m - 1))))) 61)) (fun _ => hS4) ?_
          clear hK K
          simp only [List.getElem_toArray, List.getElem_cons_succ, List.getElem_cons_zero, Act.put, List.setIfInBounds_toArray, List.set_cons_zero, List.set_cons_succ]
          change wpAnyT _ _ _ _ _ _ 4 #[true, true, true, true, true, true, true, true, true, true, true, true, true, true, true, true, true, true, true, true, false, false, false, false] _ _
          refine wpAnyT_ready (rs := [20]) (by kernel_rfl) (by simp) ?_
          refine AllReadyT.cons rfl (fun K hK => ?_) AllReadyT.nil
          have hrow2 : w2.ownsRow W0.heap.size 61 4 (.slice (some ⟨g, 0, none⟩) m cp) m (u8L (sched 8 key k)) := row_below J2.out hb2
          have hown := World.ownsRow.alloc hrow2 (.cells (v4 (xorN (colOf (sched 8 key k) k) (nextN 8 m (colOf (sched 8 key k) (m - 1))))) 61)
          have hnew := heap_new' w2 (.cells (v4 (xorN (colOf (sched 8 key k) k) (nextN 8 m (colOf (sched 8 key k) (m - 1))))) 61)
          refine step_append_lies _ (by rfl) (.tmp 60) (.tmp 75) 55 (by rfl) W0.heap.size 61 i0 _ 4 4 Try.underlying55 hi hz0 hz1 hz2 rfl (by omega) (.slice (some ⟨g, 0, none⟩) m cp) m (u8L (sched 8 key k)) (by rfl) hown ⟨w2.heap.size, 0, none⟩ 1 1 (v4 (xorN (colOf (sched 8 key k) k) (nextN 8 m (colOf (sched 8 key k) (m - 1))))).toList (by rfl) (by simp [v4]) (World.news_of_block hnew) (v4_all _) (by omega) (by have := HM.out; unfold maxLen; omega) (by have := HM.out; omega) (by have := hb3.size; have := J5.out; omega) _ rfl ?_
          intro g2 cp2 w3 hown3 hgrow3 hat hlt3
          have FIN := rowI_step b 14 w.heap.size (w.heap.size + 1) W0.heap.size (sched 8 key k) m w wr _ w2 w3 g2 cp2 (xorN (colOf (sched 8 key k) k) (nextN 8 m (colOf (sched 8 key k) (m - 1)))) J1.out J2.out J3.out J4.out J5.out (by have := HZ0.out; omega) (by have := HZ0.out; omega) (by have := HZ0.out; omega) (by omega) (Nat.le_refl _) hb2 _ hgrow3 hown3
          have hlow : ∀ q, q < W0.heap.size → w3.heap[q]? = wr.heap[q]? := fun q hq => (hgrow3.block q (by rw [World.size_alloc]; have := hb2.size; have := J5.out; omega) (fun e => by have := own_ge J2.out q e.symm; omega)).trans (hb3.block q (by have := J5.out; omega))
          have hc3 := (hlow w.heap.size (by have := HZ0.out; omega)).trans J1.out
          have hS5 := (⟨(cells_at ((hlow _ (by have := HZ0.out; omega)).trans J3.out) 0).trans rfl, (cells_at hc3 1).trans rfl⟩ : w3.cell? ⟨w.heap.size + 1, 0, none⟩ = some (.pointer (some ⟨w.heap.size, 0, none⟩)) ∧ w3.cell? ⟨w.heap.size, 1, none⟩ = some (.slice (some ⟨g, 0, none⟩) m cp))
          refine hK.out _ _ (fun _ => hS5) ?_
          clear hK K
          simp only [List.getElem_toArray, List.getElem_cons_succ, List.getElem_cons_zero, Act.put, List.setIfInBounds_toArray, List.set_cons_zero, List.set_cons_succ]
          change wpAnyT _ _ _ _ _ _ 3 #[true, true, true, true, true, true, true, true, true, true, true, true, true, true, true, true, true, true, true, true, true, false, false, false] _ _
          refine wpAnyT_ready (rs := [21]) (by kernel_rfl) (by simp) ?_
          refine AllReadyT.cons rfl (fun K hK => ?_) AllReadyT.nil
          rw [if_pos (by rfl)]
          go_simp
          have hS6 := hS5
          refine hK.out _ _ (fun _ => hS6) ?_
          clear hK K
          simp only [List.getElem_toArray, List.getElem_cons_succ, List.getElem_cons_zero, Act.put, List.setIfInBounds_toArray, List.set_cons_zero, List.set_cons_succ]
          change wpAnyT _ _ _ _ _ _ 2 #[true, true, true, true, true, true, true, true, true, true, true, true, true, true, true, true, true, true, true, true, true, true, false, false] _ _
          refine wpAnyT_take (i := 22) (v := ?_) rfl (by kernel_rfl) (by kernel_rfl) (by kernel_rfl) (by kernel_rfl) (fun _ _ _ h => h) (Or.inl ⟨by rfl, ?hy⟩) hS6 ?_
          case hy => intro w' hSw; obtain ⟨hw1, hw2⟩ := hSw; go_simp; try with_reducible rfl
          simp only [List.getElem_toArray, List.getElem_cons_succ, List.getElem_cons_zero, Act.put, List.setIfInBounds_toArray, List.set_cons_zero, List.set_cons_succ]
          change wpAnyT _ _ _ _ _ _ 1 #[true, true, true, true, true, true, true, true, true, true, true, true, true, true, true, true, true, true, true, true, true, true, true, false] _ _
          refine wpAnyT_ready (rs := [23]) (by kernel_rfl) (by simp) ?_
          refine AllReadyT.cons rfl (fun K hK => ?_) AllReadyT.nil
          have cB := (cells_at hc3 1).trans rfl
          have fB := free_at hc3 1
          rw [if_pos (by rfl)]
          go_simp
          refine hK.out _ _ (fun h => absurd h (by omega)) ?_
          clear hK K
          simp only [List.getElem_toArray, List.getElem_cons_succ, List.getElem_cons_zero, Act.put, List.setIfInBounds_toArray, List.set_cons_zero, List.set_cons_succ]
          change wpAnyT _ _ _ _ _ _ 0 #[true, true, true, true, true, true, true, true, true, true, true, true, true, true, true, true, true, true, true, true, true, true, true, true] _ _
          refine wpAnyT_done (by kernel_rfl) ?_ _
          refine NoPanic.normal ?_
          have e9 : IntKind.i64.wrap ((m : Int) + 1) = (m : Int) + 1 := by have := HM.out; exact IntWalk.i64_in _ (by omega)
          gi_wp2
          go_roundw
          case rel => exact ⟨k + 1, by omega, by have := HM.out; go_num, by have hmm := HM.out; subst hmm; rw [sched_next 8 key k]; exact FIN.2, FIN.1.2 D _ hDk.out rfl⟩
          case measure => have := HM.out; simp [intOf]; omega
      · obtain rfl : k = 52 := by omega
        subst hm
        have HCF := Lib.hid hC
        have HGB := Lib.hid hgb
        have J4 := Lib.hid j4
        clear hC hgb hmc j1 j2 j3 j4 hrow
        gi_wp2
        refine ⟨by simp, .inl ⟨_, _, rfl, run_takeDeferred hDk.out, ?_⟩⟩
        refine ⟨_, ?res, w.heap.size, g, cp, rfl, ?cip, Nat.le_refl _, by have := HGB.out; have := HZ0.out; omega, ?bel⟩
        case res => simp [results, Try.f10, go_sem]
        case cip => exact HCF.out.grown (grownBy_putObj' _ _ _) (fun r e => by cases e; exact ⟨_, hDk.out, rfl⟩)
        case bel => exact J4.out.grown (grownBy_putObj' _ _ _) J4.out.size (fun r e => by cases e; have := HZ0.out; omega)
  case body =>
    clear HI0 HSEQ
    rintro l pre x W ⟨⟨v, i1, i2⟩, i3, i4, i5⟩ hpre
    skip
    have HX : Hid (∀ w' : World, w'.heap[gk]? = W.heap[gk]? → w'.rangeAt gk (o + 4 * x.1) (v4 (colOf key x.1)).toList) := fun w' h => by
      intro t u hu
      have ht : t < 4 := by have := (List.getElem?_eq_some_iff.1 hu).1; simpa [v4] using this
      rw [Array.getElem?_toList, v4_get _ t ht] at hu
      rw [World.cell?_of_block (w := W) h, i4.cell (p := ⟨gk, o + 4 * x.1 + t, none⟩) hg, Nat.add_assoc, HK.out _ (by have := x.2; omega)]
      exact hu
    have H1 := Lib.hid i1
    have H2 := Lib.hid i2
    have H3 := Lib.hid i3
    have H4 := Lib.hid i4
    have H5 := Lib.hid i5
    have HP := Lib.hid hpre
    have zB : w.heap.size + 1 < W.heap.size := lt_of_block i3
    have HG := Lib.hid hg
    clear i1 i2 i3 i4 i5 hpre hg
    have ha : ∀ w', (Instr.arrayAt 61 (.slice (some ⟨gk, o + 4 * x.1, none⟩) 4 4)).run Try.prog w' = .ok (.pointer (some ⟨gk, o + 4 * x.1, none⟩)) w' := fun w' => run_arrayAt w' 61 5 4 _ 4 4 Try.underlying61 (by omega)
    gi_wp2
    have HS : Hid (∀ w' : World, w'.heap[w.heap.size + 1]? = W.heap[w.heap.size + 1]? → w'.heap[gk]? = W.heap[gk]? → w'.cell? ⟨w.heap.size + 1, 0, none⟩ = some (.pointer (some ⟨w.heap.size, 0, none⟩)) ∧ w'.rangeAt gk (o + 4 * x.1) (v4 (colOf key x.1)).toList) := fun w' h7 hk => ⟨(cells_at (h7.trans H3.out) 0).trans rfl, HX.out w' hk⟩
    refine round_region (S := fun w' => w'.cell? ⟨w.heap.size + 1, 0, none⟩ = some (.pointer (some ⟨w.heap.size, 0, none⟩)) ∧ w'.rangeAt gk (o + 4 * x.1) (v4 (colOf key x.1)).toList) (by kernel_rfl) (by kernel_rfl) (fun _ _ h => h) (HS.out W.drew rfl rfl) ?_
    intro hS
    unfold pcV
    change wpAnyH _ _ _ _ _ 13 #[false, false, false, false, false, false, false, false, false, false, false, false, false] _ _
    refine wpAnyH_take (i := 0) (v := ?_) rfl (by kernel_rfl) (by kernel_rfl) (by kernel_rfl) (fun _ _ _ h => h) (Or.inl ⟨by rfl, ?hy⟩) hS ?_
    case hy => intro w' hSw; obtain ⟨hw1, hw2⟩ := hSw; go_simp; try with_reducible rfl
    simp only [List.getElem_toArray, List.getElem_cons_succ, List.getElem_cons_zero, Act.put, List.setIfInBounds_toArray, List.set_cons_zero, List.set_cons_succ]
    change wpAnyH _ _ _ _ _ 12 #[true, false, false, false, false, false, false, false, false, false, false, false, false] _ _
    refine wpAnyH_take (i := 1) (v := ?_) rfl (by kernel_rfl) (by kernel_rfl) (by kernel_rfl) (fun _ _ _ h => h) (Or.inl ⟨by rfl, ?hy⟩) hS ?_
    case hy => intro w' hSw; obtain ⟨hw1, hw2⟩ := hSw; go_simp; try with_reducible rfl
    simp only [List.getElem_toArray, List.getElem_cons_succ, List.getElem_cons_zero, Act.put, List.setIfInBounds_toArray, List.set_cons_zero, List.set_cons_succ]
    change wpAnyH _ _ _ _ _ 11 #[true, true, false, false, false, false, false, false, false, false, false, false, false] _ _
    refine wpAnyH_take (i := 2) (v := ?_) rfl (by kernel_rfl) (by kernel_rfl) (by kernel_rfl) (fun _ _ _ h => h) (Or.inl ⟨by rfl, ?hy⟩) hS ?_
    case hy => intro w' hSw; obtain ⟨hw1, hw2⟩ := hSw; go_simp; try with_reducible rfl
    simp only [List.getElem_toArray, List.getElem_cons_succ, List.getElem_cons_zero, Act.put, List.setIfInBounds_toArray, List.set_cons_zero, List.set_cons_succ]
    change wpAnyH _ _ _ _ _ 10 #[true, true, true, false, false, false, false, false, false, false, false, false, false] _ _
    refine wpAnyH_take (i := 3) (v := ?_) rfl (by kernel_rfl) (by kernel_rfl) (by kernel_rfl) (fun _ _ _ h => h) (Or.inl ⟨by rfl, ?hy⟩) hS ?_
    case hy => intro w' hSw; obtain ⟨hw1, hw2⟩ := hSw; go_simp; try with_reducible rfl
    simp only [List.getElem_toArray, List.getElem_cons_succ, List.getElem_cons_zero, Act.put, List.setIfInBounds_toArray, List.set_cons_zero, List.set_cons_succ]
    change wpAnyH _ _ _ _ _ 9 #[true, true, true, true, false, false, false, false, false, false, false, false, false] _ _
    refine wpAnyH_take (i := 5) (v := ?_) rfl (by kernel_rfl) (by kernel_rfl) (by kernel_rfl) (fun _ _ _ h => h) (Or.inl ⟨by rfl, ?hy⟩) hS ?_
    case hy => intro w' hSw; obtain ⟨hw1, hw2⟩ := hSw; go_simp; try with_reducible rfl
    simp only [List.getElem_toArray, List.getElem_cons_succ, List.getElem_cons_zero, Act.put, List.setIfInBounds_toArray, List.set_cons_zero, List.set_cons_succ]
    change wpAnyH _ _ _ _ _ 8 #[true, true, true, true, false, true, false, false, false, false, false, false, false] _ _
    refine wpAnyH_take (i := 6) (v := ?_) rfl (by kernel_rfl) (by kernel_rfl) (by kernel_rfl) (fun _ _ _ h => h) (Or.inl ⟨by rfl, ?hy⟩) hS ?_
    case hy => intro w' hSw; obtain ⟨hw1, hw2⟩ := hSw; go_simp; try with_reducible rfl
    simp only [List.getElem_toArray, List.getElem_cons_succ, List.getElem_cons_zero, Act.put, List.setIfInBounds_toArray, List.set_cons_zero, List.set_cons_succ]
    change wpAnyH _ _ _ _ _ 7 #[true, true, true, true, false, true, true, false, false, false, false, false, false] _ _
    refine wpAnyH_take (i := 7) rfl (by kernel_rfl) (by kernel_rfl) (by kernel_rfl) (fun _ _ _ h => h) (yieldsIf_load_mid (by rfl) _ _ rfl gk (o + 4 * x.1) rfl (v4 (colOf key x.1)).toList _ (fun _ h => h.2) Try.underlying61 rfl (by rw [four4]; simp [v4])) hS ?_
    simp only [List.getElem_toArray, List.getElem_cons_succ, List.getElem_cons_zero, Act.put, List.setIfInBounds_toArray, List.set_cons_zero, List.set_cons_succ]
    change wpAnyH _ _ _ _ _ 6 #[true, true, true, true, false, true, true, true, false, false, false, false, false] _ _
    refine wpAnyH_ready (rs := [4, 8]) (by kernel_rfl) (by simp) ?_
    have c4 : W.cell? ⟨w.heap.size, 1, none⟩ = some v := (cells_at H1.out 1).trans rfl
    have c4a : ∀ o, (W.alloc o).cell? ⟨w.heap.size, 1, none⟩ = some v := fun o => (World.cell?_of_block (heap_old' _ _ _ (by show w.heap.size < _; omega))).trans c4
    have hown : (W.drew.alloc (.cells (v4 (colOf key x.1)) 61)).ownsRow W0.heap.size 61 4 v pre.length (u8L (contL 8 key pre)) := World.ownsRow.alloc H2.out _
    have hnew : (W.drew.alloc (.cells (v4 (colOf key x.1)) 61)).heap[W.heap.size]? = some (.cells (v4 (colOf key x.1)) 61 (0, 0)) := heap_new' W.drew _
    have hbase : W0.heap.size ≤ (W.drew.alloc (.cells (v4 (colOf key x.1)) 61)).heap.size := by rw [World.size_alloc]; have := H5.out; show _ ≤ W.heap.size + 1; omega
    have hpl := HP.out
    obtain ⟨i0, hi, hz0, hz1, hz2⟩ := info_parts info4
    have hoa : ∀ k, k < W.heap.size → (W.drew.alloc (.cells (v4 (colOf key x.1)) 61)).heap[k]? = W.heap[k]? := fun k hk => heap_old' W.drew _ k hk
    refine AllReadyH.cons rfl (fun K hK => ?_) ?_
    · skip
      rw [if_pos (by rfl)]
      go_simp
      refine hK.out _ _ (hS) (fun hS1 => ?_)
      clear hK K
      simp only [List.getElem_toArray, List.getElem_cons_succ, List.getElem_cons_zero, Act.put, List.setIfInBounds_toArray, List.set_cons_zero, List.set_cons_succ]
      change wpAnyH _ _ _ _ _ 5 #[true, true, true, true, true, true, true, true, false, false, false, false, false] _ _
      refine wpAnyH_ready (rs := [8]) (by kernel_rfl) (by simp) ?_
      refine AllReadyH.cons rfl (fun K hK => ?_) AllReadyH.nil
      rw [if_pos (by rfl)]
      go_simp
      refine hK.out _ (W.drew.alloc (.cells (v4 (colOf key x.1)) 61)) (HS.out _ (hoa _ zB) (hoa _ (by have := HG.out; omega))) (fun hS2 => ?_)
      clear hK K
      simp only [List.getElem_toArray, List.getElem_cons_succ, List.getElem_cons_zero, Act.put, List.setIfInBounds_toArray, List.set_cons_zero, List.set_cons_succ]
      change wpAnyH _ _ _ _ _ 4 #[true, true, true, true, true, true, true, true, true, false, false, false, false] _ _
      refine wpAnyH_ready (rs := [9]) (by kernel_rfl) (by simp) ?_
      refine AllReadyH.cons rfl (fun K hK => ?_) AllReadyH.nil
      refine step_append_lies _ (by rfl) (.tmp 37) (.tmp 41) 55 (by rfl) W0.heap.size 61 i0 _ 4 4 Try.underlying55 hi hz0 hz1 hz2 rfl (by omega) v pre.length (u8L (contL 8 key pre)) (by rfl) hown ⟨W.heap.size, 0, none⟩ 1 1 (v4 (colOf key x.1)).toList (by rfl) (by simp [v4]) (World.news_of_block hnew) (v4_all _) (by omega) (by unfold maxLen; omega) (by omega) hbase _ rfl ?_
      intro g cp w1 hown1 hgrow hat hlt
      have hkeep : ∀ k, k < W0.heap.size → w1.heap[k]? = W.heap[k]? := fun k hk => (hgrow.block k (by rw [World.size_alloc]; have := H5.out; show k < W.heap.size + 1; omega) (fun e => by have := own_ge H2.out k e.symm; omega)).trans (heap_old' _ _ _ (by show k < W.heap.size; have := H5.out; omega))
      refine hK.out _ _ (HS.out w1 (hkeep _ (by have := HZ0.out; omega)) (hkeep _ (by have := HZ0.out; have := HG.out; omega))) (fun hS2a => ?_)
      clear hK K
      simp only [List.getElem_toArray, List.getElem_cons_succ, List.getElem_cons_zero, Act.put, List.setIfInBounds_toArray, List.set_cons_zero, List.set_cons_succ]
      change wpAnyH _ _ _ _ _ 3 #[true, true, true, true, true, true, true, true, true, true, false, false, false] _ _
      refine wpAnyH_take (i := 10) (v := ?_) rfl (by kernel_rfl) (by kernel_rfl) (by kernel_rfl) (fun _ _ _ h => h) (Or.inl ⟨by rfl, ?hy⟩) hS2a ?_
      case hy => intro w' hSw; obtain ⟨hw1, hw2⟩ := hSw; go_simp; try with_reducible rfl
      simp only [List.getElem_toArray, List.getElem_cons_succ, List.getElem_cons_zero, Act.put, List.setIfInBounds_toArray, List.set_cons_zero, List.set_cons_succ]
      change wpAnyH _ _ _ _ _ 2 #[true, true, true, true, true, true, true, true, true, true, true, false, false] _ _
      refine wpAnyH_take (i := 11) (v := ?_) rfl (by kernel_rfl) (by kernel_rfl) (by kernel_rfl) (fun _ _ _ h => h) (Or.inl ⟨by rfl, ?hy⟩) hS2a ?_
      case hy => intro w' hSw; obtain ⟨hw1, hw2⟩ := hSw; go_simp; try with_reducible rfl
      simp only [List.getElem_toArray, List.getElem_cons_succ, List.getElem_cons_zero, Act.put, List.setIfInBounds_toArray, List.set_cons_zero, List.set_cons_succ]
      change wpAnyH _ _ _ _ _ 1 #[true, true, true, true, true, true, true, true, true, true, true, true, false] _ _
      refine wpAnyH_ready (rs := [12]) (by kernel_rfl) (by simp) ?_
      refine AllReadyH.cons rfl (fun K hK => ?_) AllReadyH.nil
      have e1 := (hkeep _ (by have := HZ0.out; omega)).trans H1.out
      have cB := (cells_at e1 1).trans rfl
      have fB := free_at e1 1
      rw [if_pos (by rfl)]
      go_simp
      refine hK.out _ _ (HS.out _ ((Below.heap_setCell _ _ _ _ (by simp)).trans (hkeep _ (by have := HZ0.out; omega))) ((Below.heap_setCell _ _ _ _ (by have := HG.out; simp; omega)).trans (hkeep _ (by have := HZ0.out; have := HG.out; omega)))) (fun hS2ab => ?_)
      clear hK K
      simp only [List.getElem_toArray, List.getElem_cons_succ, List.getElem_cons_zero, Act.put, List.setIfInBounds_toArray, List.set_cons_zero, List.set_cons_succ]
      change wpAnyH _ _ _ _ _ 0 #[true, true, true, true, true, true, true, true, true, true, true, true, true] _ _
      refine wpAnyH_done (by kernel_rfl) ?_ _
      change Exit.inBlock 2 _ .normal _ _
      have FIN := newI_step 8 b 14 w.heap.size (w.heap.size + 1) W0.heap.size key w pre x W v w1 g cp H1.out H2.out H3.out H4.out H5.out (by have := HZ0.out; omega) (by have := HZ0.out; omega) (by have := HZ0.out; omega) (by omega) (Nat.le_refl _) _ hgrow hown1
      gi_wp2
      exact FIN
    · refine AllReadyH.cons rfl (fun K hK => ?_) AllReadyH.nil
      rw [if_pos (by rfl)]
      go_simp
      refine hK.out _ (W.drew.alloc (.cells (v4 (colOf key x.1)) 61)) (HS.out _ (hoa _ zB) (hoa _ (by have := HG.out; omega))) (fun hS1 => ?_)
      clear hK K
      simp only [List.getElem_toArray, List.getElem_cons_succ, List.getElem_cons_zero, Act.put, List.setIfInBounds_toArray, List.set_cons_zero, List.set_cons_succ]
      change wpAnyH _ _ _ _ _ 5 #[true, true, true, true, false, true, true, true, true, false, false, false, false] _ _
      refine wpAnyH_ready (rs := [4]) (by kernel_rfl) (by simp) ?_
      refine AllReadyH.cons rfl (fun K hK => ?_) AllReadyH.nil
      rw [if_pos (by rfl)]
      go_simp
      refine hK.out _ (W.drew.alloc (.cells (v4 (colOf key x.1)) 61)) (hS1) (fun hS2 => ?_)
      clear hK K
      simp only [List.getElem_toArray, List.getElem_cons_succ, List.getElem_cons_zero, Act.put, List.setIfInBounds_toArray, List.set_cons_zero, List.set_cons_succ]
      change wpAnyH _ _ _ _ _ 4 #[true, true, true, true, true, true, true, true, true, false, false, false, false] _ _
      refine wpAnyH_ready (rs := [9]) (by kernel_rfl) (by simp) ?_
      refine AllReadyH.cons rfl (fun K hK => ?_) AllReadyH.nil
      refine step_append_lies _ (by rfl) (.tmp 37) (.tmp 41) 55 (by rfl) W0.heap.size 61 i0 _ 4 4 Try.underlying55 hi hz0 hz1 hz2 rfl (by omega) v pre.length (u8L (contL 8 key pre)) (by rfl) hown ⟨W.heap.size, 0, none⟩ 1 1 (v4 (colOf key x.1)).toList (by rfl) (by simp [v4]) (World.news_of_block hnew) (v4_all _) (by omega) (by unfold maxLen; omega) (by omega) hbase _ rfl ?_
      intro g cp w1 hown1 hgrow hat hlt
      have hkeep : ∀ k, k < W0.heap.size → w1.heap[k]? = W.heap[k]? := fun k hk => (hgrow.block k (by rw [World.size_alloc]; have := H5.out; show k < W.heap.size + 1; omega) (fun e => by have := own_ge H2.out k e.symm; omega)).trans (heap_old' _ _ _ (by show k < W.heap.size; have := H5.out; omega))
      refine hK.out _ _ (HS.out w1 (hkeep _ (by have := HZ0.out; omega)) (hkeep _ (by have := HZ0.out; have := HG.out; omega))) (fun hS2a => ?_)
      clear hK K
      simp only [List.getElem_toArray, List.getElem_cons_succ, List.getElem_cons_zero, Act.put, List.setIfInBounds_toArray, List.set_cons_zero, List.set_cons_succ]
      change wpAnyH _ _ _ _ _ 3 #[true, true, true, true, true, true, true, true, true, true, false, false, false] _ _
      refine wpAnyH_take (i := 10) (v := ?_) rfl (by kernel_rfl) (by kernel_rfl) (by kernel_rfl) (fun _ _ _ h => h) (Or.inl ⟨by rfl, ?hy⟩) hS2a ?_
      case hy => intro w' hSw; obtain ⟨hw1, hw2⟩ := hSw; go_simp; try with_reducible rfl
      simp only [List.getElem_toArray, List.getElem_cons_succ, List.getElem_cons_zero, Act.put, List.setIfInBounds_toArray, List.set_cons_zero, List.set_cons_succ]
      change wpAnyH _ _ _ _ _ 2 #[true, true, true, true, true, true, true, true, true, true, true, false, false] _ _
      refine wpAnyH_take (i := 11) (v := ?_) rfl (by kernel_rfl) (by kernel_rfl) (by kernel_rfl) (fun _ _ _ h => h) (Or.inl ⟨by rfl, ?hy⟩) hS2a ?_
      case hy => intro w' hSw; obtain ⟨hw1, hw2⟩ := hSw; go_simp; try with_reducible rfl
      simp only [List.getElem_toArray, List.getElem_cons_succ, List.getElem_cons_zero, Act.put, List.setIfInBounds_toArray, List.set_cons_zero, List.set_cons_succ]
      change wpAnyH _ _ _ _ _ 1 #[true, true, true, true, true, true, true, true, true, true, true, true, false] _ _
      refine wpAnyH_ready (rs := [12]) (by kernel_rfl) (by simp) ?_
      refine AllReadyH.cons rfl (fun K hK => ?_) AllReadyH.nil
      have e1 := (hkeep _ (by have := HZ0.out; omega)).trans H1.out
      have cB := (cells_at e1 1).trans rfl
      have fB := free_at e1 1
      rw [if_pos (by rfl)]
      go_simp
      refine hK.out _ _ (HS.out _ ((Below.heap_setCell _ _ _ _ (by simp)).trans (hkeep _ (by have := HZ0.out; omega))) ((Below.heap_setCell _ _ _ _ (by have := HG.out; simp; omega)).trans (hkeep _ (by have := HZ0.out; have := HG.out; omega)))) (fun hS2ab => ?_)
      clear hK K
      simp only [List.getElem_toArray, List.getElem_cons_succ, List.getElem_cons_zero, Act.put, List.setIfInBounds_toArray, List.set_cons_zero, List.set_cons_succ]
      change wpAnyH _ _ _ _ _ 0 #[true, true, true, true, true, true, true, true, true, true, true, true, true] _ _
      refine wpAnyH_done (by kernel_rfl) ?_ _
      change Exit.inBlock 2 _ .normal _ _
      have FIN := newI_step 8 b 14 w.heap.size (w.heap.size + 1) W0.heap.size key w pre x W v w1 g cp H1.out H2.out H3.out H4.out H5.out (by have := HZ0.out; omega) (by have := HZ0.out; omega) (by have := HZ0.out; omega) (by omega) (Nat.le_refl _) _ hgrow hown1
      gi_wp2
      exact FIN
end Go.Proofs.Ytinjafacnekkcaa
