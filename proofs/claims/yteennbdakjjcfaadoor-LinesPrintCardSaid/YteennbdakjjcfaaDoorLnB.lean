/- strings.Cut at '#', strings.FieldsFunc at blanks. Printed by gen_lnb.py. -/
import Derived.Test.YteennbdakjjcfaaDoorLnA
set_option linter.unusedVariables false
set_option linter.unusedSimpArgs false
namespace Go.Proofs.YteennbdakjjcfaaDoor
open Go Go.RowKit Go.Lib
@[go_sem] theorem run_slice_to_sV {P : Program} (w : World) (t : TypeId) (l : List UInt8) (i : Nat) (h : P.underlying t = some .string) (hi : i ≤ l.length) :
    (Instr.slice t (sV l) none (some (.int .i64 (i : Int))) none).run P w = .ok (sV (l.take i)) w := by
  unfold sV
  rw [run_slice_string_h (ht := h) (h0 := by omega) (h2 := by rw [size_sV]; omega), Int.toNat_natCast, ByteArray.extract_mk]
  rfl
@[go_sem] theorem run_slice_from_sV {P : Program} (w : World) (t : TypeId) (l : List UInt8) (i : Nat) (h : P.underlying t = some .string) (hi : i ≤ l.length) :
    (Instr.slice t (sV l) (some (.int .i64 (i : Int))) none none).run P w = .ok (sV (l.drop i)) w := by
  unfold sV
  rw [run_slice_string_l (ht := h) (h0 := by omega) (h1 := by rw [size_sV]; omega), Int.toNat_natCast, ByteArray.extract_mk, size_sV, List.take_of_length_le (by rw [List.length_drop]; exact Nat.le_refl _)]
theorem strip_none : ∀ (l : List UInt8), 35 ∉ l → stripH l = l
  | [], _ => rfl
  | c :: l, h => by
    have hc : (c != 35) = true := bne_iff_ne.2 (fun e => h (by rw [e]; exact List.mem_cons_self ..))
    unfold stripH
    rw [List.takeWhile_cons, hc]
    show c :: stripH l = c :: l
    rw [strip_none l (fun h' => h (List.mem_cons_of_mem _ h'))]
theorem strip_hit : ∀ (a b : List UInt8), 35 ∉ a → stripH (a ++ 35 :: b) = a
  | [], b, _ => rfl
  | c :: a, b, h => by
    have hc : (c != 35) = true := bne_iff_ne.2 (fun e => h (by rw [e]; exact List.mem_cons_self ..))
    unfold stripH
    rw [List.cons_append, List.takeWhile_cons, hc]
    show c :: stripH (a ++ 35 :: b) = c :: a
    rw [strip_hit a b (fun h' => h (List.mem_cons_of_mem _ h'))]
theorem index_c (s : List UInt8) (w : World) : Calls Tryd.prog 54 #[sV s, sV [35]] w fun e w' => e = .returned (.int .i64 (indexByte s 35)) ∧ w = w' :=
  Calls.mono (Any.stringslite_Index_one { lays146 with } ⟨s.toArray⟩ 35 w) (fun e w' h => ⟨h.1, h.2.symm⟩)
set_option maxRecDepth 100000 in
theorem lcut_c (s : List UInt8) (hs : s.length ≤ 1000000) (w : World) :
    Calls Tryd.prog 39 #[sV s, sV [35]] w fun e w' => (∃ x y, e = .returned (.tuple #[sV (stripH s), x, y])) ∧ Below w.heap.size w w' := by
  have HI := Lib.hid (index_c s w)
  rcases Int.lt_or_le (indexByte s 35) 0 with h0 | h0
  · have h1 : indexByte s 35 = -1 := by have := indexByte_ge s 35; omega
    have HST : Hid (stripH s = s) := strip_none _ (indexByte_miss _ _ h1)
    have H1 := Lib.hid h1
    clear h0 h1
    go_enter Tryd.func39, Tryd.ntmps39
    go_wp2_with fail
    refine HI.out.mono ?_
    rintro e w' ⟨rfl, rfl⟩
    rw [H1.out]
    go_wp2
    go_ret3
    exact ⟨⟨_, _, by rw [HST.out]; rfl⟩, Below.refl _ _⟩
  · obtain ⟨i, hi⟩ : ∃ i : Nat, indexByte s 35 = i := ⟨(indexByte s 35).toNat, by omega⟩
    obtain ⟨a, b, e1, e2, e3⟩ := indexByte_hit _ _ _ hi
    have HST : Hid (stripH s = s.take i) := by show _ = _; rw [e1, strip_hit a b e3, ← e2, List.take_left]
    have H1 := Lib.hid hi
    have hle : i ≤ s.length := by rw [e1, List.length_append]; omega
    obtain ⟨i1, hi1⟩ : ∃ j, j = i + 1 := ⟨_, rfl⟩
    have hle1 : i1 ≤ s.length := by rw [hi1, e1, List.length_append, List.length_cons]; omega
    have ew : IntKind.i64.wrap ((i : Int) + 1) = (i1 : Int) := by rw [IntWalk.i64_in _ (by omega)]; omega
    have hge : decide ((i : Int) ≥ 0) = true := by simp
    have hlen1 : ([35] : List UInt8).length = 1 := rfl
    clear h0 hi e1 e2 e3 hi1
    go_enter Tryd.func39, Tryd.ntmps39
    go_wp2_with fail
    refine HI.out.mono ?_
    rintro e w' ⟨rfl, rfl⟩
    rw [H1.out]
    go_wp2_with fail
    refine wp_region_held_drew (S := fun w' => Below w.heap.size w w') (by kernel_rfl) (Below.refl _ _).drew ?_
    intro hS
    generalize w.drew = WD at hS ⊢
    change wpAnyH _ _ _ _ _ 12 #[false, false, false, false, false, false, false, false, false, false, false, false] _ _
    refine wpAnyH_take (i := 0) (v := ?_) rfl (by kernel_rfl) (by kernel_rfl) (by kernel_rfl) (fun _ _ _ h => h) (Or.inl ⟨by rfl, ?hy⟩) hS ?_
    case hy => intro w' hSw; go_simp; try with_reducible rfl
    simp only [List.getElem_toArray, List.getElem_cons_succ, List.getElem_cons_zero, Act.put, List.setIfInBounds_toArray, List.set_cons_zero, List.set_cons_succ]
    change wpAnyH _ _ _ _ _ 11 #[true, false, false, false, false, false, false, false, false, false, false, false] _ _
    refine wpAnyH_take (i := 1) (v := ?_) rfl (by kernel_rfl) (by kernel_rfl) (by kernel_rfl) (fun _ _ _ h => h) (Or.inl ⟨by rfl, ?hy⟩) hS ?_
    case hy => intro w' hSw; go_simp; try with_reducible rfl
    simp only [List.getElem_toArray, List.getElem_cons_succ, List.getElem_cons_zero, Act.put, List.setIfInBounds_toArray, List.set_cons_zero, List.set_cons_succ]
    change wpAnyH _ _ _ _ _ 10 #[true, true, false, false, false, false, false, false, false, false, false, false] _ _
    refine wpAnyH_take (i := 2) (v := ?_) rfl (by kernel_rfl) (by kernel_rfl) (by kernel_rfl) (fun _ _ _ h => h) (Or.inl ⟨by rfl, ?hy⟩) hS ?_
    case hy => intro w' hSw; go_simp; try with_reducible rfl
    simp only [List.getElem_toArray, List.getElem_cons_succ, List.getElem_cons_zero, Act.put, List.setIfInBounds_toArray, List.set_cons_zero, List.set_cons_succ]
    change wpAnyH _ _ _ _ _ 9 #[true, true, true, false, false, false, false, false, false, false, false, false] _ _
    refine wpAnyH_take (i := 3) (v := ?_) rfl (by kernel_rfl) (by kernel_rfl) (by kernel_rfl) (fun _ _ _ h => h) (Or.inl ⟨by rfl, ?hy⟩) hS ?_
    case hy => intro w' hSw; go_simp; try with_reducible rfl
    simp only [List.getElem_toArray, List.getElem_cons_succ, List.getElem_cons_zero, Act.put, List.setIfInBounds_toArray, List.set_cons_zero, List.set_cons_succ]
    change wpAnyH _ _ _ _ _ 8 #[true, true, true, true, false, false, false, false, false, false, false, false] _ _
    refine wpAnyH_take (i := 4) (v := ?_) rfl (by kernel_rfl) (by kernel_rfl) (by kernel_rfl) (fun _ _ _ h => h) (Or.inl ⟨by rfl, ?hy⟩) hS ?_
    case hy => intro w' hSw; go_simp; try with_reducible rfl
    simp only [List.getElem_toArray, List.getElem_cons_succ, List.getElem_cons_zero, Act.put, List.setIfInBounds_toArray, List.set_cons_zero, List.set_cons_succ]
    change wpAnyH _ _ _ _ _ 7 #[true, true, true, true, true, false, false, false, false, false, false, false] _ _
    refine wpAnyH_take (i := 5) (v := ?_) rfl (by kernel_rfl) (by kernel_rfl) (by kernel_rfl) (fun _ _ _ h => h) (Or.inl ⟨by rfl, ?hy⟩) hS ?_
    case hy => intro w' hSw; go_simp; try with_reducible rfl
    simp only [List.getElem_toArray, List.getElem_cons_succ, List.getElem_cons_zero, Act.put, List.setIfInBounds_toArray, List.set_cons_zero, List.set_cons_succ]
    change wpAnyH _ _ _ _ _ 6 #[true, true, true, true, true, true, false, false, false, false, false, false] _ _
    refine wpAnyH_take (i := 6) (v := ?_) rfl (by kernel_rfl) (by kernel_rfl) (by kernel_rfl) (fun _ _ _ h => h) (Or.inl ⟨by rfl, ?hy⟩) hS ?_
    case hy => intro w' hSw; go_simp; try with_reducible rfl
    simp only [List.getElem_toArray, List.getElem_cons_succ, List.getElem_cons_zero, Act.put, List.setIfInBounds_toArray, List.set_cons_zero, List.set_cons_succ]
    change wpAnyH _ _ _ _ _ 5 #[true, true, true, true, true, true, true, false, false, false, false, false] _ _
    refine wpAnyH_take (i := 7) (v := ?_) rfl (by kernel_rfl) (by kernel_rfl) (by kernel_rfl) (fun _ _ _ h => h) (Or.inl ⟨by rfl, ?hy⟩) hS ?_
    case hy => intro w' hSw; go_simp; try with_reducible rfl
    simp only [List.getElem_toArray, List.getElem_cons_succ, List.getElem_cons_zero, Act.put, List.setIfInBounds_toArray, List.set_cons_zero, List.set_cons_succ]
    change wpAnyH _ _ _ _ _ 4 #[true, true, true, true, true, true, true, true, false, false, false, false] _ _
    refine wpAnyH_take (i := 8) (v := ?_) rfl (by kernel_rfl) (by kernel_rfl) (by kernel_rfl) (fun _ _ _ h => h) (Or.inl ⟨by rfl, ?hy⟩) hS ?_
    case hy => intro w' hSw; go_simp; try with_reducible rfl
    simp only [List.getElem_toArray, List.getElem_cons_succ, List.getElem_cons_zero, Act.put, List.setIfInBounds_toArray, List.set_cons_zero, List.set_cons_succ]
    change wpAnyH _ _ _ _ _ 3 #[true, true, true, true, true, true, true, true, true, false, false, false] _ _
    refine wpAnyH_take (i := 9) (v := ?_) rfl (by kernel_rfl) (by kernel_rfl) (by kernel_rfl) (fun _ _ _ h => h) (Or.inl ⟨by rfl, ?hy⟩) hS ?_
    case hy => intro w' hSw; go_simp; try with_reducible rfl
    simp only [List.getElem_toArray, List.getElem_cons_succ, List.getElem_cons_zero, Act.put, List.setIfInBounds_toArray, List.set_cons_zero, List.set_cons_succ]
    change wpAnyH _ _ _ _ _ 2 #[true, true, true, true, true, true, true, true, true, true, false, false] _ _
    refine wpAnyH_take (i := 10) (v := ?_) rfl (by kernel_rfl) (by kernel_rfl) (by kernel_rfl) (fun _ _ _ h => h) (Or.inl ⟨by rfl, ?hy⟩) hS ?_
    case hy => intro w' hSw; go_simp; try with_reducible rfl
    simp only [List.getElem_toArray, List.getElem_cons_succ, List.getElem_cons_zero, Act.put, List.setIfInBounds_toArray, List.set_cons_zero, List.set_cons_succ]
    change wpAnyH _ _ _ _ _ 1 #[true, true, true, true, true, true, true, true, true, true, true, false] _ _
    refine wpAnyH_take (i := 11) (v := ?_) rfl (by kernel_rfl) (by kernel_rfl) (by kernel_rfl) (fun _ _ _ h => h) (Or.inl ⟨by rfl, ?hy⟩) hS ?_
    case hy => intro w' hSw; go_simp; try with_reducible rfl
    simp only [List.getElem_toArray, List.getElem_cons_succ, List.getElem_cons_zero, Act.put, List.setIfInBounds_toArray, List.set_cons_zero, List.set_cons_succ]
    change wpAnyH _ _ _ _ _ 0 #[true, true, true, true, true, true, true, true, true, true, true, true] _ _
    refine wpAnyH_done (by kernel_rfl) ?_ _
    go_wp2
    go_ret3
    exact ⟨⟨_, _, by rw [HST.out]; rfl⟩, hS⟩
set_option maxRecDepth 100000 in
theorem cuth_c (s : List UInt8) (hs : s.length ≤ 1000000) (w : World) :
    Calls Tryd.prog 23 #[sV s, sV [35]] w fun e w' => (∃ x y, e = .returned (.tuple #[sV (stripH s), x, y])) ∧ Below w.heap.size w w' := by
  have HC := Lib.hid (lcut_c s hs w)
  clear hs
  go_enter Tryd.func23, Tryd.ntmps23
  go_wp2_with fail
  refine HC.out.mono ?_
  rintro e w' ⟨⟨x, y, rfl⟩, hb⟩
  have HB := Lib.hid hb
  clear hb
  go_wp2
  go_ret3
  exact ⟨⟨_, _, rfl⟩, HB.out⟩
theorem blank_c (x : Nat) (w : World) : Calls Tryd.prog 25 #[.int .i32 (x : Int)] w fun e w' => e = .returned (.bool (blankP x)) ∧ ∃ q, w' = w.drewN q := by
  have e1 : ((x : Int) == 32) = (x == 32) := by
    by_cases h : x = 32
    · subst h; rfl
    · rw [beq_eq_false_iff_ne.2 h, beq_eq_false_iff_ne.2 (by omega)]
  have e2 : ((x : Int) == 9) = (x == 9) := by
    by_cases h : x = 9
    · subst h; rfl
    · rw [beq_eq_false_iff_ne.2 h, beq_eq_false_iff_ne.2 (by omega)]
  have HB : Hid (blankP x = (((x : Int) == 32) || ((x : Int) == 9))) := by show _ = _; rw [e1, e2]; rfl
  clear e1 e2
  go_enter Tryd.func25, Tryd.ntmps25
  go_wp2
  all_goals (go_ret; exact ⟨by rw [HB.out]; first | rfl | (simp_all; done), 0, rfl⟩)
theorem spaninfo : (Tryd.prog.info? (lays229_ren.t 154)).map (fun i => (i.zero, i.size, i.bytes)) = some (some (.agg #[.int .i64 0, .int .i64 0]), 2, 16) := by kernel_rfl
/-- strings.FieldsFunc at blank -/
theorem fields_c (s : List UInt8) (hs : s.length ≤ 1000000) (w : World) :
    Calls Tryd.prog 24 #[sV s, .func (.func 25) #[] #[]] w fun e w' => (∃ g, e = .returned (.slice (some ⟨g, 0, none⟩) (wordsB s []).length (wordsB s []).length) ∧ w'.ownsRow w.heap.size 9 1 (.slice (some ⟨g, 0, none⟩) (wordsB s []).length (wordsB s []).length) (wordsB s []).length ((wordsB s []).map sV)) ∧ Below w.heap.size w w' := by
  have hfw := fields_words ⟨s.toArray⟩
  have hsz : (ByteArray.mk s.toArray).size = s.length := rfl
  have c := Any.strings_FieldsFunc_runes lays229 25 #[] (enters_of Tryd.func25 (by kernel_rfl) rfl) blankP ⟨s.toArray⟩ w (by rw [hsz]; omega) (fun W x _ _ => blank_c x W) spaninfo strinfo
  have hmap : (goFieldsP blankP ⟨s.toArray⟩).map Value.string = (wordsB s []).map sV := by
    rw [show wordsB s [] = _ from hfw.symm, List.map_map]
    rfl
  have hlen : (goFieldsP blankP ⟨s.toArray⟩).length = (wordsB s []).length := by
    have := congrArg List.length hfw
    rw [List.length_map] at this
    exact this
  rw [hmap, hlen] at c
  refine Calls.mono c ?_
  rintro e w' ⟨A, rfl, _, hown, hb⟩
  exact ⟨⟨A, rfl, hown⟩, hb⟩
end Go.Proofs.YteennbdakjjcfaaDoor
