/- A pack's bytes are parsed as it was: plain. -/
import Derived.Test.YthpglpnonecnfaaPkH
set_option linter.unusedVariables false
set_option linter.unusedSimpArgs false
namespace Go.Proofs.Ythpglpnonecnfaa
open Go Go.RowKit Sha
theorem low_pair (v : Nat) : lowB 2 v = [v % 256, v / 256 % 256] := by simp [lowB, upB, List.range, List.range.loop]
theorem num_low (v : Nat) (hv : v < 65536) (T : List Nat) : numS (lowB 2 v ++ T, 0) = v ∧ advS 2 (lowB 2 v ++ T, 0) = (T, 0) := by
  rw [low_pair]
  have hl : ¬ (([v % 256, v / 256 % 256] ++ T).length < 2) := by simp only [List.length_append, List.length_cons, List.length_nil]; omega
  constructor
  · show leN (nextN 2 ([v % 256, v / 256 % 256] ++ T) 0) = v
    unfold nextN
    rw [if_pos rfl, if_neg hl]
    show v % 256 + 256 * (v / 256 % 256 + 256 * 0) = v
    omega
  · show (restN 2 ([v % 256, v / 256 % 256] ++ T) 0, errN 2 ([v % 256, v / 256 % 256] ++ T) 0) = _
    unfold restN errN
    rw [if_pos rfl, if_neg hl, if_pos rfl, if_neg hl]
    rfl
theorem loop_rows : ∀ (L acc : List (List Nat)) (T : List Nat), (∀ l ∈ L, l.length < 65536) → loopN L.length acc (rowsB L ++ T, 0) = (acc ++ L, (T, 0))
  | [], acc, T, _ => by simp [loopN, rowsB]
  | l :: L, acc, T, h => by
    have hl : l.length < 65536 := h l (List.mem_cons_self ..)
    have e : rowsB (l :: L) ++ T = lowB 2 l.length ++ (l ++ (rowsB L ++ T)) := by unfold rowsB; rw [List.flatMap_cons]; simp
    have h2 := num_low l.length hl (l ++ (rowsB L ++ T))
    rw [List.length_cons, e, loop_next _ _ _ rfl, h2.1, h2.2]
    have h3 : nextN l.length (l ++ (rowsB L ++ T)) 0 = l := by
      unfold nextN
      rw [if_pos rfl, if_neg (by rw [List.length_append]; omega), List.take_left]
    have h4 : advS l.length (l ++ (rowsB L ++ T), 0) = (rowsB L ++ T, 0) := by
      unfold advS restN errN
      simp only [if_true]
      rw [if_neg (by rw [List.length_append]; omega), if_neg (by rw [List.length_append]; omega), List.drop_left]
    rw [h3, h4, loop_rows L (acc ++ [l]) T (fun m hm => h m (List.mem_cons_of_mem _ hm)), List.append_assoc]
    rfl
theorem stK_nums (R : List Int) (T : List Nat) (h : ∀ r ∈ R, 0 ≤ r ∧ r < 65536) : ∀ k, k ≤ R.length → stK (numsB R ++ T, 0) k = (numsB (R.drop k) ++ T, 0)
  | 0, _ => by simp [stK]
  | k + 1, hk => by
    have ih := stK_nums R T h k (by omega)
    show advS 2 (stK _ k) = _
    rw [ih, List.drop_eq_getElem_cons (by omega : k < R.length)]
    have hr := h R[k] (List.getElem_mem _)
    have e : numsB (R[k] :: R.drop (k + 1)) ++ T = lowB 2 (R[k]).toNat ++ (numsB (R.drop (k + 1)) ++ T) := by unfold numsB; rw [List.flatMap_cons]; simp
    rw [e]
    exact (num_low _ (by omega) _).2
theorem roots_nums (R : List Int) (T : List Nat) (hR : R.length = 16) (h : ∀ r ∈ R, 0 ≤ r ∧ r < 65536) : rootsS (numsB R ++ T, 0) = R := by
  apply List.ext_getElem
  · rw [rootsS_len, hR]
  · intro k h1 h2
    have h3 := rootsS_get (numsB R ++ T, 0) k (by omega)
    rw [List.getD_eq_getElem?_getD, List.getElem?_eq_getElem h1] at h3
    have hr := h R[k] (List.getElem_mem _)
    rw [stK_nums R T h k (by omega), List.drop_eq_getElem_cons h2] at h3
    have e : numsB (R[k] :: R.drop (k + 1)) ++ T = lowB 2 (R[k]).toNat ++ (numsB (R.drop (k + 1)) ++ T) := by unfold numsB; rw [List.flatMap_cons]; simp
    rw [e, (num_low _ (by omega) _).1] at h3
    simp only [Option.getD_some] at h3
    rw [h3]; omega
theorem parse_back (L : List (List Nat)) (R : List Int) (hR : R.length = 16) (hm : mayP L R = true) : parseN (packBytes L R) = some (L, R) := by
  obtain ⟨h1, h2, _⟩ := may_parts hm
  have hLl : ∀ l ∈ L, l.length < 65536 := fun l hl => by
    unfold mayB at h2
    rw [List.all_eq_true] at h2
    have := h2 l hl
    simp only [decide_eq_true_eq] at this
    omega
  have hRr : ∀ r ∈ R, 0 ≤ r ∧ r < 65536 := fun r hr => by
    unfold mayP at hm
    simp only [Bool.and_eq_true] at hm
    have h3 := hm.2
    unfold mayR at h3
    rw [List.all_eq_true] at h3
    have := h3 r hr
    simp only [decide_eq_true_eq] at this
    omega
  obtain ⟨T, hT⟩ : ∃ T, T = sumN (packBody L R) := ⟨_, rfl⟩
  have hb : packBytes L R = [80, 65, 67, 75] ++ (lowB 2 L.length ++ (numsB R ++ (rowsB L ++ T))) := by
    unfold packBytes
    rw [← hT]
    unfold packBody headB
    simp
  have e0 : s0N (packBytes L R) = (lowB 2 L.length ++ (numsB R ++ (rowsB L ++ T)), 0) := by
    unfold s0N
    rw [hb]
    generalize lowB 2 L.length ++ (numsB R ++ (rowsB L ++ T)) = Z
    have hl : ¬ (([80, 65, 67, 75] ++ Z).length < 4) := by simp only [List.length_append, List.length_cons, List.length_nil]; omega
    show (restN 4 ([80, 65, 67, 75] ++ Z) 0, errN 4 ([80, 65, 67, 75] ++ Z) 0) = _
    unfold restN errN
    rw [if_pos rfl, if_neg hl, if_pos rfl, if_neg hl]
    rfl
  have e1 := num_low L.length (by omega) (numsB R ++ (rowsB L ++ T))
  have e2 : s1N (packBytes L R) = (numsB R ++ (rowsB L ++ T), 0) := by unfold s1N; rw [e0]; exact e1.2
  have e3 : rootsS (s1N (packBytes L R)) = R := by rw [e2]; exact roots_nums R _ hR hRr
  have e4 : stK (s1N (packBytes L R)) 16 = (rowsB L ++ T, 0) := by
    rw [e2, stK_nums R _ hRr 16 (by omega), List.drop_of_length_le (by omega)]
    rfl
  have e5 : finN (packBytes L R) = (L, (T, 0)) := by
    unfold finN
    rw [e4, e0, e1.1, loop_rows L [] T hLl]
    rfl
  exact parse_some e5 e3.symm ⟨rfl, hm, rfl⟩
end Go.Proofs.Ythpglpnonecnfaa
