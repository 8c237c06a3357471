/- The text of lines: splitting a text into lines, a line into words; no program. -/
import Derived.Test.YteennbdakjjcfaaDoorLnBase
import Derived.Lib.Split
import Derived.Lib.FieldsP
import Derived.Lib.IndexMore
set_option linter.unusedVariables false
namespace Go.Proofs.YteennbdakjjcfaaDoor
open Go Go.Lib
/-- the lines of a text -/
def linesL : List UInt8 → List (List UInt8)
  | [] => [[]]
  | c :: s => if c = 10 then [] :: linesL s else match linesL s with
    | [] => [[c]]
    | l :: ls => (c :: l) :: ls
theorem linesL_ne (s : List UInt8) : linesL s ≠ [] := by
  cases s with
  | nil => simp [linesL]
  | cons c s => unfold linesL; split; · simp
                · split <;> simp
theorem linesL_none : ∀ (s : List UInt8), 10 ∉ s → linesL s = [s]
  | [], _ => rfl
  | c :: s, h => by
    have hc : c ≠ 10 := fun e => h (by rw [e]; exact List.mem_cons_self ..)
    have ih := linesL_none s (fun h' => h (List.mem_cons_of_mem _ h'))
    unfold linesL
    rw [if_neg hc, ih]
theorem linesL_hit : ∀ (a b : List UInt8), 10 ∉ a → linesL (a ++ 10 :: b) = a :: linesL b
  | [], b, _ => by rw [List.nil_append]; conv => lhs; unfold linesL
                   rw [if_pos rfl]
  | c :: a, b, h => by
    have hc : c ≠ 10 := fun e => h (by rw [e]; exact List.mem_cons_self ..)
    have ih := linesL_hit a b (fun h' => h (List.mem_cons_of_mem _ h'))
    rw [List.cons_append]
    conv => lhs; unfold linesL
    rw [if_neg hc, ih]
theorem indexByte_miss : ∀ (l : List UInt8) (c : UInt8), indexByte l c = -1 → c ∉ l
  | [], _, _ => by simp
  | b :: l, c, h => by
    unfold indexByte at h
    split at h
    · omega
    · rename_i hb
      split at h
      · rename_i h2
        have := indexByte_miss l c (beq_iff_eq.1 h2)
        intro hm
        rcases List.mem_cons.1 hm with e | e
        · exact hb (by rw [e]; exact beq_self_eq_true _)
        · exact this e
      · have := indexByte_ge l c; omega
theorem indexByte_hit : ∀ (l : List UInt8) (c : UInt8) (i : Nat), indexByte l c = i → ∃ a b, l = a ++ c :: b ∧ a.length = i ∧ c ∉ a
  | [], c, i, h => by simp [indexByte] at h
  | b :: l, c, i, h => by
    unfold indexByte at h
    split at h
    · rename_i hb
      have e := beq_iff_eq.1 hb
      subst e
      exact ⟨[], l, rfl, by simp; omega, by simp⟩
    · rename_i hb
      split at h
      · omega
      · rename_i h2
        have h3 := indexByte_ge l c
        have h4 : indexByte l c ≠ -1 := fun e => h2 (by rw [e]; rfl)
        obtain ⟨j, hj⟩ : ∃ j : Nat, indexByte l c = j := ⟨(indexByte l c).toNat, by omega⟩
        obtain ⟨a, t, e1, e2, e3⟩ := indexByte_hit l c j hj
        refine ⟨b :: a, t, by rw [e1]; rfl, by simp; omega, fun hm => ?_⟩
        rcases List.mem_cons.1 hm with e | e
        · exact hb (by rw [e]; exact beq_self_eq_true _)
        · exact e3 e
def sepN : ByteArray := ⟨#[10]⟩
theorem indexN (s : ByteArray) : indexB s sepN = indexByte s.data.toList 10 := by
  unfold indexB
  exact index_one _ _
theorem split_lines : ∀ (k : Nat) (s : ByteArray), s.data.toList.count 10 ≤ k → (splitB sepN 0 k s).map (fun b => b.data.toList) = linesL s.data.toList
  | 0, s, h => by
    have : 10 ∉ s.data.toList := fun hm => by have := List.count_pos_iff.2 hm; omega
    rw [splitB_zero, linesL_none _ this]; rfl
  | k + 1, s, h => by
    rcases Int.lt_or_le (indexByte s.data.toList 10) 0 with h0 | h0
    · have h1 : indexByte s.data.toList 10 = -1 := by have := indexByte_ge s.data.toList 10; omega
      rw [splitB_miss _ _ _ _ (by rw [indexN]; exact h1), linesL_none _ (indexByte_miss _ _ h1)]; rfl
    · obtain ⟨i, hi⟩ : ∃ i : Nat, indexByte s.data.toList 10 = i := ⟨(indexByte s.data.toList 10).toNat, by omega⟩
      obtain ⟨a, b, e1, e2, e3⟩ := indexByte_hit _ _ _ hi
      have x1 : (s.extract 0 (i + 0)).data.toList = a := by
        rw [ByteArray.data_extract, Array.toList_extract]
        simp only [List.extract, e1, Nat.sub_zero, List.drop_zero, Nat.add_zero]
        rw [← e2, List.take_left]
      have x2 : (s.extract (i + sepN.size) s.size).data.toList = b := by
        have hs : s.size = s.data.toList.length := Array.length_toList.symm
        rw [ByteArray.data_extract, Array.toList_extract]
        simp only [List.extract]
        rw [hs, e1, show sepN.size = 1 from rfl]
        have : (a ++ 10 :: b).drop (i + 1) = b := by
          rw [show a ++ 10 :: b = (a ++ [10]) ++ b from by rw [List.append_assoc]; rfl, show i + 1 = (a ++ [(10 : UInt8)]).length from by rw [List.length_append, e2]; rfl, List.drop_left]
        rw [this]
        apply List.take_of_length_le
        simp; omega
      have hc : (s.extract (i + sepN.size) s.size).data.toList.count 10 ≤ k := by
        rw [x2]
        rw [e1] at h
        simp at h
        omega
      rw [splitB_hit _ _ _ _ i (by rw [indexN]; exact hi), List.map_cons, x1, split_lines k _ hc, x2, e1, linesL_hit _ _ e3]
/-- the words of bytes without a '#' -/
def wordsB : List UInt8 → List UInt8 → List (List UInt8)
  | [], w => if w = [] then [] else [w]
  | c :: s, w => if c = 32 ∨ c = 9 then (if w = [] then wordsB s [] else w :: wordsB s []) else wordsB s (w ++ [c])
def stripH (l : List UInt8) : List UInt8 := l.takeWhile (· != 35)
def wordsL (l : List UInt8) : List (List UInt8) := wordsB (stripH l) []
def blankP (r : Nat) : Bool := r == 32 || r == 9
theorem decode_low (s : ByteArray) (i : Nat) (h : (s.get! i).toNat < 128) : Utf8.decode s i = ((s.get! i).toNat, 1) := by
  unfold Utf8.decode
  simp only [Nat.add_zero, h, if_true]
theorem cont_high (a : Nat) (h : (a / 64 == 2) = true) : 128 ≤ a := by have := beq_iff_eq.1 h; omega
/-- a rune whose first byte is high is high, and all its bytes are -/
theorem decode_high (s : ByteArray) (i : Nat) (hi : i < s.size) (h : 128 ≤ (s.get! i).toNat) :
    128 ≤ (Utf8.decode s i).1 ∧ 1 ≤ (Utf8.decode s i).2 ∧ i + (Utf8.decode s i).2 ≤ s.size ∧ ∀ j, j < (Utf8.decode s i).2 → 128 ≤ (s.get! (i + j)).toNat := by
  have one : 128 ≤ ((Utf8.runeError, 1) : Nat × Nat).1 ∧ 1 ≤ ((Utf8.runeError, 1) : Nat × Nat).2 ∧ i + ((Utf8.runeError, 1) : Nat × Nat).2 ≤ s.size ∧ ∀ j, j < ((Utf8.runeError, 1) : Nat × Nat).2 → 128 ≤ (s.get! (i + j)).toNat :=
    ⟨by decide, Nat.le_refl _, by show i + 1 ≤ _; omega, fun j hj => by have hj' : j < 1 := hj; have : j = 0 := by omega
                                                                        subst this; exact h⟩
  unfold Utf8.decode
  simp only [Nat.add_zero]
  rw [if_neg (by omega)]
  split
  · rename_i h1
    simp only [Bool.and_eq_true, decide_eq_true_eq] at h1
    have c1 := cont_high _ h1.2.2
    split
    · rename_i h2
      refine ⟨h2, by show 1 ≤ 2; omega, by show i + 2 ≤ _; omega, fun j hj => ?_⟩
      have hj' : j < 2 := hj
      rcases (by omega : j = 0 ∨ j = 1) with e | e <;> subst e
      · exact h
      · exact c1
    · exact one
  · split
    · rename_i h1
      simp only [Bool.and_eq_true, decide_eq_true_eq] at h1
      have c1 := cont_high _ h1.1.2.2
      have c2 := cont_high _ h1.2.2
      split
      · rename_i h2
        simp only [Bool.and_eq_true, decide_eq_true_eq] at h2
        refine ⟨by have := h2.1; omega, by show 1 ≤ 3; omega, by show i + 3 ≤ _; have := h1.2.1; omega, fun j hj => ?_⟩
        have hj' : j < 3 := hj
        rcases (by omega : j = 0 ∨ j = 1 ∨ j = 2) with e | e | e <;> subst e
        · exact h
        · exact c1
        · exact c2
      · exact one
    · split
      · rename_i h1
        simp only [Bool.and_eq_true, decide_eq_true_eq] at h1
        have c1 := cont_high _ h1.1.1.2.2
        have c2 := cont_high _ h1.1.2.2
        have c3 := cont_high _ h1.2.2
        split
        · rename_i h2
          simp only [Bool.and_eq_true, decide_eq_true_eq] at h2
          refine ⟨by have := h2.1; omega, by show 1 ≤ 4; omega, by show i + 4 ≤ _; have := h1.2.1; omega, fun j hj => ?_⟩
          have hj' : j < 4 := hj
          rcases (by omega : j = 0 ∨ j = 1 ∨ j = 2 ∨ j = 3) with e | e | e | e <;> subst e
          · exact h
          · exact c1
          · exact c2
          · exact c3
        · exact one
      · exact one
theorem get_drop (s : ByteArray) (i : Nat) (hi : i < s.size) : s.data.toList.drop i = s.get! i :: s.data.toList.drop (i + 1) := by
  have hl : i < s.data.toList.length := by rw [Array.length_toList]; exact hi
  rw [List.drop_eq_getElem_cons hl]
  congr 1
  have hi2 : i < s.data.size := hi
  show s.data.toList[i] = s.data[i]!
  rw [getElem!_pos s.data i hi2, Array.getElem_toList]
/-- the words still to come, where a word began at 'st' (its bytes so far: from st to i) -/
def wOf (s : ByteArray) (st : Option Nat) (i : Nat) : List UInt8 := match st with
  | none => []
  | some a => (s.data.toList.take i).drop a
theorem wordsB_high : ∀ (k : Nat) (l t w : List UInt8), l.length = k → (∀ c ∈ l, 128 ≤ c.toNat) → wordsB (l ++ t) w = wordsB t (w ++ l)
  | 0, l, t, w, h, _ => by rw [List.length_eq_zero_iff.1 h]; simp
  | k + 1, [], t, w, h, _ => by simp at h
  | k + 1, c :: l, t, w, h, hh => by
    have hc := hh c (List.mem_cons_self ..)
    have n1 : ¬ (c = 32 ∨ c = 9) := by rintro (rfl | rfl) <;> exact absurd hc (by decide)
    rw [List.cons_append]
    conv => lhs; unfold wordsB
    rw [if_neg n1, wordsB_high k l t (w ++ [c]) (by simpa using h) (fun x hx => hh x (List.mem_cons_of_mem _ hx)), List.append_assoc]
    rfl
theorem ext_list (s : ByteArray) (a b : Nat) : (s.extract a b).data.toList = (s.data.toList.take b).drop a := by
  rw [ByteArray.data_extract, Array.toList_extract, List.drop_take]
theorem wOf_step (s : ByteArray) (st : Option Nat) (i k : Nat) (hi : i ≤ s.size) (hst : ∀ a, st = some a → a < i) :
    wOf s (match st with | some a => some a | none => some i) (i + k) = wOf s st i ++ (s.data.toList.drop i).take k := by
  have hl : (s.data.toList.take i).length = i := by rw [List.length_take, Array.length_toList]; exact Nat.min_eq_left hi
  cases st with
  | none =>
    show (s.data.toList.take (i + k)).drop i = [] ++ _
    rw [List.take_add, List.nil_append, List.drop_append_of_le_length (by omega), List.drop_of_length_le (by omega), List.nil_append]
  | some a =>
    have ha := hst a rfl
    show (s.data.toList.take (i + k)).drop a = (s.data.toList.take i).drop a ++ _
    rw [List.take_add, List.drop_append_of_le_length (by omega)]
theorem spans_words (s : ByteArray) : ∀ (f i : Nat) (st : Option Nat) (acc : List (Nat × Nat)), s.size - i ≤ f → i ≤ s.size → (∀ a, st = some a → a < i) →
    (closeSpans s (spansFromP blankP s f i st acc)).map (fun x => (s.extract x.1 x.2).data.toList) = acc.map (fun x => (s.extract x.1 x.2).data.toList) ++ wordsB (s.data.toList.drop i) (wOf s st i) := by
  have fin : ∀ (i : Nat) (st : Option Nat) (acc : List (Nat × Nat)), i = s.size → (∀ a, st = some a → a < i) →
      (closeSpans s (acc, st)).map (fun x => (s.extract x.1 x.2).data.toList) = acc.map (fun x => (s.extract x.1 x.2).data.toList) ++ wordsB (s.data.toList.drop i) (wOf s st i) := by
    intro i st acc hi hst
    have hd : s.data.toList.drop i = [] := List.drop_of_length_le (by rw [Array.length_toList]; exact Nat.le_of_eq hi.symm)
    rw [hd]
    cases st with
    | none => simp [closeSpans, wOf, wordsB]
    | some a =>
      have hne : wOf s (some a) i ≠ [] := by
        intro h
        have := congrArg List.length h
        unfold wOf at this
        simp only [List.length_drop, List.length_take, Array.length_toList, List.length_nil] at this
        have h2 := hst a rfl
        have h3 : s.data.size = s.size := rfl
        omega
      unfold closeSpans wordsB
      rw [if_neg hne]
      simp only [List.map_append, List.map_cons, List.map_nil]
      rw [ext_list, ← hi]
      rfl
  intro f
  induction f with
  | zero => intro i st acc h hi hst; exact fin i st acc (by omega) hst
  | succ f ih =>
    intro i st acc h hi hst
    by_cases hlt : i < s.size
    · unfold spansFromP
      rw [if_pos hlt]
      by_cases hlow : (s.get! i).toNat < 128
      · rw [decode_low s i hlow]
        simp only
        rw [get_drop s i hlt]
        have hb : blankP (s.get! i).toNat = true ↔ (s.get! i = 32 ∨ s.get! i = 9) := by
          unfold blankP
          simp only [Bool.or_eq_true, beq_iff_eq]
          constructor
          · rintro (h | h)
            · exact Or.inl (UInt8.toNat_inj.1 h)
            · exact Or.inr (UInt8.toNat_inj.1 h)
          · rintro (h | h) <;> rw [h]
            · exact Or.inl rfl
            · exact Or.inr rfl
        by_cases hp : blankP (s.get! i).toNat = true
        · rw [if_pos hp]
          have hc := hb.1 hp
          conv => rhs; unfold wordsB
          rw [if_pos hc]
          cases st with
          | none =>
            show _ = _ ++ (if ([] : List UInt8) = [] then _ else _)
            rw [if_pos rfl, ih (i + 1) none acc (by omega) (by omega) (fun a h => by cases h)]
            rfl
          | some a =>
            have hne : wOf s (some a) i ≠ [] := by
              intro h
              have := congrArg List.length h
              unfold wOf at this
              simp only [List.length_drop, List.length_take, Array.length_toList, List.length_nil] at this
              have h2 := hst a rfl
              have h3 : s.data.size = s.size := rfl
              omega
            rw [if_neg hne]
            simp only
            rw [ih (i + 1) none _ (by omega) (by omega) (fun a h => by cases h), List.map_append, List.append_assoc]
            congr 1
            show [(s.extract a i).data.toList] ++ _ = _
            rw [ext_list]
            rfl
        · rw [if_neg hp]
          have hc : ¬ (s.get! i = 32 ∨ s.get! i = 9) := fun h => hp (hb.2 h)
          conv => rhs; unfold wordsB
          rw [if_neg hc]
          have e1 : (s.data.toList.drop i).take 1 = [s.get! i] := by rw [get_drop s i hlt]; rfl
          have e2 := wOf_step s st i 1 hi hst
          rw [e1] at e2
          rw [← e2]
          cases st with
          | none => exact ih (i + 1) (some i) acc (by omega) (by omega) (fun a h => by cases h; omega)
          | some a => exact ih (i + 1) (some a) acc (by omega) (by omega) (fun b h => by cases h; have := hst a rfl; omega)
      · obtain ⟨h1, h2, h3, h4⟩ := decode_high s i hlt (by omega)
        generalize Utf8.decode s i = d at *
        have hp : ¬ blankP d.1 = true := by
          unfold blankP
          simp only [Bool.or_eq_true, beq_iff_eq]
          omega
        rw [if_neg hp]
        have hsp : s.data.toList.drop i = (s.data.toList.drop i).take d.2 ++ s.data.toList.drop (i + d.2) := by
          rw [← List.drop_drop, List.take_append_drop]
        have hlen : ((s.data.toList.drop i).take d.2).length = d.2 := by
          rw [List.length_take, List.length_drop, Array.length_toList]
          have h5 : s.data.size = s.size := rfl
          omega
        have hhi : ∀ c ∈ (s.data.toList.drop i).take d.2, 128 ≤ c.toNat := by
          intro c hc
          obtain ⟨j, hj, rfl⟩ := List.getElem_of_mem hc
          have hj2 : j < d.2 := by omega
          have := h4 j hj2
          have h6 := get_drop s (i + j) (by omega)
          rw [List.getElem_take, List.getElem_drop]
          have h7 : s.data.toList.drop (i + j) = s.data.toList[i + j]'(by rw [Array.length_toList]; show _ < s.size; omega) :: s.data.toList.drop (i + j + 1) := List.drop_eq_getElem_cons _
          rw [h7] at h6
          have h8 := (List.cons.inj h6).1
          rw [h8]
          exact this
        rw [hsp, wordsB_high d.2 _ _ _ hlen hhi, ← wOf_step s st i d.2 hi hst]
        cases st with
        | none => exact ih (i + d.2) (some i) acc (by omega) h3 (fun a h => by cases h; omega)
        | some a => exact ih (i + d.2) (some a) acc (by omega) h3 (fun b h => by cases h; have := hst a rfl; omega)
    · rw [spansFromP_end blankP s (f + 1) i st acc hlt]
      exact fin i st acc (by omega) hst
theorem fields_words (s : ByteArray) : (goFieldsP blankP s).map (fun b => b.data.toList) = wordsB s.data.toList [] := by
  have h := spans_words s s.size 0 none [] (by omega) (by omega) (fun a h => by cases h)
  unfold goFieldsP spansOfP
  rw [List.map_map]
  exact h
end Go.Proofs.YteennbdakjjcfaaDoor
