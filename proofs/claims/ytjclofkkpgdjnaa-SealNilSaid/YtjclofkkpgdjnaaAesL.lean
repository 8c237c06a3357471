/- Plain lists for AES: a state of sixteen bytes and the box. -/
import Derived.Test.YtjclofkkpgdjnaaCtrC
import Derived.Test.YtjclofkkpgdjnaaMixD
import Derived.StillTailTactics
set_option linter.unusedVariables false
namespace Go.Proofs.Ytjclofkkpgdjnaa
open Go Go.RowKit GfM
/-- sixteen bytes and a pointer, as cells -/
def stA (l : List Nat) (b : Nat) : Array Value := bA l ++ #[.pointer (some ⟨b, 0, none⟩)]
theorem stA_get (l : List Nat) (b k : Nat) (h : k < l.length) : (stA l b)[k]? = some (.int .u8 ((l.getD k 0 : Nat) : Int)) := by
  unfold stA; rw [Array.getElem?_append_left (by rw [bA_size]; exact h)]; exact bA_get l k h
theorem stA_box (l : List Nat) (b : Nat) (h : l.length = 16) : (stA l b)[16]? = some (.pointer (some ⟨b, 0, none⟩)) := by
  unfold stA; rw [Array.getElem?_append_right (by rw [bA_size]; omega)]; simp [bA_size, h]
theorem stA_size (l : List Nat) (b : Nat) : (stA l b).size = l.length + 1 := by simp [stA, bA_size]
theorem stA_set (l : List Nat) (b k n : Nat) (h : k < l.length) : (stA l b).setIfInBounds k (.int .u8 (n : Int)) = stA (l.set k n) b := by
  unfold stA; rw [Array.setIfInBounds_append_left (by rw [bA_size]; exact h), bA_set]
/-- the first k are other ones -/
def upd (g : Nat → Nat) (l : List Nat) (k : Nat) : List Nat := (List.range k).map g ++ l.drop k
theorem upd_zero (g : Nat → Nat) (l : List Nat) : upd g l 0 = l := by simp [upd]
theorem upd_len (g : Nat → Nat) (l : List Nat) (k : Nat) (h : k ≤ l.length) : (upd g l k).length = l.length := by simp [upd]; omega
theorem upd_get (g : Nat → Nat) (l : List Nat) (k : Nat) : (upd g l k).getD k 0 = l.getD k 0 := by
  unfold upd
  rw [List.getD_eq_getElem?_getD, List.getD_eq_getElem?_getD, List.getElem?_append_right (by simp)]; simp
theorem upd_set (g : Nat → Nat) (l : List Nat) (k : Nat) (h : k < l.length) : (upd g l k).set k (g k) = upd g l (k + 1) := by
  unfold upd
  rw [List.set_append_right _ _ (by simp), List.range_succ, List.map_append, List.append_assoc]
  congr 1
  simp only [List.length_map, List.length_range, Nat.sub_self, List.map_cons, List.map_nil, List.singleton_append]
  rw [List.drop_eq_getElem_cons h, List.set_cons_zero]
theorem upd_full (g : Nat → Nat) (l : List Nat) (n : Nat) (h : l.length = n) : upd g l n = (List.range n).map g := by
  unfold upd; rw [List.drop_of_length_le (by omega), List.append_nil]
theorem v4_bA (c : Nat → Nat) : v4 c = bA ((List.range 4).map c) := rfl
/-- four bytes of a list -/
def ofL (l : List Nat) : Nat → Nat := fun k => l.getD k 0
theorem bA_v4 (l : List Nat) (h : l.length = 4) : bA l = v4 (ofL l) := by
  match l, h with
  | [a, b, c, d], _ => rfl
end Go.Proofs.Ytjclofkkpgdjnaa
