/- Contract of the law's Key. -/
import Derived.Test.YtnmjkdmhfogeiaaNewB
import Derived.Deep.AppendLies
set_option linter.unusedVariables false
set_option linter.unusedSimpArgs false
namespace Go.Proofs.Ytnmjkdmhfogeiaa
open Go Go.RowKit GfM
def keyOf (a b : List Nat) (long : Bool) : List Nat := if long then a ++ b else a
theorem own_out (n1 : Nat) (L : List Nat) (n cap g : Nat) {w w' : World} (hL : L.length = n) (hn : w.heap.size ≤ n1) (h : w'.ownsRow n1 5 1 (.slice (some ⟨g, 0, none⟩) (0 + n) cap) (0 + n) ([] ++ (bA L).toList)) (hb : Below w.heap.size w w') :
    ∃ g' cap', Ending.returned (Value.slice (some ⟨g, 0, none⟩) n cap) = .returned (.slice (some ⟨g', 0, none⟩) L.length cap') ∧ L.length ≤ cap' ∧ w.heap.size ≤ g' ∧ g' < w'.heap.size ∧
        (∀ j, j < L.length → w'.cell? ⟨g', j, none⟩ = some (.int .u8 ((L.getD j 0 : Nat) : Int))) ∧ Below w.heap.size w w' := by
  rw [Nat.zero_add, List.nil_append] at h
  rcases h.2 with ⟨h, _⟩ | ⟨g', cap', cur, e1, e2, e3, e4, e5, e6, e7⟩
  · cases h
  · cases e1
    refine ⟨g, cap, by rw [hL], by omega, by omega, lt_of_block e3, fun j hj => ?_, hb⟩
    rw [cells_at e3 j]
    have := congrArg (fun l => l[j]?) e7
    simp only [Nat.mul_one] at this
    rw [List.getElem?_take_of_lt (by omega), Array.getElem?_toList, Array.getElem?_toList, bA_get L j hj] at this
    exact this
theorem own_out2 (w : World) (g cap : Nat) (a b : List Nat) (ha : a.length = 16) (hb : b.length = 16) {w' : World} (h : w'.ownsRow (w.heap.size + 2) 5 1 (.slice (some ⟨g, 0, none⟩) (0 + 16 + 16) cap) (0 + 16 + 16) ([] ++ (bA a).toList ++ (bA b).toList)) (hbl : Below w.heap.size w w') :
    ∃ g' cap', Ending.returned (Value.slice (some ⟨g, 0, none⟩) 32 cap) = .returned (.slice (some ⟨g', 0, none⟩) (a ++ b).length cap') ∧ (a ++ b).length ≤ cap' ∧ w.heap.size ≤ g' ∧ g' < w'.heap.size ∧
        (∀ j, j < (a ++ b).length → w'.cell? ⟨g', j, none⟩ = some (.int .u8 (((a ++ b).getD j 0 : Nat) : Int))) ∧ Below w.heap.size w w' :=
  own_out (w.heap.size + 2) (a ++ b) 32 cap g (by simp [ha, hb]) (by omega) (by
    have e : (bA (a ++ b)).toList = (bA a).toList ++ (bA b).toList := by simp [bA]
    rw [e, List.nil_append]; exact h) hbl
set_option maxRecDepth 100000 in
set_option maxHeartbeats 2000000 in
theorem key05_c (a b : List Nat) (ha : a.length = 16) (hb : b.length = 16) (long : Bool) (w : World) :
    Calls Try.prog 44 #[.agg (bA a), .agg (bA b), .bool long] w fun e w' =>
      ∃ g cap, e = .returned (.slice (some ⟨g, 0, none⟩) (keyOf a b long).length cap) ∧ (keyOf a b long).length ≤ cap ∧ w.heap.size ≤ g ∧ g < w'.heap.size ∧
        (∀ j, j < (keyOf a b long).length → w'.cell? ⟨g, j, none⟩ = some (.int .u8 (((keyOf a b long).getD j 0 : Nat) : Int))) ∧ Below w.heap.size w w' := by
  have HA := Lib.hid ha
  have HB := Lib.hid hb
  clear ha hb
  have b0 : ∀ o1 o2 : Obj, (((w.alloc (Obj.cells (bA a) 44)).alloc o1).alloc o2).heap[w.heap.size]? = some (.cells (bA a) 44 (0, 0)) := fun o1 o2 => by
    rw [heap_old' _ _ _ (by simp; omega), heap_old' _ _ _ (by simp), heap_new']
  have b1 : ∀ o0 o2 : Obj, (((w.alloc o0).alloc (Obj.cells (bA b) 44)).alloc o2).heap[w.heap.size + 1]? = some (.cells (bA b) 44 (0, 0)) := fun o0 o2 => by
    rw [heap_old' _ _ _ (by simp), show w.heap.size + 1 = (w.alloc o0).heap.size by simp, heap_new']
  have b2 : ∀ o0 o1 : Obj, (((w.alloc o0).alloc o1).alloc (Obj.cells #[] 5)).heap[w.heap.size + 1 + 1]? = some (.cells #[] 5 (0, 0)) := fun o0 o1 => by
    rw [show w.heap.size + 1 + 1 = ((w.alloc o0).alloc o1).heap.size by simp, heap_new']
  have B0 := Lib.hid b0
  have B1 := Lib.hid b1
  have B2 := Lib.hid b2
  clear b0 b1 b2
  obtain ⟨i0, hi, hz0, hz1, hz2⟩ := info_parts u8info
  have hown : ∀ o0 o1 : Obj, (((w.alloc o0).alloc o1).alloc (Obj.cells #[] 5)).ownsRow (w.heap.size + 2) 5 1 (.slice (some ⟨w.heap.size + 1 + 1, 0, none⟩) 0 0) 0 [] := fun o0 o1 =>
    ⟨rfl, .inr ⟨_, 0, #[], rfl, by omega, B2.out _ _, Nat.le_refl _, Nat.zero_le _, rfl, rfl⟩⟩
  have HO := Lib.hid hown
  clear hown
  have hbw : ∀ o0 o1 o2 : Obj, Below w.heap.size w (((w.alloc o0).alloc o1).alloc o2) := fun o0 o1 o2 => (((Below.refl _ _).alloc (Nat.le_refl _) o0).alloc (by simp) o1).alloc (by simp; omega) o2
  cases long with
  | false =>
    go_enter Try.func44, Try.ntmps44
    go_wp2_with (refine wpList_append_lies _ rfl (.tmp 8) (.tmp 9) 53 rfl (w.heap.size + 2) 5 i0 _ 1 1 Try.underlying53 hi hz0 hz1 hz2 rfl (by omega) (.slice (some ⟨w.heap.size + 1 + 1, 0, none⟩) 0 0) 0 [] rfl (HO.out _ _) ⟨w.heap.size, 0, none⟩ 16 16 (bA a).toList rfl (by simp [bA_size, HA.out]) (World.news_of_block (B0.out _ _)) (by simp [bA, Value.oneCell']) (by omega) (by unfold maxLen; omega) (by omega) (by simp) _ rfl ?_; intro g cap w1 hown1 hgrow hat hlt; have hb1 := (hgrow.block (w.heap.size + 1) (by simp <;> omega) (by simp [Value.ownBlock])).trans (B1.out _ _); have HB1 := Lib.hid hb1; have HO1 := Lib.hid hown1; clear hb1 hown1)
    go_ret
    exact own_out (w.heap.size + 2) a 16 cap g HA.out (by omega) HO1.out ((hbw _ _ _).grown hgrow (by simp; omega) (fun k e => by simp [Value.ownBlock] at e; omega))
  | true =>
    go_enter Try.func44, Try.ntmps44
    go_wp2_with (first | (refine wpList_append_lies _ rfl (.tmp 8) (.tmp 9) 53 rfl (w.heap.size + 2) 5 i0 _ 1 1 Try.underlying53 hi hz0 hz1 hz2 rfl (by omega) (.slice (some ⟨w.heap.size + 1 + 1, 0, none⟩) 0 0) 0 [] rfl (HO.out _ _) ⟨w.heap.size, 0, none⟩ 16 16 (bA a).toList rfl (by simp [bA_size, HA.out]) (World.news_of_block (B0.out _ _)) (by simp [bA, Value.oneCell']) (by omega) (by unfold maxLen; omega) (by omega) (by simp) _ rfl ?_; intro g cap w1 hown1 hgrow hat hlt; have hb1 := (hgrow.block (w.heap.size + 1) (by simp <;> omega) (by simp [Value.ownBlock])).trans (B1.out _ _); have HB1 := Lib.hid hb1; have HO1 := Lib.hid hown1; clear hb1 hown1) | (refine wpList_append_lies _ rfl (.tmp 12) (.tmp 13) 53 rfl (w.heap.size + 2) 5 i0 _ 1 1 Try.underlying53 hi hz0 hz1 hz2 rfl (by omega) (.slice (some ⟨g, 0, none⟩) (0 + 16) cap) (0 + 16) _ rfl HO1.out ⟨w.heap.size + 1, 0, none⟩ 16 16 (bA b).toList rfl (by simp [bA_size, HB.out]) (World.news_of_block HB1.out) (by simp [bA, Value.oneCell']) (by omega) (by unfold maxLen; omega) (by omega) (by have := hgrow.size; simp at this; omega) _ rfl ?_; intro g2 cap2 w2 hown2 hgrow2 hat2 hlt2))
    go_ret
    exact own_out2 w g2 cap2 a b HA.out HB.out hown2 ((((hbw _ _ _).grown hgrow (by simp; omega) (fun k e => by simp [Value.ownBlock] at e; omega))).grown hgrow2 (by have := hgrow.size; simp at this; omega) (fun k e => by have := own_ge HO1.out k e; omega))
end Go.Proofs.Ytnmjkdmhfogeiaa
