/- The reference's cipher (05): the square of a state; plain laws. -/
import Derived.Test.YtnmjkdmhfogeiaaAesX
set_option linter.unusedVariables false
namespace Go.Proofs.Ytnmjkdmhfogeiaa
open Go Go.RowKit GfM
def tr (k : Nat) : Nat := k % 4 * 4 + k / 4
theorem tr_lt (k : Nat) (h : k < 16) : tr k < 16 := by unfold tr; omega
theorem tr_tr (k : Nat) (h : k < 16) : tr (tr k) = k := by unfold tr; omega
/-- the square of sixteen bytes, row by row -/
def sqL (l : List Nat) : List Nat := (List.range 16).map fun i => l.getD (tr i) 0
theorem sqL_len (l : List Nat) : (sqL l).length = 16 := by simp [sqL]
theorem sqL_get (l : List Nat) (i : Nat) (h : i < 16) : (sqL l).getD i 0 = l.getD (tr i) 0 := by simp [sqL, h]
theorem getD_set (l : List Nat) (i j v : Nat) (h : i < l.length) : (l.set i v).getD j 0 = if i = j then v else l.getD j 0 := by
  rw [List.getD_eq_getElem?_getD, List.getElem?_set, List.getD_eq_getElem?_getD]
  by_cases e : i = j
  · subst e; simp [h]
  · simp [e]
theorem sqL_set (M : List Nat) (hM : M.length = 16) (k v : Nat) (hk : k < 16) : (sqL M).set (tr k) v = sqL (M.set k v) := by
  apply ext16 (by simp [sqL]) (sqL_len _)
  intro i hi
  rw [getD_set _ _ _ _ (by rw [sqL_len]; exact tr_lt k hk), sqL_get _ i hi, sqL_get _ i hi, getD_set _ _ _ _ (by omega)]
  by_cases e : tr k = i
  · rw [if_pos e, if_pos (by rw [← e, tr_tr k hk])]
  · rw [if_neg e, if_neg (fun h => e (by rw [h, tr_tr i hi]))]
theorem sq_map (h : Nat → Nat) (l : List Nat) (e : ∀ i, i < 16 → h i = l.getD (tr i) 0) : (List.range 16).map h = sqL l := by
  apply List.map_congr_left
  intro i hi
  exact e i (by simpa using hi)
theorem mix_ref (c : Nat → Nat) (hc : ∀ j, j < 4 → c j < 256) (j : Nat) (hj : j < 4) :
    mixN c j = tw (c j) ^^^ tw (c ((j + 1) % 4)) ^^^ c ((j + 1) % 4) ^^^ c ((j + 2) % 4) ^^^ c ((j + 3) % 4) := by
  unfold mixN
  have ht := tw_xor (c j) (c ((j + 1) % 4)) (hc j hj) (hc _ (by omega))
  rw [ht]
  generalize tw (c j) = a
  generalize tw (c ((j + 1) % 4)) = b
  have hcase : j = 0 ∨ j = 1 ∨ j = 2 ∨ j = 3 := by omega
  rcases hcase with rfl | rfl | rfl | rfl <;> simp only [Nat.reduceAdd, Nat.reduceMod] <;>
    (apply Nat.eq_of_testBit_eq; intro i; simp only [Nat.testBit_xor]; cases (c 0).testBit i <;> cases (c 1).testBit i <;> cases (c 2).testBit i <;> cases (c 3).testBit i <;> cases a.testBit i <;> cases b.testBit i <;> rfl)
/-- the reference's cipher in memory -/
structure RCip (w : World) (c g n cap r : Nat) (W : List Nat) : Prop where
  fcells : ∃ A, w.heap[c]? = some (.cells A 67 (0, 0)) ∧ (∀ j, j < 256 → A[j]? = some (.int .u8 ((sbx j : Nat) : Int))) ∧ (∀ j, j < 256 → A[256 + j]? = some (.int .u8 ((tw j : Nat) : Int))) ∧
    A[512]? = some (.slice (some ⟨g, 0, none⟩) n cap) ∧ A[513]? = some (.int .i64 (r : Int))
  flen : W.length = 4 * n
  fcap : n ≤ cap
  fcapm : cap ≤ maxLen
  fwords : ∃ A, w.heap[g]? = some (.cells A 49 (0, 0)) ∧ A.size = 4 * cap ∧ ∀ k, k < W.length → A[k]? = some (.int .u8 ((W.getD k 0 : Nat) : Int))
  fbyte : ∀ x ∈ W, x < 256
theorem RCip.lt {w : World} {c g n cap r : Nat} {W : List Nat} (h : RCip w c g n cap r W) : c < w.heap.size ∧ g < w.heap.size := by
  obtain ⟨⟨A, h1, _⟩, _, _, _, ⟨B, h4, _⟩, _⟩ := h
  exact ⟨lt_of_block h1, lt_of_block h4⟩
theorem RCip.up {w w' : World} {c g n cap r B : Nat} {W : List Nat} (h : RCip w c g n cap r W) (hb : Below B w w') (hB : w.heap.size ≤ B) : RCip w' c g n cap r W := by
  obtain ⟨l1, l2⟩ := h.lt
  obtain ⟨⟨A, h1, hr⟩, h2, h3, h3b, ⟨A', h4, h5⟩, h6⟩ := h
  exact ⟨⟨A, (hb.block c (by omega)).trans h1, hr⟩, h2, h3, h3b, ⟨A', (hb.block g (by omega)).trans h4, h5⟩, h6⟩
theorem RCip.bx {w : World} {c g n cap r : Nat} {W : List Nat} (h : RCip w c g n cap r W) (j : Nat) (hj : j < 256) : w.cell? ⟨c, j, none⟩ = some (.int .u8 ((sbx j : Nat) : Int)) := by
  obtain ⟨⟨A, h1, h2, _⟩, _⟩ := h
  exact (cells_at h1 j).trans (h2 j hj)
theorem RCip.tw {w : World} {c g n cap r : Nat} {W : List Nat} (h : RCip w c g n cap r W) (j : Nat) (hj : j < 256) : w.cell? ⟨c, 256 + j, none⟩ = some (.int .u8 ((GfM.tw j : Nat) : Int)) := by
  obtain ⟨⟨A, h1, _, h2, _⟩, _⟩ := h
  exact (cells_at h1 _).trans (h2 j hj)
theorem RCip.ws {w : World} {c g n cap r : Nat} {W : List Nat} (h : RCip w c g n cap r W) : w.cell? ⟨c, 512, none⟩ = some (.slice (some ⟨g, 0, none⟩) n cap) := by
  obtain ⟨⟨A, h1, _, _, h2, _⟩, _⟩ := h
  exact (cells_at h1 _).trans h2
theorem RCip.rs {w : World} {c g n cap r : Nat} {W : List Nat} (h : RCip w c g n cap r W) : w.cell? ⟨c, 513, none⟩ = some (.int .i64 (r : Int)) := by
  obtain ⟨⟨A, h1, _, _, _, h2⟩, _⟩ := h
  exact (cells_at h1 _).trans h2
theorem RCip.wd {w : World} {c g n cap r : Nat} {W : List Nat} (h : RCip w c g n cap r W) (k : Nat) (hk : k < W.length) : w.cell? ⟨g, k, none⟩ = some (.int .u8 ((W.getD k 0 : Nat) : Int)) := by
  obtain ⟨_, _, _, _, ⟨A, h4, _, h5⟩, _⟩ := h
  exact (cells_at h4 k).trans (h5 k hk)
end Go.Proofs.Ytnmjkdmhfogeiaa
