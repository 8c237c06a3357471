/- law 25: awake. -/
import Derived.Test.YtpbmjfjnmcpieaaChLi
set_option linter.unusedVariables false
set_option linter.unusedSimpArgs false
namespace Go.Proofs.Ytpbmjfjnmcpieaa
open Go Go.RowKit
theorem slAt_row {w : World} {b : Nat} {l : List Nat} (h : w.heap[b]? = some (.cells (bA l) 5 (0, 0))) (hl : l.length = 256) (hlt : ∀ x ∈ l, x < 256) : SlAt w (rowOf b) l := by
  obtain ⟨a, c, e, hb, _⟩ := own_bytes hlt (own_blk (base := 0) h hl (by omega) (Nat.zero_le _) |> fun k => by rw [← hl] at k; exact k)
  rw [hl] at e
  cases e
  exact ⟨_, 256, by rw [hl]; rfl, hb, (fun h => by cases h), by omega, by unfold maxLen; omega⟩
/-- blocks in memory, each of its own bytes -/
theorem rows_of {w : World} {B n c : Nat} {a : Option Addr} {fs : List Nat} (f : Nat → List Nat) (hown : w.ownsRow B 34 1 (.slice a n c) n (fs.map rowOf)) (hb : ∀ b ∈ fs, w.heap[b]? = some (.cells (bA (f b)) 5 (0, 0))) (hl : ∀ b ∈ fs, (f b).length = 256 ∧ ∀ x ∈ f b, x < 256) : RowsAt w a (fs.map f) := by
  refine (rowsAt_of hown ⟨by simp, fun i l h => ?_⟩).2
  rw [List.getElem?_map] at h
  obtain ⟨b, hb1, rfl⟩ := Option.map_eq_some_iff.1 h
  have hm := List.mem_of_getElem? hb1
  exact ⟨rowOf b, by rw [List.getElem?_map, hb1]; rfl, slAt_row (hb b hm) (hl b hm).1 (hl b hm).2⟩
def z1B : List Nat := zB.set 9 1
def zP : List Pg := [⟨0, 0, 0, 0, 0⟩, ⟨0, 0, 0, 0, 0⟩, ⟨0, 0, 0, 0, 0⟩]
theorem zB_ok : zB.length = 256 ∧ ∀ x ∈ zB, x < 256 := ⟨List.length_replicate, fun x h => by have := (List.mem_replicate.1 h).2; omega⟩
theorem z1B_ok : z1B.length = 256 ∧ ∀ x ∈ z1B, x < 256 := ⟨by unfold z1B; rw [List.length_set]; exact zB_ok.1, fun x h => by
  rcases List.mem_or_eq_of_mem_set h with h1 | h1
  · exact zB_ok.2 x h1
  · omega⟩
theorem meta_z : metaN 3 [zB, zB] = some (1, zeroR, zP) := by kernel_rfl
theorem tr_z : trK [zB, zB, zB] 3 = [] := by kernel_rfl
theorem tr_1 : trK [zB, z1B, zB] 3 = [⟨5, 1⟩] := by kernel_rfl
theorem five {l : List Nat} (h : l.length = 5) : ∃ a b c d e, l = [a, b, c, d, e] := by
  match l, h with
  | [a, b, c, d, e], _ => exact ⟨a, b, c, d, e, rfl⟩
theorem own_cap {w : World} {B q o n c : Nat} {xs : List Value} {e : TypeId} {z : Nat} (h : w.ownsRow B e z (.slice (some ⟨q, o, none⟩) n c) n xs) : n ≤ c := by
  rcases h.2 with ⟨h9, _⟩ | ⟨g9, cap9, cur9, e1, e2, e3, e4, _⟩
  · cases h9
  · cases e1; exact e4
set_option maxRecDepth 100000 in
set_option maxHeartbeats 2000000 in
theorem awake25_c (w : World) :
    Calls Try.prog 7 #[] w fun e w' => e = .returned (.bool true) ∧ Below w.heap.size w w' := by
  have HG : Hid ((w.alloc (.cells #[.int .i64 3, .int .i64 4] 23)).heap[w.heap.size]? = some (.cells #[.int .i64 3, .int .i64 4] 23 (0, 0))) := heap_new' _ _
  have HE : Hid (Below w.heap.size w (w.alloc (.cells #[.int .i64 3, .int .i64 4] 23))) := below_box _ _
  have HBL : Hid (∀ w, Calls Try.prog 8 #[.agg #[.int .i64 3, .int .i64 4]] w fun e w' => ∃ v fs, e = .returned v ∧ Blk w' w.heap.size v 5 fs ∧ Below w.heap.size w w') := fun w => blank_c 3 4 (by omega) w
  have HBK : Hid (∀ (q c : Nat) (L : List (List Nat)) (w : World), 5 ≤ c → L.length = 5 → (∀ l ∈ L, l.length = 256) → metaN 3 (L.take 2) = some (1, zeroR, zP) → RowsAt w (some ⟨q, 0, none⟩) L → Calls Try.prog 6 #[.agg #[.int .i64 3, .int .i64 4], .slice (some ⟨q, 0, none⟩) 5 c] w fun e w' => ∃ fv, e = .returned (.tuple #[fv, .int .i64 0]) ∧ w'.ownsRow w.heap.size 56 2 fv (trK (L.drop 2) 3).length (cellsF (trK (L.drop 2) 3)) ∧ Below w.heap.size w w') := fun q c L w hc hL h256 hm hR =>
    blocks_free 3 4 (by decide) q 0 5 c L hL (by decide) hc h256 1 zP hm rfl (fun p hp => by simp [zP] at hp; rw [hp]) w hR
  go_enter Try.func7, Try.ntmps7
  go_wp2_with fail
  refine (HBL.out _).mono ?_
  rintro e w2 ⟨v2, fs, rfl, hblk, hb2⟩
  obtain ⟨q, c, rfl, hq0, hqs⟩ := own_some hblk.own (by omega)
  have HG2 := Lib.hid ((hb2.block _ (lt_of_block HG.out)).trans HG.out)
  have HE2 : Hid (Below w.heap.size w w2) := HE.out.trans (hb2.mono HE.out.size)
  obtain ⟨f0, f1, f2, f3, f4, rfl⟩ := five hblk.len
  have hcap := own_cap hblk.own
  have hR2 := rows_of (fun _ => zB) hblk.own (fun b hb => (hblk.blk b hb).2) (fun b _ => zB_ok)
  have hR2' : RowsAt w2 (some ⟨q, 0, none⟩) [zB, zB, zB, zB, zB] := hR2
  have HB1 := Lib.hid (HBK.out q c [zB, zB, zB, zB, zB] w2 hcap rfl (fun l hl => by simp at hl; rw [hl]; exact zB_ok.1) meta_z hR2')
  have HBLK := Lib.hid hblk
  have HCAP := Lib.hid hcap
  have HQS : Hid (w.heap.size ≤ q ∧ q < w2.heap.size) := ⟨Nat.le_trans HE.out.size hq0, hqs⟩
  clear hb2 HG HE hblk hR2 hR2' hcap hq0 hqs HBL
  go_wp2_with (first
    | (refine wpList_load_row rfl 23 (.tmp 1) rfl w.heap.size rfl _ _ _ _ HG2.out Try.underlying23 rfl (by rw [geo2]; rfl) ?_)
    | fail)
  refine HB1.out.mono ?_
  rintro e w3 ⟨fv1, rfl, ho1, hb3⟩
  have ho1' : w3.ownsRow w2.heap.size 56 2 fv1 0 [] := ho1
  obtain ⟨a1, c1, rfl⟩ := own_sliceR ho1'
  have HG3 := Lib.hid ((hb3.block _ (lt_of_block HG2.out)).trans HG2.out)
  have HE3 : Hid (Below w.heap.size w w3) := HE2.out.trans (hb3.mono HE2.out.size)
  have hbl3 := HBLK.out.up hb3
  have c3 : w3.cell? ⟨q, 3, none⟩ = some (.slice (some ⟨f3, 0, none⟩) 256 256) := (hbl3.own.cellAt 3 (by simp)).trans rfl
  have hf3 := hbl3.blk f3 (by simp)
  have c9 : w3.cell? ⟨f3, 9, none⟩ = some (.int .u8 0) := (cells_at hf3.2 9).trans (by kernel_rfl)
  have fr9 := free_at hf3.2 9
  have hBs : (w.alloc (.cells #[.int .i64 3, .int .i64 4] 23)).heap.size = w.heap.size + 1 := World.size_alloc _ _
  have hge3 : w.heap.size + 1 ≤ f3 := by rw [← hBs]; exact hf3.1
  have hqf : q ≠ f3 := by
    rintro rfl
    rcases hbl3.own.2 with ⟨h9, _⟩ | ⟨g9, cap9, cur9, e1, e2, e3, e4⟩
    · cases h9
    · cases e1
      have h9 := e3.symm.trans hf3.2
      cases h9
  have hnd := hbl3.nd
  simp only [List.nodup_cons, List.mem_cons, List.not_mem_nil, or_false, not_or] at hnd
  have hset : (w3.setCell ⟨f3, 9, none⟩ (.int .u8 1)).heap[f3]? = some (.cells (bA z1B) 5 (0, 0)) := by
    have h := block_at hf3.2 9 (.int .u8 ((1 : Nat) : Int))
    rw [bA_set] at h
    exact h
  have hoth : ∀ p : Nat, p ≠ f3 → (w3.setCell ⟨f3, 9, none⟩ (.int .u8 1)).heap[p]? = w3.heap[p]? := fun p hp => setCell_other _ _ _ _ hp
  have hown4 : (w3.setCell ⟨f3, 9, none⟩ (.int .u8 1)).ownsRow (w.alloc (.cells #[.int .i64 3, .int .i64 4] 23)).heap.size 34 1 (.slice (some ⟨q, 0, none⟩) 5 c) 5 ([f0, f1, f2, f3, f4].map rowOf) := own_keep hbl3.own (fun p hp => hoth p (by cases hp; exact hqf))
  have hR4 := rows_of (fun b => if b = f3 then z1B else zB) hown4 (fun b hb => by
    by_cases h : b = f3
    · subst h; rw [if_pos rfl]; exact hset
    · rw [if_neg h, hoth b h]; exact (hbl3.blk b hb).2) (fun b _ => by by_cases h : b = f3; · rw [if_pos h]; exact z1B_ok
                                                                       · rw [if_neg h]; exact zB_ok)
  have hR4' : RowsAt (w3.setCell ⟨f3, 9, none⟩ (.int .u8 1)) (some ⟨q, 0, none⟩) [zB, zB, zB, z1B, zB] := by
    have e : [f0, f1, f2, f3, f4].map (fun b => if b = f3 then z1B else zB) = [zB, zB, zB, z1B, zB] := by
      simp only [List.map_cons, List.map_nil, if_true]
      rw [if_neg (fun h => hnd.1.2.2.1 h), if_neg (fun h => hnd.2.1.2.1 h), if_neg (fun h => hnd.2.2.1.1 h), if_neg (fun h => hnd.2.2.2.1 h.symm)]
    rw [e] at hR4; exact hR4
  have HG4 : Hid ((w3.setCell ⟨f3, 9, none⟩ (.int .u8 1)).heap[w.heap.size]? = some (.cells #[.int .i64 3, .int .i64 4] 23 (0, 0))) := (hoth _ (by omega)).trans HG3.out
  have HE4 : Hid (Below w.heap.size w (w3.setCell ⟨f3, 9, none⟩ (.int .u8 1))) := HE3.out.setCell (by show _ ≤ f3; omega) _
  have HB4 := Lib.hid (HBK.out q c [zB, zB, zB, z1B, zB] (w3.setCell ⟨f3, 9, none⟩ (.int .u8 1)) HCAP.out rfl (fun l hl => by
    simp only [List.mem_cons, List.not_mem_nil, or_false] at hl
    rcases hl with rfl | rfl | rfl | rfl | rfl
    · exact zB_ok.1
    · exact zB_ok.1
    · exact zB_ok.1
    · exact z1B_ok.1
    · exact zB_ok.1) meta_z hR4')
  clear hR4 hR4' hown4 hoth hset hnd hqf hge3 hBs hf3 hbl3 hb3 ho1 ho1' HG3 HE3 HBLK HQS HBK HB1
  go_wp2_with (first
    | (refine wpList_load_row rfl 23 (.tmp 1) rfl w.heap.size rfl _ _ _ _ HG4.out Try.underlying23 rfl (by rw [geo2]; rfl) ?_)
    | fail)
  refine HB4.out.mono ?_
  rintro e w5 ⟨fv2, rfl, ho5, hb5⟩
  have ho5' : w5.ownsRow (w3.setCell ⟨f3, 9, none⟩ (.int .u8 1)).heap.size 56 2 fv2 1 [.int .i64 5, .int .i64 1] := ho5
  obtain ⟨g5, k5, rfl, _, _⟩ := own_some ho5' (by omega)
  have k0 : w5.cell? ⟨g5, 0, none⟩ = some (.int .i64 5) := (ho5'.cellAt 0 (by simp)).trans rfl
  have k1 : w5.cell? ⟨g5, 1, none⟩ = some (.int .i64 1) := (ho5'.cellAt 1 (by simp)).trans rfl
  have HE5 : Hid (Below w.heap.size w w5) := HE4.out.trans (hb5.mono HE4.out.size)
  clear ho5 ho5' hb5 c3 c9 fr9 HG4 HE4 HB4 HG2 HE2
  go_wp2
  go_ret
  exact ⟨rfl, HE5.out⟩
end Go.Proofs.Ytpbmjfjnmcpieaa
