/- Contract of ctr.Counter. -/
import Derived.Test.YtjclofkkpgdjnaaCat
import Derived.Deep.MidRow
import Derived.Laws.Cover3
import Derived.Laws.CopyOwn
set_option linter.unusedVariables false
namespace Go.Proofs.Ytjclofkkpgdjnaa
open Go Go.RowKit
def ctrB (e b l : Nat) : List Nat := highB 8 e ++ (highB 4 b ++ (highB 2 l ++ [0, 0]))
theorem ctrB_len (e b l : Nat) : (ctrB e b l).length = 16 := by simp [ctrB, highB_len]
theorem zero16 : (Try.prog.info? 88).map (·.size) = some 16 := by kernel_rfl
set_option maxRecDepth 100000 in
set_option maxHeartbeats 2000000 in
theorem counter_c (e b l : Nat) (he : e < 18446744073709551616) (hb : b < 4294967296) (hl : l < 65536) (w : World) :
    Calls Try.prog 55 #[.int .u64 (e : Int), .int .u32 (b : Int), .int .u16 (l : Int)] w
      fun r w' => r = .returned (.agg (bA (ctrB e b l))) ∧ Below w.heap.size w w' := by
  go_enter Try.func55, Try.ntmps55
  go_wp2_with fail
  refine (high_c 8 e he (by omega) (by omega) _ _ rfl rfl _).mono ?_
  rintro r w1 ⟨b1, rfl, hb1, hz1, hB1, hbel1⟩
  have hr1 := (hbel1.block w.heap.size (by simp)).trans (heap_new' w _)
  have HR1 := Lib.hid hr1
  have HB1 := Lib.hid hB1
  have hbw1 := (((Below.refl w.heap.size w).alloc (Nat.le_refl _) _).trans (hbel1.mono (by simp)))
  have hs1 : w.heap.size < w1.heap.size := by have := hbel1.size; simp at this; omega
  clear hr1 hB1 hbel1 hb1
  go_wp2_with fail
  refine (high_c 4 b (by omega) (by omega) (by omega) _ _ rfl rfl _).mono ?_
  rintro r w2 ⟨b2, rfl, hb2, hz2, hB2, hbel2⟩
  have HR2 := Lib.hid ((hbel2.block w.heap.size hs1).trans HR1.out)
  have HC1 := Lib.hid ((hbel2.block b1 hz1).trans HB1.out)
  have HB2 := Lib.hid hB2
  have hbw2 := hbw1.trans (hbel2.mono (by omega))
  have hs2 := hbel2.size
  clear hB2 hbel2 hb2 hbw1 HR1 HB1
  go_wp2_with fail
  refine (high_c 2 l (by omega) (by omega) (by omega) _ _ rfl rfl _).mono ?_
  rintro r w3 ⟨b3, rfl, hb3, hz3, hB3, hbel3⟩
  have HR3 := Lib.hid ((hbel3.block w.heap.size (by omega)).trans HR2.out)
  have HD1 := Lib.hid ((hbel3.block b1 (by omega)).trans HC1.out)
  have HD2 := Lib.hid ((hbel3.block b2 (by omega)).trans HB2.out)
  have HD3 := Lib.hid hB3
  have hbw3 := hbw2.trans (hbel3.mono (by omega))
  have hs3 := hbel3.size
  clear hB3 hbel3 hb3 hbw2 HR2 HC1 HB2
  have HBW := Lib.hid hbw3
  clear hbw3
  go_wp2_with fail
  obtain ⟨segs, hsegs⟩ : ∃ segs : List (Nat × List Nat), segs = [(b1, highB 8 e), (b2, highB 4 b), (b3, highB 2 l), (w3.heap.size, [0, 0])] := ⟨_, rfl⟩
  have hlen : segs.length = 4 := by rw [hsegs]; rfl
  have htot : totL segs = 16 := by rw [hsegs]; simp [totL, highB_len]
  have hcat : catL segs = ctrB e b l := by rw [hsegs]; simp [catL, ctrB]
  have hsA : segA segs = #[.slice (some ⟨b1, 0, none⟩) 8 8, .slice (some ⟨b2, 0, none⟩) 4 4, .slice (some ⟨b3, 0, none⟩) 2 2, .slice (some ⟨w3.heap.size, 0, none⟩) 2 2] := by
    rw [hsegs]; simp [segA, segV, highB_len]
  obtain ⟨W, hW⟩ : ∃ W, W = (w3.alloc (.cells #[.int .u8 0, .int .u8 0] 5)).alloc (.cells #[.slice (some ⟨b1, 0, none⟩) 8 8, .slice (some ⟨b2, 0, none⟩) 4 4, .slice (some ⟨b3, 0, none⟩) 2 2, .slice (some ⟨w3.heap.size, 0, none⟩) 2 2] 32) := ⟨_, rfl⟩
  rw [← hW]
  have hold : ∀ k, k < w3.heap.size → W.heap[k]? = w3.heap[k]? := fun k hk => by
    rw [hW, heap_old' _ _ _ (by simp; omega), heap_old' _ _ _ hk]
  have hin : SegsIn W segs := by
    intro s hs
    rw [hsegs] at hs
    simp only [List.mem_cons, List.not_mem_nil, or_false] at hs
    rcases hs with rfl | rfl | rfl | rfl
    · exact (hold _ (by show b1 < _; omega)).trans HD1.out
    · exact (hold _ (by show b2 < _; omega)).trans HD2.out
    · exact (hold _ (by show b3 < _; omega)).trans HD3.out
    · show W.heap[w3.heap.size]? = _
      rw [hW, heap_old' _ _ _ (by simp), heap_new']; rfl
  have hbs : W.heap[w3.heap.size + 1]? = some (.cells (segA segs) 32 (0, 0)) := by
    rw [hW, hsA, show w3.heap.size + 1 = (w3.alloc (.cells #[.int .u8 0, .int .u8 0] 5)).heap.size by simp, heap_new']
  have hc := concat_c segs (w3.heap.size + 1) W hbs hin (by omega) (by omega) (by omega)
  rw [hlen] at hc
  have hWr := (hold w.heap.size (by omega)).trans HR3.out
  have hWz : w3.heap.size + 2 = W.heap.size := by rw [hW]; simp
  have hbW : Below w.heap.size w W := by
    rw [hW]; exact (HBW.out.alloc (by omega) _).alloc (by simp; omega) _
  clear hW
  refine hc.mono ?_
  rintro r w5 ⟨v, rfl, hown, hbel5⟩
  rw [htot, hcat] at hown
  obtain ⟨hxl, hv⟩ := hown
  rcases hv with ⟨rfl, hbad⟩ | ⟨g, cap, cur, rfl, hg, hcur, hcap, hcm, hsz, htk⟩
  · omega
  have hr5 := (hbel5.block w.heap.size (by omega)).trans hWr
  have hrange : w5.rangeAt g 0 ((ctrB e b l).map fun (n : Nat) => Value.int .u8 (n : Int)) := by
    intro j v hv
    rw [Nat.zero_add, cells_at hcur j, ← Array.getElem?_toList]
    rw [← htk] at hv
    rw [List.getElem?_take] at hv
    split at hv
    · exact hv
    · cases hv
  have HRG := Lib.hid hrange
  have HR5 := Lib.hid hr5
  have hb5 := Lib.hid (hbW.trans (hbel5.mono (by omega)))
  clear hrange hr5 hbel5 hbW hWr hc hbs hin hold hsA hcat htot hlen hsegs hxl hcur hsz htk HR3 HD1 HD2 HD3 HBW hg hWz
  have ha : ∀ w, (Instr.arrayAt 88 (.slice (some ⟨g, 0, none⟩) 16 cap)).run Try.prog w = .ok (.pointer (some ⟨g, 0, none⟩)) w := fun w => run_arrayAt w 88 5 16 (some ⟨g, 0, none⟩) 16 cap Try.underlying88 (by omega)
  go_wp2_with (first
    | (refine wpList_load_mid rfl 88 (.tmp 20) rfl g 0 rfl _ _ HRG.out Try.underlying88 rfl (by rw [zero16]; simp [ctrB_len]) ?_)
    | (refine wpList_store_row rfl 88 (.tmp 6) (.tmp 21) rfl w.heap.size _ rfl rfl 88 _ HR5.out (by rw [zero16]; simp [ctrB_len]) (by simp [ctrB_len]) (by rw [← Array.all_toList]; simp [Value.oneCell']) ?_))
  exact bodyPost_ret (results_cell_row rfl _ _ w.heap.size 88 (bA (ctrB e b l)) (0, 0) _ rfl (setRow_heap _ _ _ _ _ _ HR5.out) Try.underlying88 rfl (by rw [zero16, bA_size, ctrB_len])) rfl ⟨rfl, below_setRow hb5.out (Nat.le_refl _) _⟩
end Go.Proofs.Ytjclofkkpgdjnaa
