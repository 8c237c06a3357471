/- The law's Cut, with what it is laid in. -/
import Derived.Test.YthpglpnonecnfaaPkE
set_option linter.unusedVariables false
set_option linter.unusedSimpArgs false
namespace Go.Proofs.Ythpglpnonecnfaa
open Go Go.RowKit Sha
set_option maxRecDepth 100000 in
set_option maxHeartbeats 8000000 in
theorem cut2_c (W0 : World) (a : Option Addr) (n cap : Nat) (L : List (List Nat)) (R : List Int) (hn : L.length = n) (hR16 : R.length = 16) (w : World) (hWw : Below W0.heap.size W0 w) (hR : RowsAt W0 a L) :
    Calls Try.prog 6 #[.agg (packA (.slice a n cap) R)] w fun e w' =>
      (∃ a' c' xs, e = .returned (.agg (packA (.slice a' (cutL L).length c') R)) ∧ Hid (w'.ownsRow (w.heap.size + 1) 27 1 (.slice a' (cutL L).length c') (cutL L).length xs) ∧ Hid (RowsV W0 xs (cutL L))) ∧ Below w.heap.size w w' := by
  obtain ⟨r0, r1, r2, r3, r4, r5, r6, r7, r8, r9, r10, r11, r12, r13, r14, r15, hRR⟩ := sixteen_of hR16
  subst hRR
  have HB1 : Hid (((w.alloc (.cells (packA (.slice a n cap) [r0, r1, r2, r3, r4, r5, r6, r7, r8, r9, r10, r11, r12, r13, r14, r15]) 25)).alloc (.cells #[.slice none 0 0, .int .i64 0, .int .i64 0, .int .i64 0, .int .i64 0, .int .i64 0, .int .i64 0, .int .i64 0, .int .i64 0, .int .i64 0, .int .i64 0, .int .i64 0, .int .i64 0, .int .i64 0, .int .i64 0, .int .i64 0, .int .i64 0] 25)).heap[w.heap.size]? = some (.cells (packA (.slice a n cap) [r0, r1, r2, r3, r4, r5, r6, r7, r8, r9, r10, r11, r12, r13, r14, r15]) 25 (0, 0))) := (heap_old' _ _ _ (by simp)).trans (heap_new' _ _)
  have HZ1 : Hid (((w.alloc (.cells (packA (.slice a n cap) [r0, r1, r2, r3, r4, r5, r6, r7, r8, r9, r10, r11, r12, r13, r14, r15]) 25)).alloc (.cells #[.slice none 0 0, .int .i64 0, .int .i64 0, .int .i64 0, .int .i64 0, .int .i64 0, .int .i64 0, .int .i64 0, .int .i64 0, .int .i64 0, .int .i64 0, .int .i64 0, .int .i64 0, .int .i64 0, .int .i64 0, .int .i64 0, .int .i64 0] 25)).heap[w.heap.size + 1]? = some (.cells #[.slice none 0 0, .int .i64 0, .int .i64 0, .int .i64 0, .int .i64 0, .int .i64 0, .int .i64 0, .int .i64 0, .int .i64 0, .int .i64 0, .int .i64 0, .int .i64 0, .int .i64 0, .int .i64 0, .int .i64 0, .int .i64 0, .int .i64 0] 25 (0, 0))) := by
    exact (by simp : w.heap.size + 1 = (w.alloc (.cells (packA (.slice a n cap) [r0, r1, r2, r3, r4, r5, r6, r7, r8, r9, r10, r11, r12, r13, r14, r15]) 25)).heap.size) ▸ heap_new' _ _
  have HE1 : Hid (Below w.heap.size w ((w.alloc (.cells (packA (.slice a n cap) [r0, r1, r2, r3, r4, r5, r6, r7, r8, r9, r10, r11, r12, r13, r14, r15]) 25)).alloc (.cells #[.slice none 0 0, .int .i64 0, .int .i64 0, .int .i64 0, .int .i64 0, .int .i64 0, .int .i64 0, .int .i64 0, .int .i64 0, .int .i64 0, .int .i64 0, .int .i64 0, .int .i64 0, .int .i64 0, .int .i64 0, .int .i64 0, .int .i64 0] 25))) := ((Below.refl _ _).alloc (Nat.le_refl _) _).alloc (by simp) _
  have HR1 : Hid (((w.alloc (.cells (packA (.slice a n cap) [r0, r1, r2, r3, r4, r5, r6, r7, r8, r9, r10, r11, r12, r13, r14, r15]) 25)).alloc (.cells #[.slice none 0 0, .int .i64 0, .int .i64 0, .int .i64 0, .int .i64 0, .int .i64 0, .int .i64 0, .int .i64 0, .int .i64 0, .int .i64 0, .int .i64 0, .int .i64 0, .int .i64 0, .int .i64 0, .int .i64 0, .int .i64 0, .int .i64 0] 25)).rangeAt w.heap.size 1 [.int .i64 r0, .int .i64 r1, .int .i64 r2, .int .i64 r3, .int .i64 r4, .int .i64 r5, .int .i64 r6, .int .i64 r7, .int .i64 r8, .int .i64 r9, .int .i64 r10, .int .i64 r11, .int .i64 r12, .int .i64 r13, .int .i64 r14, .int .i64 r15]) := pack_roots HB1.out
  have HS1 : Hid (((w.alloc (.cells (packA (.slice a n cap) [r0, r1, r2, r3, r4, r5, r6, r7, r8, r9, r10, r11, r12, r13, r14, r15]) 25)).alloc (.cells #[.slice none 0 0, .int .i64 0, .int .i64 0, .int .i64 0, .int .i64 0, .int .i64 0, .int .i64 0, .int .i64 0, .int .i64 0, .int .i64 0, .int .i64 0, .int .i64 0, .int .i64 0, .int .i64 0, .int .i64 0, .int .i64 0, .int .i64 0] 25)).heap.size = w.heap.size + 2) := by show _ = _; simp
  have HRW := Lib.hid hR
  have HWW := Lib.hid hWw
  clear hWw
  have HN := Lib.hid hn
  clear hR hn hR16
  go_enter Try.func6, Try.ntmps6
  go_wp2_with (first
    | (refine wpList_load_mid rfl 23 (.tmp 6) rfl w.heap.size 1 rfl [.int .i64 r0, .int .i64 r1, .int .i64 r2, .int .i64 r3, .int .i64 r4, .int .i64 r5, .int .i64 r6, .int .i64 r7, .int .i64 r8, .int .i64 r9, .int .i64 r10, .int .i64 r11, .int .i64 r12, .int .i64 r13, .int .i64 r14, .int .i64 r15] _ HR1.out Try.underlying23 rfl (by rw [sixteen23]; rfl) ?_; generalize ((w.alloc (.cells (packA (.slice a n cap) [r0, r1, r2, r3, r4, r5, r6, r7, r8, r9, r10, r11, r12, r13, r14, r15]) 25)).alloc (.cells #[.slice none 0 0, .int .i64 0, .int .i64 0, .int .i64 0, .int .i64 0, .int .i64 0, .int .i64 0, .int .i64 0, .int .i64 0, .int .i64 0, .int .i64 0, .int .i64 0, .int .i64 0, .int .i64 0, .int .i64 0, .int .i64 0, .int .i64 0] 25)) = w1 at *; have HZ2 : Hid ((w1.alloc (.cells #[.slice none 0 0, .int .i64 0, .int .i64 0, .int .i64 0, .int .i64 0, .int .i64 0, .int .i64 0, .int .i64 0, .int .i64 0, .int .i64 0, .int .i64 0, .int .i64 0, .int .i64 0, .int .i64 0, .int .i64 0, .int .i64 0, .int .i64 0] 25)).heap[w1.heap.size]? = some (.cells #[.slice none 0 0, .int .i64 0, .int .i64 0, .int .i64 0, .int .i64 0, .int .i64 0, .int .i64 0, .int .i64 0, .int .i64 0, .int .i64 0, .int .i64 0, .int .i64 0, .int .i64 0, .int .i64 0, .int .i64 0, .int .i64 0, .int .i64 0] 25 (0, 0))) := heap_new' _ _)
    | (refine wpList_store_row rfl 25 (.tmp 3) (.tmp 8) rfl w1.heap.size #[.slice none 0 0, .int .i64 r0, .int .i64 r1, .int .i64 r2, .int .i64 r3, .int .i64 r4, .int .i64 r5, .int .i64 r6, .int .i64 r7, .int .i64 r8, .int .i64 r9, .int .i64 r10, .int .i64 r11, .int .i64 r12, .int .i64 r13, .int .i64 r14, .int .i64 r15] rfl rfl 25 _ HZ2.out (by rw [pack25]; rfl) (by rfl) (by simp [Value.oneCell']) ?_; generalize hW5 : World.setRow _ _ _ = w5; have HO5 : Hid (w5.heap[w1.heap.size]? = some (.cells (packA (.slice none 0 0) [r0, r1, r2, r3, r4, r5, r6, r7, r8, r9, r10, r11, r12, r13, r14, r15]) 25 (0, 0))) := (by rw [← hW5]; exact setRow_heap _ _ _ _ _ _ HZ2.out); have HB5 : Hid (Below w1.heap.size w1 w5) := (by rw [← hW5]; exact below_setRow ((Below.refl _ _).alloc (Nat.le_refl _) _) (Nat.le_refl _) _); clear hW5; have HBX5 := Lib.hid ((HB5.out.block _ (lt_of_block HB1.out)).trans HB1.out); have c50 := (cells_at HBX5.out 0).trans (show _ = some (Value.slice a n cap) from rfl))
    | fail)
  have HZ5 := Lib.hid ((HB5.out.block _ (lt_of_block HZ1.out)).trans HZ1.out)
  have HE5 : Hid (Below w.heap.size w w5) := HE1.out.trans (HB5.out.mono HE1.out.size)
  have HLT : Hid (w.heap.size + 2 = w1.heap.size ∧ w1.heap.size < w5.heap.size) := ⟨HS1.out.symm, lt_of_block HO5.out⟩
  clear HZ2 HB5 HZ1 HB1 HE1 HR1 HS1 c50 HBX5
  generalize w1.heap.size = ob at *
  go_loopw [12] (fun vi wr => ∃ k : Nat, k ≤ n ∧ k ≤ 12 ∧ vi = .int .i64 (k : Int) ∧ ∃ a5 c5 xs, Hid (wr.heap[ob]? = some (.cells (packA (.slice a5 k c5) [r0, r1, r2, r3, r4, r5, r6, r7, r8, r9, r10, r11, r12, r13, r14, r15]) 25 (0, 0))) ∧ Hid (wr.ownsRow (ob + 1) 27 1 (.slice a5 k c5) k xs) ∧ Hid (RowsV W0 xs (cutL (L.take k))) ∧ Hid (wr.heap[w.heap.size + 1]? = some (.cells #[.slice none 0 0, .int .i64 0, .int .i64 0, .int .i64 0, .int .i64 0, .int .i64 0, .int .i64 0, .int .i64 0, .int .i64 0, .int .i64 0, .int .i64 0, .int .i64 0, .int .i64 0, .int .i64 0, .int .i64 0, .int .i64 0, .int .i64 0] 25 (0, 0))) ∧ Hid (Below w.heap.size w wr) ∧ Hid (ob < wr.heap.size)) (fun vi _ => n - (intOf vi).toNat)
  case atStart => exact ⟨0, by omega, by omega, rfl, none, 0, [], HO5.out, World.ownsRow_nil _ _ _ _, rowsV_nil _, HZ5.out, HE5.out, HLT.out.2⟩
  case round =>
    clear HO5 HZ5 HE5
    obtain ⟨k, hk, hk12, rfl, a5, c5, xs, hob, hown, hrv, hz, hbel, hsz⟩ := hrel
    by_cases hlt : k < n
    · have hd : decide ((k : Int) < (n : Int)) = true := by simp; omega
      have dl : (k : Int) < (n : Int) := by omega
      have dk0 : ¬ (k : Int) < 0 := by omega
      have hkl : k < L.length := by rw [HN.out]; exact hlt
      obtain ⟨l, hl⟩ : ∃ l, l = L[k] := ⟨_, rfl⟩
      obtain ⟨g, o, v, hag, hg, hcell, hsl⟩ := HRW.out k l (by rw [hl]; exact List.getElem?_eq_getElem hkl)
      subst hag
      obtain ⟨pa, pc, rfl, hrest⟩ := id hsl
      obtain ⟨ln, hln⟩ : ∃ ln, ln = l.length := ⟨_, rfl⟩
      have cl : wr.cell? ⟨g, o + k, none⟩ = some (.slice pa ln pc) := by rw [hln]; exact (hbel.out.cell (p := ⟨g, o + k, none⟩) (Nat.lt_of_lt_of_le hg HWW.out.size)).trans ((HWW.out.cell (p := ⟨g, o + k, none⟩) hg).trans hcell)
      by_cases h12 : k < 12
      · have d12 : decide ((k : Int) ≥ 12) = false := by simp; omega
        have hcs := cutL_succ L k hkl h12
        rw [← hl] at hcs
        have HCS := Lib.hid hcs
        have c0 := (cells_at hob.out 0).trans (show _ = some (Value.slice a5 k c5) from rfl)
        have ek : IntKind.i64.wrap ((k : Int) + 1) = (k : Int) + 1 := IntWalk.i64_in _ (by omega)
        have HK := Lib.hid (And.intro hlt h12)
        by_cases h900 : ln > 900
        · have d9 : decide ((ln : Int) > 900) = true := by simp; omega
          obtain ⟨g2, o2, hpa, hsl9⟩ := slAt_take hsl (by omega)
          subst hpa
          have HSL := Lib.hid hsl9
          have s1 : (900 : Int) ≤ (pc : Int) := by obtain ⟨_, c9, h1, _, _, h4, _⟩ := hsl9; injection h1 with _ _ h1; subst h1; have : (l.take 900).length = 900 := (by simp; omega); omega
          clear hcs hl hln hcell hrest hg hsl hsl9 hkl hk hk12 h900 hlt h12
          have HBS : Hid ((wr.alloc (.cells #[.slice (some ⟨g2, o2, none⟩) 900 pc] 27)).cell? ⟨wr.heap.size, 0, none⟩ = some (.slice (some ⟨g2, o2, none⟩) 900 pc)) := (cells_at (heap_new' _ _) 0).trans rfl
          have HOA : Hid ((wr.alloc (.cells #[.slice (some ⟨g2, o2, none⟩) 900 pc] 27)).ownsRow (ob + 1) 27 1 (.slice a5 k c5) k xs) := World.ownsRow.alloc hown.out _
          have HBA : Hid (Below w.heap.size w (wr.alloc (.cells #[.slice (some ⟨g2, o2, none⟩) 900 pc] 27))) := hbel.out.alloc hbel.out.size _
          have HZA : Hid ((wr.alloc (.cells #[.slice (some ⟨g2, o2, none⟩) 900 pc] 27)).heap[w.heap.size + 1]? = some (.cells #[.slice none 0 0, .int .i64 0, .int .i64 0, .int .i64 0, .int .i64 0, .int .i64 0, .int .i64 0, .int .i64 0, .int .i64 0, .int .i64 0, .int .i64 0, .int .i64 0, .int .i64 0, .int .i64 0, .int .i64 0, .int .i64 0, .int .i64 0] 25 (0, 0))) := (heap_old' _ _ _ (lt_of_block hz.out)).trans hz.out
          have HBO : Hid ((wr.alloc (.cells #[.slice (some ⟨g2, o2, none⟩) 900 pc] 27)).heap[ob]? = some (.cells (packA (.slice a5 k c5) [r0, r1, r2, r3, r4, r5, r6, r7, r8, r9, r10, r11, r12, r13, r14, r15]) 25 (0, 0))) := (heap_old' _ _ _ hsz.out).trans hob.out
          have HSA : Hid (ob < (wr.alloc (.cells #[.slice (some ⟨g2, o2, none⟩) 900 pc] 27)).heap.size) := lt_of_block HBO.out
          go_wp2_with (first
            | (refine wpList_append_row (v := .slice a5 k c5) (base := ob + 1) (n := k) (xs := xs) (u := .slice (some ⟨g2, o2, none⟩) 900 pc) rfl (.tmp 25) (.tmp 27) rfl rfl HOA.out rfl HBS.out rfl (by have := HK.out.2; omega) HSA.out ?_; intro v6 w6 hown6 hgr6; have HOWN6 := Lib.hid hown6; have HO6 : Hid (w6.heap[ob]? = some (.cells (packA (.slice a5 k c5) [r0, r1, r2, r3, r4, r5, r6, r7, r8, r9, r10, r11, r12, r13, r14, r15]) 25 (0, 0))) := (hgr6.block _ HSA.out (fun e => by have := (HOA.out.lt _ e.symm).1; omega)).trans HBO.out; have HZ6 := Lib.hid ((hgr6.block _ (lt_of_block HZA.out) (fun e => by have := (HOA.out.lt _ e.symm).1; have := HLT.out.1; omega)).trans HZA.out); have HE6 : Hid (Below w.heap.size w w6) := HBA.out.grown hgr6 HBA.out.size (fun q h => by have := (HOA.out.lt q h).1; have := HLT.out.1; omega); have HS6 : Hid (ob < w6.heap.size) := Nat.lt_of_lt_of_le HSA.out hgr6.size; have f6 := free_at HO6.out 0; have c6 := (cells_at HO6.out 0).trans (show _ = some (Value.slice a5 k c5) from rfl); obtain ⟨a6, c6v, hv6⟩ := own_sliceR hown6; subst hv6; clear hown6 hgr6)
            | fail)
          go_roundw
          case rel =>
            have nb := block_at HO6.out 0 (.slice a6 (k + 1) c6v)
            rw [pack_set0] at nb
            refine ⟨k + 1, by have := HK.out.1; omega, by have := HK.out.2; omega, by go_num, a6, c6v, xs ++ [.slice (some ⟨g2, o2, none⟩) 900 pc], nb, ?_, ?_, ?_, ?_, ?_⟩
            · exact own_keep HOWN6.out (fun q h => Below.heap_setCell _ _ _ _ (by have := (HOWN6.out.lt q h).1; intro e; have e2 : q = ob := e; omega))
            · show RowsV _ _ _
              rw [HCS.out]; exact hrv.out.snoc HSL.out
            · exact (Below.heap_setCell _ _ _ _ (by have := HLT.out.1; intro e; have e2 : w.heap.size + 1 = ob := e; omega)).trans HZ6.out
            · exact HE6.out.setCell (p := ⟨ob, 0, none⟩) (by have := HLT.out.1; show w.heap.size ≤ ob; omega) _
            · show ob < _; simp [World.setCell]; exact HS6.out
          case measure => simp [intOf]; have := HK.out.1; omega
        · have d9 : decide ((ln : Int) > 900) = false := by simp; omega
          have htk : l.take 900 = l := List.take_of_length_le (by omega)
          have HSL : Hid (SlAt W0 (.slice pa ln pc) (l.take 900)) := by rw [htk, hln]; exact hsl
          clear hcs hl hln hcell hrest hg hsl hkl hk hk12 htk h900 hlt h12
          have HBS : Hid ((wr.alloc (.cells #[.slice pa ln pc] 27)).cell? ⟨wr.heap.size, 0, none⟩ = some (.slice pa ln pc)) := (cells_at (heap_new' _ _) 0).trans rfl
          have HOA : Hid ((wr.alloc (.cells #[.slice pa ln pc] 27)).ownsRow (ob + 1) 27 1 (.slice a5 k c5) k xs) := World.ownsRow.alloc hown.out _
          have HBA : Hid (Below w.heap.size w (wr.alloc (.cells #[.slice pa ln pc] 27))) := hbel.out.alloc hbel.out.size _
          have HZA : Hid ((wr.alloc (.cells #[.slice pa ln pc] 27)).heap[w.heap.size + 1]? = some (.cells #[.slice none 0 0, .int .i64 0, .int .i64 0, .int .i64 0, .int .i64 0, .int .i64 0, .int .i64 0, .int .i64 0, .int .i64 0, .int .i64 0, .int .i64 0, .int .i64 0, .int .i64 0, .int .i64 0, .int .i64 0, .int .i64 0, .int .i64 0] 25 (0, 0))) := (heap_old' _ _ _ (lt_of_block hz.out)).trans hz.out
          have HBO : Hid ((wr.alloc (.cells #[.slice pa ln pc] 27)).heap[ob]? = some (.cells (packA (.slice a5 k c5) [r0, r1, r2, r3, r4, r5, r6, r7, r8, r9, r10, r11, r12, r13, r14, r15]) 25 (0, 0))) := (heap_old' _ _ _ hsz.out).trans hob.out
          have HSA : Hid (ob < (wr.alloc (.cells #[.slice pa ln pc] 27)).heap.size) := lt_of_block HBO.out
          go_wp2_with (first
            | (refine wpList_append_row (v := .slice a5 k c5) (base := ob + 1) (n := k) (xs := xs) (u := .slice pa ln pc) rfl (.tmp 25) (.tmp 27) rfl rfl HOA.out rfl HBS.out rfl (by have := HK.out.2; omega) HSA.out ?_; intro v6 w6 hown6 hgr6; have HOWN6 := Lib.hid hown6; have HO6 : Hid (w6.heap[ob]? = some (.cells (packA (.slice a5 k c5) [r0, r1, r2, r3, r4, r5, r6, r7, r8, r9, r10, r11, r12, r13, r14, r15]) 25 (0, 0))) := (hgr6.block _ HSA.out (fun e => by have := (HOA.out.lt _ e.symm).1; omega)).trans HBO.out; have HZ6 := Lib.hid ((hgr6.block _ (lt_of_block HZA.out) (fun e => by have := (HOA.out.lt _ e.symm).1; have := HLT.out.1; omega)).trans HZA.out); have HE6 : Hid (Below w.heap.size w w6) := HBA.out.grown hgr6 HBA.out.size (fun q h => by have := (HOA.out.lt q h).1; have := HLT.out.1; omega); have HS6 : Hid (ob < w6.heap.size) := Nat.lt_of_lt_of_le HSA.out hgr6.size; have f6 := free_at HO6.out 0; have c6 := (cells_at HO6.out 0).trans (show _ = some (Value.slice a5 k c5) from rfl); obtain ⟨a6, c6v, hv6⟩ := own_sliceR hown6; subst hv6; clear hown6 hgr6)
            | fail)
          go_roundw
          case rel =>
            have nb := block_at HO6.out 0 (.slice a6 (k + 1) c6v)
            rw [pack_set0] at nb
            refine ⟨k + 1, by have := HK.out.1; omega, by have := HK.out.2; omega, by go_num, a6, c6v, xs ++ [.slice pa ln pc], nb, ?_, ?_, ?_, ?_, ?_⟩
            · exact own_keep HOWN6.out (fun q h => Below.heap_setCell _ _ _ _ (by have := (HOWN6.out.lt q h).1; intro e; have e2 : q = ob := e; omega))
            · show RowsV _ _ _
              rw [HCS.out]; exact hrv.out.snoc HSL.out
            · exact (Below.heap_setCell _ _ _ _ (by have := HLT.out.1; intro e; have e2 : w.heap.size + 1 = ob := e; omega)).trans HZ6.out
            · exact HE6.out.setCell (p := ⟨ob, 0, none⟩) (by have := HLT.out.1; show w.heap.size ≤ ob; omega) _
            · show ob < _; simp [World.setCell]; exact HS6.out
          case measure => simp [intOf]; have := HK.out.1; omega
      · have d12 : decide ((k : Int) ≥ 12) = true := by simp; omega
        have hk12e : k = 12 := by omega
        have HFV : Hid (RowsV W0 xs (cutL L)) := by
          have h := hrv.out; rw [hk12e, cutL_twelve] at h; exact h
        have ek : IntKind.i64.wrap ((k : Int) + 1) = (k : Int) + 1 := IntWalk.i64_in _ (by omega)
        clear hl hln hcell hrest hg hsl hkl hk hk12 h12 hk12e
        go_wp2_with (first
          | (refine wpList_load_row rfl 25 (.tmp 3) rfl ob rfl _ _ _ _ hob.out Try.underlying25 rfl (by rw [pack25]; rfl) ?_)
          | (refine wpList_store_row rfl 25 (.tmp 2) (.tmp 31) rfl (w.heap.size + 1) (packA (.slice a5 k c5) [r0, r1, r2, r3, r4, r5, r6, r7, r8, r9, r10, r11, r12, r13, r14, r15]) rfl rfl 25 _ hz.out (by rw [pack25]; rfl) (by rfl) (packA_one _ _ _ _) ?_)
          | fail)
        have HBF := below_setRow hbel.out (Nat.le_succ w.heap.size) (packA (.slice a5 k c5) [r0, r1, r2, r3, r4, r5, r6, r7, r8, r9, r10, r11, r12, r13, r14, r15])
        have HOF : World.ownsRow (wr.setRow (w.heap.size + 1) (packA (.slice a5 k c5) [r0, r1, r2, r3, r4, r5, r6, r7, r8, r9, r10, r11, r12, r13, r14, r15])) (ob + 1) 27 1 (.slice a5 k c5) k xs := own_keep hown.out (fun q h => setRow_other _ _ _ _ (by have := (hown.out.lt q h).1; have := HLT.out.1; omega))
        have hlen : (cutL L).length = k := by rw [← HFV.out.1]; have := HOF.1; simpa using this
        exact bodyPost_ret (results_cell_row rfl _ _ (w.heap.size + 1) 25 (packA (.slice a5 k c5) [r0, r1, r2, r3, r4, r5, r6, r7, r8, r9, r10, r11, r12, r13, r14, r15]) (0, 0) _ rfl (setRow_heap _ _ _ _ _ _ hz.out) Try.underlying25 rfl (by rw [pack25]; rfl)) rfl (by have hOF2 : Hid (World.ownsRow (wr.setRow (w.heap.size + 1) (packA (.slice a5 k c5) [r0, r1, r2, r3, r4, r5, r6, r7, r8, r9, r10, r11, r12, r13, r14, r15])) (w.heap.size + 1) 27 1 (.slice a5 (cutL L).length c5) (cutL L).length xs) := (by rw [hlen]; exact own_mono HOF (by have := HLT.out.1; omega)); first | exact ⟨⟨a5, c5, xs, by rw [hlen], hOF2, HFV⟩, HBF⟩ | exact ⟨⟨a5, c5, by rw [hlen], xs, hOF2, HFV⟩, HBF⟩)
    · have hkn : k = n := by omega
      have hd : decide ((k : Int) < (n : Int)) = false := by simp; omega
      have HFV : Hid (RowsV W0 xs (cutL L)) := by
        have h := hrv.out; rw [hkn, List.take_of_length_le (by rw [HN.out]; exact Nat.le_refl _)] at h; exact h
      clear hk hk12 hkn
      go_wp2_with (first
        | (refine wpList_load_row rfl 25 (.tmp 3) rfl ob rfl _ _ _ _ hob.out Try.underlying25 rfl (by rw [pack25]; rfl) ?_)
        | (refine wpList_store_row rfl 25 (.tmp 2) (.tmp 31) rfl (w.heap.size + 1) (packA (.slice a5 k c5) [r0, r1, r2, r3, r4, r5, r6, r7, r8, r9, r10, r11, r12, r13, r14, r15]) rfl rfl 25 _ hz.out (by rw [pack25]; rfl) (by rfl) (packA_one _ _ _ _) ?_)
        | fail)
      have HBF := below_setRow hbel.out (Nat.le_succ w.heap.size) (packA (.slice a5 k c5) [r0, r1, r2, r3, r4, r5, r6, r7, r8, r9, r10, r11, r12, r13, r14, r15])
      have HOF : World.ownsRow (wr.setRow (w.heap.size + 1) (packA (.slice a5 k c5) [r0, r1, r2, r3, r4, r5, r6, r7, r8, r9, r10, r11, r12, r13, r14, r15])) (ob + 1) 27 1 (.slice a5 k c5) k xs := own_keep hown.out (fun q h => setRow_other _ _ _ _ (by have := (hown.out.lt q h).1; have := HLT.out.1; omega))
      have hlen : (cutL L).length = k := by rw [← HFV.out.1]; have := HOF.1; simpa using this
      exact bodyPost_ret (results_cell_row rfl _ _ (w.heap.size + 1) 25 (packA (.slice a5 k c5) [r0, r1, r2, r3, r4, r5, r6, r7, r8, r9, r10, r11, r12, r13, r14, r15]) (0, 0) _ rfl (setRow_heap _ _ _ _ _ _ hz.out) Try.underlying25 rfl (by rw [pack25]; rfl)) rfl (by have hOF2 : Hid (World.ownsRow (wr.setRow (w.heap.size + 1) (packA (.slice a5 k c5) [r0, r1, r2, r3, r4, r5, r6, r7, r8, r9, r10, r11, r12, r13, r14, r15])) (w.heap.size + 1) 27 1 (.slice a5 (cutL L).length c5) (cutL L).length xs) := (by rw [hlen]; exact own_mono HOF (by have := HLT.out.1; omega)); first | exact ⟨⟨a5, c5, xs, by rw [hlen], hOF2, HFV⟩, HBF⟩ | exact ⟨⟨a5, c5, by rw [hlen], xs, hOF2, HFV⟩, HBF⟩)
end Go.Proofs.Ythpglpnonecnfaa
