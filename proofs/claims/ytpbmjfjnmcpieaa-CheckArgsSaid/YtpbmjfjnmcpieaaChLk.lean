/- law 25: CheckArgs, the walk. -/
import Derived.Test.YtpbmjfjnmcpieaaChLj
set_option linter.unusedVariables false
set_option linter.unusedSimpArgs false
namespace Go.Proofs.Ytpbmjfjnmcpieaa
open Go Go.RowKit Go.Lib
theorem run_subBh (g o len cap h : Nat) (hh : h ≤ cap) (w : World) :
    (Instr.sliceAt 34 (.slice (some ⟨g, o, none⟩) len cap) none (some (.int .i64 (h : Int))) none).run Try.prog w = .ok (.slice (some ⟨g, o, none⟩) h cap) w := by
  obtain ⟨i0, hi, hz0, hz1, hz2⟩ := info_parts u8info
  have he : Try.prog.elem 34 = 5 := by kernel_rfl
  have hu : Try.prog.underlying 34 = some (.slice (Try.prog.elem 34)) := by rw [he]; exact Try.underlying34
  rw [run_sliceAt_slice (h := hu), run_slice_h (ht := hu) (h0 := by omega) (h2 := by omega)]
  rw [he, run_sizeOf (w := w) hi, show Try.prog.cellsOf 5 = 1 from (by kernel_rfl)]
  simp only [Result.andThen_ok, sliced, Int.toNat_natCast, Nat.sub_zero]
  split
  · rfl
  · simp only [Option.map_some]; rw [add_plain]; simp
set_option maxRecDepth 100000 in
theorem all_nil (p t : Int) (w : World) :
    Calls Try.prog 4 #[.pointer none, .agg #[.int .i64 p, .int .i64 t]] w fun e w' => e = .returned (.tuple #[.slice none 0 0, .int .i64 2]) ∧ Below w.heap.size w w' := by
  have HE : Hid (Below w.heap.size w (w.alloc (.cells #[.int .i64 p, .int .i64 t] 23))) := below_box _ _
  go_enter Try.func4, Try.ntmps4
  go_wp2
  go_ret2
  exact ⟨rfl, HE.out⟩
set_option maxRecDepth 100000 in
set_option maxHeartbeats 4000000 in
theorem walkCheckArgs (p t : Int) (cut : Bool) (w : World) :
    Calls Try.prog 3 #[.agg #[.int .i64 p, .int .i64 t], .bool cut] w fun e w' => e = .returned (.bool true) ∧ Below w.heap.size w w' := by
  have HG : Hid ((w.alloc (.cells #[.int .i64 p, .int .i64 t] 23)).heap[w.heap.size]? = some (.cells #[.int .i64 p, .int .i64 t] 23 (0, 0))) := heap_new' _ _
  have HE : Hid (Below w.heap.size w (w.alloc (.cells #[.int .i64 p, .int .i64 t] 23))) := below_box _ _
  have HAL := Lib.hid (fun w => all_nil p t w)
  have HMY := Lib.hid (fun w => rgmay_c p t w)
  have HAW := Lib.hid awake25_c
  go_enter Try.func3, Try.ntmps3
  go_wp2_with (first
    | (refine wpList_load_row rfl 23 (.tmp 2) rfl w.heap.size rfl _ _ _ _ HG.out Try.underlying23 rfl (by rw [geo2]; rfl) ?_)
    | fail)
  refine (HAL.out _).mono ?_
  rintro e w1 ⟨rfl, hb1⟩
  have HE1 : Hid (Below w.heap.size w w1) := HE.out.trans (hb1.mono HE.out.size)
  have HG1 := Lib.hid ((hb1.block _ (lt_of_block HG.out)).trans HG.out)
  clear hb1 HG HE HAL
  go_wp2_with (first
    | (refine wpList_load_row rfl 23 (.tmp 2) rfl w.heap.size rfl _ _ _ _ HG1.out Try.underlying23 rfl (by rw [geo2]; rfl) ?_)
    | fail)
  refine (HMY.out _).mono ?_
  rintro e w2 ⟨rfl, hb2⟩
  have HE2 : Hid (Below w.heap.size w w2) := HE1.out.trans (hb2.mono HE1.out.size)
  have HG2 := Lib.hid ((hb2.block _ (lt_of_block HG1.out)).trans HG1.out)
  clear hb2 HG1 HE1 HMY
  cases hgb : geoB p t with
  | false =>
    have HBK := Lib.hid (fun w => blocks_arg p t none 0 0 [] rfl (by omega) (by unfold argB; rw [hgb]; rfl) w (fun i l h => by cases h))
    clear hgb
    go_wp2_with (first
      | (refine wpList_load_row rfl 23 (.tmp 2) rfl w.heap.size rfl _ _ _ _ HG2.out Try.underlying23 rfl (by rw [geo2]; rfl) ?_)
      | fail)
    refine (HBK.out _).mono ?_
    rintro e w3 ⟨rfl, hb3⟩
    have HE3 : Hid (Below w.heap.size w w3) := HE2.out.trans (hb3.mono HE2.out.size)
    clear hb3 HG2 HE2
    go_wp2_with fail
    refine (HAW.out _).mono ?_
    rintro e w4 ⟨rfl, hb4⟩
    have HE4 : Hid (Below w.heap.size w w4) := HE3.out.trans (hb4.mono HE3.out.size)
    clear hb4 HE3
    go_wp2
    go_ret
    exact ⟨rfl, HE4.out⟩
  | true =>
    have hgp := (geoB_iff p t).1 hgb
    obtain ⟨n, rfl⟩ : ∃ n : Nat, p = (n : Int) := ⟨p.toNat, by omega⟩
    have hmn := mapsN_le n (by omega)
    have HBL := Lib.hid (fun w => blank_c n t (by omega) w)
    have HBK : Hid (∀ (va : Option Addr) (m cap : Nat) (L : List (List Nat)) (w : World), L.length = m → m ≤ 1000 → argB n t L = false → RowsAt w va L → Calls Try.prog 6 #[.agg #[.int .i64 (n : Int), .int .i64 t], .slice va m cap] w fun e w' => e = .returned (.tuple #[.slice none 0 0, .int .i64 1]) ∧ Below w.heap.size w w') := fun va m cap L w h1 h2 h3 h4 => blocks_arg n t va m cap L h1 h2 h3 w h4
    have hsn : 2 ≤ sealedN n ∧ sealedN n ≤ 70 := by unfold sealedN; omega
    obtain ⟨s, hs⟩ : ∃ s, s = sealedN n := ⟨_, rfl⟩
    have HSN : Hid (2 ≤ s ∧ s ≤ 70 ∧ s = sealedN n) := by rw [hs]; exact ⟨hsn.1, hsn.2, rfl⟩
    rw [← hs] at HBL
    clear hs hsn hmn hgp hgb
    go_wp2_with (first
      | (refine wpList_load_row rfl 23 (.tmp 2) rfl w.heap.size rfl _ _ _ _ HG2.out Try.underlying23 rfl (by rw [geo2]; rfl) ?_)
      | fail)
    refine (HBL.out _).mono ?_
    rintro e w3 ⟨v, fs, rfl, hblk, hb3⟩
    obtain ⟨q, c, rfl, hq0, hqs⟩ := own_some hblk.own (by have := HSN.out; omega)
    have HE3 : Hid (Below w.heap.size w w3) := HE2.out.trans (hb3.mono HE2.out.size)
    have HG3 := Lib.hid ((hb3.block _ (lt_of_block HG2.out)).trans HG2.out)
    have HGL : Hid (w.heap.size < w2.heap.size) := lt_of_block HG2.out
    have HQ0 := Lib.hid hq0
    have HBK3 := Lib.hid hblk
    have HCAP := Lib.hid (own_cap hblk.own)
    clear hb3 hblk HG2 HBL hq0 hqs
    cases cut with
    | false =>
      have hsl : ∀ w : World, (Instr.sliceAt 32 (.slice (some ⟨q, 0, none⟩) s c) (some (.int .i64 1)) none none).run Try.prog w = .ok (.slice (some ⟨q, subO 0 c 1, none⟩) (s - 1) (c - 1)) w := fun w => run_subRl q 0 s c 1 (by have := HSN.out; omega) w
      have hR := rows_of (fun _ => zB) HBK3.out.own (fun b hb => (HBK3.out.blk b hb).2) (fun b _ => zB_ok)
      have hR1 := hR.drop 1 (by rw [List.length_map, HBK3.out.len]; exact HCAP.out)
      have HB4 := Lib.hid (HBK.out (some ⟨q, subO 0 c 1, none⟩) (s - 1) (c - 1) _ w3 (by rw [List.length_drop, List.length_map, HBK3.out.len]) (by have := HSN.out; omega) (by
        unfold argB
        have : ((fs.map fun _ => zB).drop 1).length ≠ sealedN (n : Int).toNat := by
          rw [List.length_drop, List.length_map, HBK3.out.len, Int.toNat_natCast]; have := HSN.out; omega
        rw [beq_eq_false_iff_ne.2 this, Bool.and_false, Bool.false_and]) hR1)
      clear hR hR1 HBK
      go_wp2_with (first
        | (refine wpList_load_row rfl 23 (.tmp 2) rfl w.heap.size rfl _ _ _ _ HG3.out Try.underlying23 rfl (by rw [geo2]; rfl) ?_)
        | fail)
      refine HB4.out.mono ?_
      rintro e w4 ⟨rfl, hb4⟩
      have HE4 : Hid (Below w.heap.size w w4) := HE3.out.trans (hb4.mono HE3.out.size)
      clear hb4 HE3 HG3 HB4 HBK3
      go_wp2_with fail
      refine (HAW.out _).mono ?_
      rintro e w5 ⟨rfl, hb5⟩
      have HE5 : Hid (Below w.heap.size w w5) := HE4.out.trans (hb5.mono HE4.out.size)
      clear hb5 HE4
      go_wp2
      go_ret
      exact ⟨rfl, HE5.out⟩
    | true =>
      have hs0 : 0 < fs.length := by rw [HBK3.out.len]; have := HSN.out; omega
      obtain ⟨f0, fr, rfl⟩ : ∃ f0 fr, fs = f0 :: fr := by
        cases fs with
        | nil => simp at hs0
        | cons a b => exact ⟨a, b, rfl⟩
      have hlen : fr.length + 1 = s := HBK3.out.len
      have c0 : w3.cell? ⟨q, 0, none⟩ = some (.slice (some ⟨f0, 0, none⟩) 256 256) := (HBK3.out.own.cellAt 0 (by have := HSN.out; simp; omega)).trans rfl
      have hqb : ∃ A T, w3.heap[q]? = some (.cells A T (0, 0)) := by
        rcases HBK3.out.own.2 with ⟨h9, _⟩ | ⟨g9, cap9, cur9, e1, e2, e3, e4⟩
        · cases h9
        · cases e1; exact ⟨_, _, e3⟩
      obtain ⟨A, T, hA⟩ := hqb
      have fq := free_at hA 0
      have hsl : ∀ w : World, (Instr.sliceAt 34 (.slice (some ⟨f0, 0, none⟩) 256 256) none (some (.int .i64 255)) none).run Try.prog w = .ok (.slice (some ⟨f0, 0, none⟩) 255 256) w := fun w => run_subBh f0 0 256 256 255 (by omega) w
      have hR4 : RowsAt (w3.setCell ⟨q, 0, none⟩ (.slice (some ⟨f0, 0, none⟩) 255 256)) (some ⟨q, 0, none⟩) (List.replicate 255 0 :: fr.map fun _ => zB) := by
        have hq' := block_at hA 0 (.slice (some ⟨f0, 0, none⟩) 255 256)
        have hne : ∀ b ∈ f0 :: fr, b ≠ q := fun b hb => by
          rintro rfl
          rcases HBK3.out.own.2 with ⟨h9, _⟩ | ⟨g9, cap9, cur9, e1, e2, e3, e4⟩
          · cases h9
          · cases e1
            have h9 := e3.symm.trans (HBK3.out.blk b hb).2
            cases h9
        have hb' : ∀ b ∈ f0 :: fr, (w3.setCell ⟨q, 0, none⟩ (.slice (some ⟨f0, 0, none⟩) 255 256)).heap[b]? = some (.cells (bA zB) 5 (0, 0)) := fun b hb => (setCell_other _ _ _ _ (hne b hb)).trans (HBK3.out.blk b hb).2
        have hsz := lt_of_block hq'
        have hA0 : 0 < A.size := by
          rw [cells_at hA 0] at c0
          exact (Array.getElem?_eq_some_iff.1 c0).1
        intro i l h
        cases i with
        | zero =>
          have hl : l = List.replicate 255 0 := by
            rw [List.getElem?_cons_zero] at h
            exact (Option.some.inj h).symm
          subst hl
          refine ⟨q, 0, _, rfl, hsz, (cells_at hq' 0).trans (by rw [Array.getElem?_setIfInBounds_self_of_lt hA0]), ?_⟩
          obtain ⟨a9, c9, e9, hb9, _⟩ := slAt_row (hb' f0 (by simp)) zB_ok.1 zB_ok.2
          rw [zB_ok.1] at e9
          cases e9
          have h9 := hb9.sub (lo := 0) (hi := 255) (by omega) (by rw [zB_ok.1]; omega)
          have e8 : (zB.drop 0).take (255 - 0) = List.replicate 255 0 := by
            unfold zB; rw [List.drop_zero, List.take_replicate]; rfl
          rw [e8] at h9
          rw [show subO 0 256 0 = 0 from rfl, show (256 : Nat) - 0 = 256 from rfl] at h9
          exact ⟨_, 256, by rw [List.length_replicate], h9, (fun h => by cases h), by rw [List.length_replicate]; omega, by unfold maxLen; omega⟩
        | succ i =>
          rw [List.getElem?_cons_succ, List.getElem?_map] at h
          obtain ⟨b, hb, rfl⟩ := Option.map_eq_some_iff.1 h
          refine ⟨q, 0, rowOf b, rfl, hsz, ?_, slAt_row (hb' b (List.mem_cons_of_mem _ (List.mem_of_getElem? hb))) zB_ok.1 zB_ok.2⟩
          have hi : i < fr.length := (List.getElem?_eq_some_iff.1 hb).1
          have h1 := HBK3.out.own.cellAt (i + 1) (by rw [Nat.mul_one]; omega)
          rw [cells_at hA (i + 1), List.map_cons, List.getElem?_cons_succ, List.getElem?_map, hb] at h1
          rw [Nat.zero_add, cells_at hq' (i + 1), Array.getElem?_setIfInBounds_ne (by omega)]
          exact h1
      have HB4 := Lib.hid (HBK.out (some ⟨q, 0, none⟩) s c _ (w3.setCell ⟨q, 0, none⟩ (.slice (some ⟨f0, 0, none⟩) 255 256)) (by rw [List.length_cons, List.length_map]; exact hlen) (by have := HSN.out; omega) (by
        unfold argB
        have : (List.replicate 255 0 :: fr.map fun _ => zB).any (fun l => !(l.length == 256)) = true := by
          rw [List.any_cons, List.length_replicate]; rfl
        rw [this]; simp) hR4)
      have HG4 : Hid ((w3.setCell ⟨q, 0, none⟩ (.slice (some ⟨f0, 0, none⟩) 255 256)).heap[w.heap.size]? = some (.cells #[.int .i64 (n : Int), .int .i64 t] 23 (0, 0))) := (setCell_other _ _ _ _ (by have := HGL.out; have := HQ0.out; omega)).trans HG3.out
      have HE4 : Hid (Below w.heap.size w (w3.setCell ⟨q, 0, none⟩ (.slice (some ⟨f0, 0, none⟩) 255 256))) := HE3.out.setCell (by show _ ≤ q; have := HGL.out; have := HQ0.out; omega) _
      have dq : 0 < s := by have := HSN.out; omega
      have di : (0 : Int) < (s : Int) := by omega
      clear hR4 HBK hA hlen hs0 HBK3
      go_wp2_with (first
        | (refine wpList_load_row rfl 23 (.tmp 2) rfl w.heap.size rfl _ _ _ _ HG4.out Try.underlying23 rfl (by rw [geo2]; rfl) ?_)
        | fail)
      refine HB4.out.mono ?_
      rintro e w5 ⟨rfl, hb5⟩
      have HE5 : Hid (Below w.heap.size w w5) := HE4.out.trans (hb5.mono HE4.out.size)
      clear hb5 HE3 HG3 HB4 HG4 HE4 c0 fq hsl
      go_wp2_with fail
      refine (HAW.out _).mono ?_
      rintro e w6 ⟨rfl, hb6⟩
      have HE6 : Hid (Below w.heap.size w w6) := HE5.out.trans (hb6.mono HE5.out.size)
      clear hb6 HE5
      go_wp2
      go_ret
      exact ⟨rfl, HE6.out⟩
end Go.Proofs.Ytpbmjfjnmcpieaa
