/- The reference's Bytes. -/
import Derived.Test.YthpglpnonecnfaaRPkB
import Derived.Test.YthpglpnonecnfaaRShaD
set_option linter.unusedVariables false
set_option linter.unusedSimpArgs false
namespace Go.Proofs.Ythpglpnonecnfaa
open Go Go.RowKit Sha
set_option maxRecDepth 100000 in
set_option maxHeartbeats 4000000 in
theorem rpbytes_c (a : Option Addr) (n cap : Nat) (L : List (List Nat)) (R : List Int) (hn : L.length = n) (hnm : n ≤ 1000000) (hR16 : R.length = 16) (hRR : ∀ r ∈ R, 0 ≤ r ∧ r ≤ 1000000) (hlen : (packBody L R).length ≤ 900000) (w : World) (hR : RowsAt w a L) :
    Calls Try.prog 18 #[.agg (packA (.slice a n cap) R)] w fun e w' => ∃ v, e = .returned v ∧ w'.ownsRow w.heap.size 5 1 v (packBytes L R).length (bA (packBytes L R)).toList ∧ Below w.heap.size w w' := by
  have hblk := heap_new' w (.cells (packA (.slice a n cap) R) 25)
  have HBE : Hid (Below w.heap.size w (w.alloc (.cells (packA (.slice a n cap) R) 25))) := (Below.refl _ _).alloc (Nat.le_refl _) _
  have HPS : Hid ((packA (.slice a n cap) R).size = 17) := by show _ = _; rw [pack_size, hR16]
  have HBLK := Lib.hid hblk
  have HRW := Lib.hid hR
  have HC := Lib.hid (fun (w' : World) (h : RowsAt w' a L) => rbody_c a n cap L R hn hnm hR16 hRR hlen w' h)
  have hlt := body_lt (R := R) (rowsAt_lt hR)
  obtain ⟨PB, hPB⟩ : ∃ PB, PB = packBody L R := ⟨_, rfl⟩
  have HPBB : Hid (packBytes L R = PB ++ sumN PB) := by rw [hPB]; rfl
  rw [← hPB] at hlt hlen HC
  have HLT := Lib.hid hlt
  obtain ⟨m, hm⟩ : ∃ m, m = PB.length := ⟨_, rfl⟩
  have HM : Hid (PB.length = m ∧ m ≤ 900000) := ⟨hm.symm, by rw [hm]; exact hlen⟩
  have HSL := Lib.hid (sum_len PB)
  clear hR hblk hn hnm hR16 hRR hlen hlt hPB hm
  go_enter Try.func18, Try.ntmps18
  go_wp2_with (first
    | (refine wpList_load_row rfl 25 (.tmp 1) rfl w.heap.size rfl _ _ _ _ HBLK.out Try.underlying25 rfl (by rw [pack25, HPS.out]) ?_)
    | fail)
  generalize w.alloc (.cells (packA (.slice a n cap) R) 25) = w0 at *
  refine (HC.out w0 (HRW.out.up HBE.out (Nat.le_refl _))).mono ?_
  rintro e w1 ⟨v1, rfl, hown1, hb1⟩
  rw [HM.out.1] at hown1
  have HE1 : Hid (Below w.heap.size w w1) := HBE.out.trans (hb1.mono HBE.out.size)
  have HO1 := Lib.hid (own_mono hown1 HBE.out.size)
  obtain ⟨a1, c1, rfl, hbb, _, hlc, _, hnl, _⟩ := own_bytes HLT.out hown1
  have HBB := Lib.hid hbb
  have HNL := Lib.hid hnl
  clear hown1 hb1 hbb hlc hnl
  go_wp2_with fail
  refine (rsum_c a1 c1 m PB HM.out.1 HM.out.2 w1 HBB.out HNL.out).mono ?_
  rintro e w3 ⟨rfl, hb3⟩
  have HE3 : Hid (Below w.heap.size w w3) := HE1.out.trans (hb3.mono HE1.out.size)
  have HO3 := Lib.hid (own_up HO1.out hb3)
  clear hb3
  have HZ4 : Hid ((w3.alloc (.cells #[.int .u8 0, .int .u8 0, .int .u8 0, .int .u8 0, .int .u8 0, .int .u8 0, .int .u8 0, .int .u8 0, .int .u8 0, .int .u8 0, .int .u8 0, .int .u8 0, .int .u8 0, .int .u8 0, .int .u8 0, .int .u8 0, .int .u8 0, .int .u8 0, .int .u8 0, .int .u8 0, .int .u8 0, .int .u8 0, .int .u8 0, .int .u8 0, .int .u8 0, .int .u8 0, .int .u8 0, .int .u8 0, .int .u8 0, .int .u8 0, .int .u8 0, .int .u8 0] 31)).heap[w3.heap.size]? = some (.cells #[.int .u8 0, .int .u8 0, .int .u8 0, .int .u8 0, .int .u8 0, .int .u8 0, .int .u8 0, .int .u8 0, .int .u8 0, .int .u8 0, .int .u8 0, .int .u8 0, .int .u8 0, .int .u8 0, .int .u8 0, .int .u8 0, .int .u8 0, .int .u8 0, .int .u8 0, .int .u8 0, .int .u8 0, .int .u8 0, .int .u8 0, .int .u8 0, .int .u8 0, .int .u8 0, .int .u8 0, .int .u8 0, .int .u8 0, .int .u8 0, .int .u8 0, .int .u8 0] 31 (0, 0))) := heap_new' _ _
  go_wp2_with (first
    | (refine wpList_store_row rfl 31 (.tmp 4) (.tmp 8) rfl w3.heap.size (bA (sumN PB)) rfl rfl 31 _ HZ4.out (by rw [info31, bA_size, HSL.out]) (by rw [bA_size, HSL.out]; rfl) (bA_one _) ?_; generalize hW5 : World.setRow _ _ _ = w5; have HS5 : Hid (w5.heap[w3.heap.size]? = some (.cells (bA (sumN PB)) 31 (0, 0))) := (by rw [← hW5]; exact setRow_heap _ _ _ _ _ _ HZ4.out); have HB5 : Hid (Below w3.heap.size w3 w5) := (by rw [← hW5]; exact below_setRow ((Below.refl _ _).alloc (Nat.le_refl _) _) (Nat.le_refl _) _); clear hW5; have HO5 := Lib.hid (own_up HO3.out HB5.out); have HD5 : Hid (BytesAt w5 (some ⟨w3.heap.size, 0, none⟩) 32 (sumN PB)) := (by have h := bytesAt_block_t (sum_lt PB) HS5.out; rw [HSL.out] at h; exact h); have HE5 : Hid (Below w.heap.size w w5) := HE3.out.trans (HB5.out.mono HE3.out.size))
    | (refine wpList_append_bytes (v := .slice a1 m c1) (base := w.heap.size) (n := m) (m := 32) (l := sumN PB) rfl (.tmp 9) (.tmp 10) rfl rfl HO5.out rfl HSL.out HD5.out (fun h => by cases h) (by have := HM.out.2; omega) HE5.out.size ?_; intro v6 w6 hown6 hgr6; rw [bA_app] at hown6; have HO6 := Lib.hid hown6; have HE6 : Hid (Below w.heap.size w w6) := HE5.out.grown hgr6 HE5.out.size (fun k h => (HO5.out.lt k h).1); clear hown6 hgr6)
    | fail)
  go_ret
  refine ⟨_, rfl, ?_, HE6.out⟩
  rw [HPBB.out, List.length_append, HSL.out, HM.out.1]
  exact HO6.out
end Go.Proofs.Ythpglpnonecnfaa
