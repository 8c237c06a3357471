/- check.looker: wrong, roots of a heap without roots. -/
import Derived.Test.YtpbmjfjnmcpieaaChLb
set_option linter.unusedVariables false
set_option linter.unusedSimpArgs false
namespace Go.Proofs.Ytpbmjfjnmcpieaa
open Go Go.RowKit
theorem setCell_other (w : World) (b o : Nat) (v : Value) {q : Nat} (h : q ≠ b) : (w.setCell ⟨b, o, none⟩ v).heap[q]? = w.heap[q]? := by
  simp [World.setCell, Array.getElem?_modify, Ne.symm h]
set_option maxRecDepth 100000 in
set_option maxHeartbeats 1000000 in
theorem lwrong_c (B lk x : Nat) (hB : lk < B) (R : List Nat) (h16 : R.length = 16) (pv qv fv av : Value) (n : Nat) (F : List Ft) (hn : n ≤ 1000) (kd ix : Int) (w : World) (h : LkAt w lk x R pv qv fv av) (hBw : B ≤ w.heap.size) (hown : w.ownsRow B 56 2 fv n (cellsF F)) :
    Calls Try.prog 35 #[.pointer (some ⟨lk, 0, none⟩), .int .i64 kd, .int .i64 ix] w fun e w' => (∃ u, e = .returned u) ∧ ∃ fv', LkAt w' lk x R pv qv fv' av ∧ w'.ownsRow B 56 2 fv' (n + 1) (cellsF (F ++ [⟨kd, ix⟩])) ∧ Below lk w w' ∧ ∀ q, q < B → q ≠ lk → w'.heap[q]? = w.heap[q]? := by
  have a1 := (cells_at h 19).trans (lkA_19 h16 _ _ _ _)
  have hlt := lt_of_block h
  obtain ⟨w1, hw1⟩ : ∃ w1, w1 = w.alloc (.cells (ftA ⟨kd, ix⟩) 56) := ⟨_, rfl⟩
  have hb1 : Below w.heap.size w w1 := by rw [hw1]; exact below_box _ _
  have HG : Hid (LkAt w1 lk x R pv qv fv av) := (hb1.block _ hlt).trans h
  have HO : Hid (w1.ownsRow B 56 2 fv n (cellsF F)) := own_up hown hb1
  have HF : Hid (FtsAt w1 (some ⟨w.heap.size, 0, none⟩) [⟨kd, ix⟩]) := by rw [hw1]; exact fts_blk (heap_new' _ _)
  have HE : Hid (Below lk w w1) := hb1.mono (by omega)
  have HS : Hid (B ≤ w1.heap.size) := Nat.le_trans hBw hb1.size
  have HQ1 : Hid (∀ q, q < B → w1.heap[q]? = w.heap[q]?) := fun q hq => hb1.block q (by omega)
  have HLB := Lib.hid hB
  have HN := Lib.hid hn
  have H16 := Lib.hid h16
  have HBK : Hid (∀ k, fv.ownBlock = some k → B ≤ k) := fun k hk => own_base hown k hk
  clear h hown hlt hb1 hn h16 hB hBw
  go_enter Try.func35, Try.ntmps35
  go_wp2_with (first
    | (refine wpList_build_ft (p := ⟨kd, ix⟩) rfl (.tmp 13) rfl rfl ?_; rw [← hw1])
    | (refine wpList_append_fts (v := fv) (base := B) (n := n) (L := F) rfl (.tmp 10) (.tmp 14) rfl rfl HO.out rfl (M := [⟨kd, ix⟩]) rfl HF.out (fun h => by cases h) (fun p hp => by cases hp; rfl) (by have := HN.out; omega) HS.out ?_; intro v2 w2 hown2 hgrow2; obtain ⟨va2, vc2, rfl⟩ := own_sliceR hown2; have HL2 : Hid (LkAt w2 lk x R pv qv fv av) := (hgrow2.block _ (lt_of_block HG.out) (fun e => by have := HBK.out _ e.symm; have := HLB.out; omega)).trans HG.out; have HO2 := Lib.hid hown2; have HE2 : Hid (Below lk w w2) := HE.out.grown hgrow2 (by have := HS.out; have := HLB.out; omega) (fun k hk => by have := HBK.out k hk; have := HLB.out; omega); have HQ2 : Hid (∀ q, q < B → w2.heap[q]? = w.heap[q]?) := fun q hq => (hgrow2.block q (by have := HS.out; omega) (fun e => by have := HBK.out _ e.symm; omega)).trans (HQ1.out q hq); have f2 := free_at HL2.out 19; have a2 := (cells_at HL2.out 19).trans (lkA_19 H16.out _ _ _ _); clear hown2 hgrow2)
    | fail)


  refine bodyPost_end (results_none rfl _ _ _) rfl ?_
  have hb := block_at HL2.out 19 (.slice va2 (n + 1) vc2)
  rw [lkA_set19 H16.out] at hb
  exact ⟨⟨_, rfl⟩, _, hb, ownsRow_setCell_below HO2.out HLB.out _, HE2.out.setCell (Nat.le_refl _) _, fun q hq hql => (setCell_other _ _ _ _ hql).trans (HQ2.out q hq)⟩
theorem zres : hRes (hOK 0) (hPage 0) (hSlot 0) (hSer 0) = .tuple #[.agg (plA 0 0 0), .bool false] := by
  rw [show hOK 0 = false by decide]; rfl
set_option maxRecDepth 100000 in
set_option maxHeartbeats 1000000 in
theorem lroots_c (lk x : Nat) (pv qv fv av : Value) (w : World) (h : LkAt w lk x zeroR pv qv fv av) :
    Calls Try.prog 20 #[.pointer (some ⟨lk, 0, none⟩)] w fun e w' => (∃ u, e = .returned u) ∧ Below w.heap.size w w' := by
  have HC : Hid (w.rangeAt lk 1 (zeroR.map fun (k : Nat) => Value.int .u64 (k : Int))) := fun j u hu => (cells_at h (1 + j)).trans (lkA_R rfl _ _ _ _ j u hu)
  clear h
  have HPL := Lib.hid (hplace_c 0 (by omega))
  rw [zres] at HPL
  go_enter Try.func20, Try.ntmps20
  go_wp2_with (first
    | (refine wpList_load_mid rfl 47 (.tmp 10) rfl lk 1 rfl _ _ HC.out Try.underlying47 rfl (by kernel_rfl) ?_)
    | fail)
  clear HC
  go_loopw [12] (fun vi wr => ∃ k : Nat, k ≤ 16 ∧ vi = .int .i64 (k : Int) ∧ Hid (Below w.heap.size w wr)) (fun vi _ => 16 - (intOf vi).toNat)
  case atStart => exact ⟨0, by omega, rfl, Below.refl _ _⟩
  case round =>
    obtain ⟨k, hk, rfl, hbel⟩ := hrel
    by_cases hlt : k < 16
    · have hd : decide ((k : Int) < 16) = true := by simp; omega
      have dl : (k : Int) < 16 := by omega
      have d0 : ¬ (k : Int) < 0 := by omega
      have hidx : ∀ w, (Instr.index 47 (.agg (zeroR.map fun (n : Nat) => Value.int .u64 (n : Int)).toArray) (.int .i64 (k : Int))).run Try.prog w = .ok (.int .u64 0) w := fun w => by
        have h := index_H zeroR rfl k hlt w
        rw [show zeroR.getD k 0 = 0 by unfold zeroR; rw [List.getD_eq_getElem?_getD, List.getElem?_replicate, if_pos hlt]; rfl] at h
        exact h
      have HK := Lib.hid hlt
      have ek : IntKind.i64.wrap ((k : Int) + 1) = (k : Int) + 1 := IntWalk.i64_in _ (by omega)
      clear hlt hk
      go_wp2_with fail
      refine (HPL.out wr).mono ?_
      rintro e w1 ⟨rfl, hb1⟩
      have HE1 : Hid (Below w.heap.size w w1) := hbel.out.trans (hb1.mono hbel.out.size)
      have HZ : Hid ((w1.alloc (.cells #[.int .i64 0, .int .i64 0, .int .u64 0] 88)).heap[w1.heap.size]? = some (.cells (plA 0 0 0) 88 (0, 0))) := heap_new' _ _
      have HE2 : Hid (Below w.heap.size w (w1.alloc (.cells #[.int .i64 0, .int .i64 0, .int .u64 0] 88))) := HE1.out.trans ((below_box w1 _).mono HE1.out.size)
      clear hb1 hbel hidx
      go_wp2_with (first
        | (refine wpList_store_row rfl 88 (.tmp 4) (.tmp 19) rfl w1.heap.size (plA 0 0 0) rfl rfl 88 _ HZ.out (by rw [place3]; rfl) rfl (plA_one _ _ _) ?_; generalize hW1 : World.setRow _ _ _ = w2; have HE3 : Hid (Below w.heap.size w w2) := (by rw [← hW1]; exact below_setRow HE2.out HE1.out.size _); clear hW1)
        | fail)
      go_quiet (fail)
      go_wp2
      go_roundw
      case rel => exact ⟨k + 1, by have := HK.out; omega, by go_num, below_drewG HE3.out _⟩
      case measure => simp [intOf]; have := HK.out; omega
    · have hd : decide ((k : Int) < 16) = false := by simp; omega
      have dl : ¬ (k : Int) < 16 := by omega
      go_wp2
      refine bodyPost_end (results_none rfl _ _ _) rfl ?_
      exact ⟨⟨_, rfl⟩, hbel.out⟩
end Go.Proofs.Ytpbmjfjnmcpieaa
