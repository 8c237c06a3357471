/- law 25: blank: the blocks of an empty heap. -/
import Derived.Test.YtpbmjfjnmcpieaaChLh
set_option linter.unusedVariables false
set_option linter.unusedSimpArgs false
namespace Go.Proofs.Ytpbmjfjnmcpieaa
open Go Go.RowKit
def zB : List Nat := List.replicate 256 0
def rowOf (b : Nat) : Value := .slice (some ⟨b, 0, none⟩) 256 256
/-- fresh blank blocks -/
structure Blk (w : World) (B : Nat) (v : Value) (n : Nat) (fs : List Nat) : Prop where
  len : fs.length = n
  nd : fs.Nodup
  blk : ∀ b ∈ fs, B ≤ b ∧ w.heap[b]? = some (.cells (bA zB) 5 (0, 0))
  own : w.ownsRow B 34 1 v n (fs.map rowOf)
theorem Blk.nil (w : World) (B : Nat) : Blk w B (.slice none 0 0) 0 [] := ⟨rfl, List.nodup_nil, (fun b h => by cases h), World.ownsRow_nil _ _ _ _⟩
theorem Blk.up {w w' : World} {B n : Nat} {v : Value} {fs : List Nat} (h : Blk w B v n fs) (hb : Below w.heap.size w w') : Blk w' B v n fs :=
  ⟨h.len, h.nd, fun b hm => ⟨(h.blk b hm).1, (hb.block _ (lt_of_block (h.blk b hm).2)).trans (h.blk b hm).2⟩, own_up h.own hb⟩
theorem Blk.snoc {w w2 : World} {B n b : Nat} {v v' : Value} {fs : List Nat} (h : Blk w B v n fs) (hb : B ≤ b) (hnew : b ∉ fs) (hz : w.heap[b]? = some (.cells (bA zB) 5 (0, 0))) (hown : w2.ownsRow B 34 1 v' (n + 1) (fs.map rowOf ++ [rowOf b])) (hgr : w.grownBy w2 v.ownBlock) : Blk w2 B v' (n + 1) (fs ++ [b]) := by
  have key : ∀ (q : Nat), w.heap[q]? = some (Obj.cells (bA zB) 5 (0, 0)) → w2.heap[q]? = some (Obj.cells (bA zB) 5 (0, 0)) := fun q hq => (hgr.block q (lt_of_block hq) (fun e => by
    rcases h.own.2 with ⟨h9, _⟩ | ⟨g9, cap9, cur9, e1, e2, e3, e4⟩
    · rw [h9] at e; cases e
    · rw [e1] at e; cases e
      rw [e3] at hq; cases hq)).trans hq
  refine ⟨by rw [List.length_append, h.len]; rfl, ?_, ?_, by rw [List.map_append]; exact hown⟩
  · rw [List.nodup_append]
    refine ⟨h.nd, by simp, fun a ha c hc => ?_⟩
    have hcb : c = b := by simpa using hc
    intro e
    exact hnew (by rw [← hcb, ← e]; exact ha)
  · intro q hq
    rcases List.mem_append.1 hq with h1 | h1
    · exact ⟨(h.blk q h1).1, key q (h.blk q h1).2⟩
    · have : q = b := by simpa using h1
      subst this
      exact ⟨hb, key q hz⟩
set_option maxRecDepth 100000 in
set_option maxHeartbeats 1000000 in
theorem blank_c (n : Nat) (t : Int) (hn : n ≤ 64) (w : World) :
    Calls Try.prog 8 #[.agg #[.int .i64 (n : Int), .int .i64 t]] w fun e w' => ∃ v fs, e = .returned v ∧ Blk w' w.heap.size v (sealedN n) fs ∧ Below w.heap.size w w' := by
  have HG : Hid ((w.alloc (.cells #[.int .i64 (n : Int), .int .i64 t] 23)).heap[w.heap.size]? = some (.cells #[.int .i64 (n : Int), .int .i64 t] 23 (0, 0))) := heap_new' _ _
  have HE : Hid (Below w.heap.size w (w.alloc (.cells #[.int .i64 (n : Int), .int .i64 t] 23))) := below_box _ _
  have HSL := Lib.hid (fun w => rgSealed_c n t hn w)
  have hmk : ∀ w : World, (Instr.makeSlice 34 (.int .i64 256) (.int .i64 256)).run Try.prog w = .ok (.slice (some ⟨w.heap.size, 0, none⟩) 256 256) (w.alloc (.cells (bA zB) 5)) := fun w => mk_bytes 256 (by omega) w
  have hsm : sealedN n ≤ 70 := by have := mapsN_le n hn; unfold sealedN; omega
  obtain ⟨m, hm⟩ : ∃ m, m = sealedN n := ⟨_, rfl⟩
  rw [← hm] at HSL hsm ⊢
  have HSM := Lib.hid hsm
  clear hm hn hsm
  go_enter Try.func8, Try.ntmps8
  go_wp2
  generalize (w.alloc (.cells #[.int .i64 (n : Int), .int .i64 t] 23)) = w0 at *
  go_loopw [3, 4] (fun v vi wr => ∃ k : Nat, k ≤ m ∧ vi = .int .i64 (k : Int) ∧ ∃ fs a c, v = .slice a k c ∧ Hid (Blk wr w.heap.size v k fs) ∧ Hid (wr.heap[w.heap.size]? = some (.cells #[.int .i64 (n : Int), .int .i64 t] 23 (0, 0))) ∧ Hid (Below w.heap.size w wr)) (fun _ vi _ => m - (intOf vi).toNat)
  case atStart => exact ⟨0, by omega, rfl, [], none, 0, rfl, Blk.nil _ _, HG.out, HE.out⟩
  case round =>
    clear HG HE
    obtain ⟨k, hk, rfl, fs, a, c, rfl, hblk, hg, hbel⟩ := hrel
    have HK : Hid (k ≤ m) := hk
    by_cases hlt : k < m
    · have hd : decide ((k : Int) < (m : Int)) = true := by simp; omega
      have dl : (k : Int) < (m : Int) := by omega
      have HLT := Lib.hid hlt
      have ek : IntKind.i64.wrap ((k : Int) + 1) = (k : Int) + 1 := by have := HSM.out; exact IntWalk.i64_in _ (by omega)
      clear hk hlt
      go_wp2_with (first
        | (refine wpList_load_row rfl 23 (.tmp 1) rfl w.heap.size rfl _ _ _ _ hg.out Try.underlying23 rfl (by rw [geo2]; rfl) ?_)
        | fail)
      refine (HSL.out _).mono ?_
      rintro e w1 ⟨rfl, hb1⟩
      have HB1 := Lib.hid (hblk.out.up hb1)
      have HG1 := Lib.hid ((hb1.block _ (lt_of_block hg.out)).trans hg.out)
      have HE1 : Hid (Below w.heap.size w w1) := hbel.out.trans (hb1.mono hbel.out.size)
      clear hb1 hblk hg hbel
      have hb2 := below_box w1 (.cells (bA zB) 5)
      have hn2 : (w1.alloc (.cells (bA zB) 5)).heap[w1.heap.size]? = some (.cells (bA zB) 5 (0, 0)) := heap_new' _ _
      have hz2 : (w1.alloc (.cells (bA zB) 5)).heap.size = w1.heap.size + 1 := World.size_alloc _ _
      have hb3 := below_box (w1.alloc (.cells (bA zB) 5)) (.cells #[rowOf w1.heap.size] 34)
      have hn3 : ((w1.alloc (.cells (bA zB) 5)).alloc (.cells #[rowOf w1.heap.size] 34)).heap[(w1.alloc (.cells (bA zB) 5)).heap.size]? = some (.cells #[rowOf w1.heap.size] 34 (0, 0)) := heap_new' _ _
      have hbb : Blk (w1.alloc (.cells (bA zB) 5)) w.heap.size (.slice a k c) k fs := HB1.out.up hb2
      have HB3 : Hid (Blk ((w1.alloc (.cells (bA zB) 5)).alloc (.cells #[rowOf w1.heap.size] 34)) w.heap.size (.slice a k c) k fs) := hbb.up hb3
      have HN3 : Hid (((w1.alloc (.cells (bA zB) 5)).alloc (.cells #[rowOf w1.heap.size] 34)).heap[w1.heap.size]? = some (.cells (bA zB) 5 (0, 0))) := (hb3.block _ (lt_of_block hn2)).trans hn2
      have HC3 : Hid (((w1.alloc (.cells (bA zB) 5)).alloc (.cells #[rowOf w1.heap.size] 34)).cell? ⟨w1.heap.size + 1, 0, none⟩ = some (rowOf w1.heap.size)) := by
        rw [hz2] at hn3; exact (cells_at hn3 0).trans rfl
      have HE3 : Hid (Below w.heap.size w ((w1.alloc (.cells (bA zB) 5)).alloc (.cells #[rowOf w1.heap.size] 34))) := HE1.out.trans ((hb2.trans (hb3.mono hb2.size)).mono HE1.out.size)
      have HS3 : Hid (w.heap.size ≤ ((w1.alloc (.cells (bA zB) 5)).alloc (.cells #[rowOf w1.heap.size] 34)).heap.size) := HE3.out.size
      have HG3 : Hid (((w1.alloc (.cells (bA zB) 5)).alloc (.cells #[rowOf w1.heap.size] 34)).heap[w.heap.size]? = some (.cells #[.int .i64 (n : Int), .int .i64 t] 23 (0, 0))) := by
        have h1 := (hb2.block _ (lt_of_block HG1.out)).trans HG1.out
        exact (hb3.block _ (lt_of_block h1)).trans h1
      have HNI : Hid (w1.heap.size ∉ fs) := fun hm => by have := lt_of_block (HB1.out.blk _ hm).2; omega
      have HS1 : Hid (w.heap.size ≤ w1.heap.size) := HE1.out.size
      have HGL : Hid (w.heap.size < w1.heap.size) := lt_of_block HG1.out
      have HX : Hid ((Value.slice a k c).ownBlock ≠ some w.heap.size) := fun e => by
        rcases HB1.out.own.2 with ⟨h9, _⟩ | ⟨g9, cap9, cur9, e1, e2, e3, e4⟩
        · rw [h9] at e; cases e
        · rw [e1] at e; cases e
          have h9 := e3.symm.trans HG1.out
          cases h9
      clear hb2 hn2 hz2 hb3 hn3 hbb
      go_wp2_with (first
        | (refine wpList_append_row (v := .slice a k c) (base := w.heap.size) (n := k) (xs := fs.map rowOf) (u := rowOf w1.heap.size) rfl (.tmp 11) (.tmp 13) rfl rfl HB3.out.own rfl HC3.out rfl (by have := HSM.out; have := HLT.out; omega) HS3.out ?_; intro v4 w4 hown4 hgr4; obtain ⟨a4, c4, rfl⟩ := own_sliceR hown4; have HB4 : Hid (Blk w4 w.heap.size (.slice a4 (k + 1) c4) (k + 1) (fs ++ [w1.heap.size])) := HB3.out.snoc HS1.out HNI.out HN3.out hown4 hgr4; have HE4 : Hid (Below w.heap.size w w4) := HE3.out.grown hgr4 HS3.out (fun q hq => own_base HB3.out.own q hq); have HG4 : Hid (w4.heap[w.heap.size]? = some (.cells #[.int .i64 (n : Int), .int .i64 t] 23 (0, 0))) := (hgr4.block _ (lt_of_block HG3.out) (fun e => HX.out e.symm)).trans HG3.out; clear hown4 hgr4)
        | fail)
      go_roundw
      case rel => exact ⟨k + 1, by have := HLT.out; omega, by go_num, fs ++ [w1.heap.size], a4, c4, rfl, HB4.out, HG4.out, HE4.out⟩
      case measure => simp [intOf]; have := HLT.out; omega
    · have hd : decide ((k : Int) < (m : Int)) = false := by simp; omega
      have dl : ¬ (k : Int) < (m : Int) := by omega
      have hkm : k = m := by omega
      subst hkm
      go_wp2_with (first
        | (refine wpList_load_row rfl 23 (.tmp 1) rfl w.heap.size rfl _ _ _ _ hg.out Try.underlying23 rfl (by rw [geo2]; rfl) ?_)
        | fail)
      refine (HSL.out _).mono ?_
      rintro e w1 ⟨rfl, hb1⟩
      have HB1 := Lib.hid (hblk.out.up hb1)
      have HE1 : Hid (Below w.heap.size w w1) := hbel.out.trans (hb1.mono hbel.out.size)
      clear hb1 hblk hg hbel
      go_wp2
      go_ret
      exact ⟨_, fs, rfl, HB1.out, HE1.out⟩
end Go.Proofs.Ytpbmjfjnmcpieaa
