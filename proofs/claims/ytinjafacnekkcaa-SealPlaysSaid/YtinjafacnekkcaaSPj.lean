/- Texts App, CBack, SealA, SealM, put together by pack.py. -/
import Derived.Test.YtinjafacnekkcaaSPi
import Derived.Laws.BytesString
import Derived.Laws.IdiomStrings
import Derived.Lib.BufferRead
import Derived.Maps.AppendAt
import Derived.Maps.Keyed
import Derived.DeepKeys4
set_option linter.unusedVariables false
set_option linter.unusedSimpArgs false
namespace Go.Proofs.Ytinjafacnekkcaa
open Go Go.RowKit GfM
/-- the stream's bytes -/
def strL (key : List Nat) (e b n : Nat) : List Nat := (List.range n).map fun j => (encK key (ctrB e b (j / 16))).getD (j % 16) 0
theorem strL_len (key : List Nat) (e b n : Nat) : (strL key e b n).length = n := by simp [strL]
theorem strL_get (key : List Nat) (e b n j : Nat) (h : j < n) : (strL key e b n).getD j 0 = (encK key (ctrB e b (j / 16))).getD (j % 16) 0 := by simp [strL, h]
theorem strL_lt {key : List Nat} (hkl : key.length = 16 ∨ key.length = 32) (hW : ∀ x ∈ wordsK key, x < 256) (e b n : Nat) : ∀ x ∈ strL key e b n, x < 256 := by
  intro x hx
  simp only [strL, List.mem_map] at hx
  obtain ⟨j, _, rfl⟩ := hx
  exact (encK_by hkl (ctrB_by e b _) hW).2 _ (by omega)
theorem xorL_lt {l1 l2 : List Nat} (h1 : ∀ x ∈ l1, x < 256) (h2 : ∀ x ∈ l2, x < 256) : ∀ x ∈ xorL l1 l2, x < 256 := by
  intro x hx
  simp only [xorL, List.mem_map] at hx
  obtain ⟨j, _, rfl⟩ := hx
  exact xor_lt _ _ (getD_lt h1 j) (getD_lt h2 j)
set_option maxRecDepth 100000 in
set_option maxHeartbeats 4000000 in
theorem apply_c {c bx g n0 cp : Nat} {key : List Nat} (hkl : key.length = 16 ∨ key.length = 32) (e b : Nat) (he : e < 18446744073709551616) (hb : b < 4294967296) (a : Option Addr) (cap : Nat) (l : List Nat) (n : Nat) (hl : l.length = n) (hn : n ≤ 65536) (w : World)
    (hC : Cip w c bx g n0 cp (roundsK key) (wordsK key)) (hB : BytesAt w a cap l) :
    Calls Try.prog 33 #[.pointer (some ⟨c, 0, none⟩), .int .u64 (e : Int), .int .u32 (b : Int), .slice a n cap] w fun r w' =>
      ∃ q, r = .returned (.slice (some ⟨q, 0, none⟩) n n) ∧ w.heap.size ≤ q ∧ w'.heap[q]? = some (.cells (bA (xorL l (strL key e b n))) 5 (0, 0)) ∧ Below w.heap.size w w' := by
  have hst : ∃ (s : Option Addr) (sc : Nat), True := ⟨none, 0, trivial⟩
  have hS : Calls Try.prog 49 #[.pointer (some ⟨c, 0, none⟩), .int .u64 (e : Int), .int .u32 (b : Int), .int .i64 (n : Int)] w fun r w' => ∃ s sc, r = .returned (.slice s n sc) ∧ BytesAt w' s sc (strL key e b n) ∧ Below w.heap.size w w' := by
    by_cases h0 : n = 0
    · subst h0
      refine (stream_bad _ (e : Int) (b : Int) ((0 : Nat) : Int) (by omega) w).mono ?_
      rintro r w' ⟨rfl, rfl⟩
      exact ⟨none, 0, rfl, ⟨by simp [strL], fun h => by simp [strL] at h⟩, Below.refl _ _⟩
    · refine (stream_c hkl e b n he hb (by omega) hn w hC).mono ?_
      rintro r w' ⟨q, rfl, h1, h2, h3, h4⟩
      refine ⟨_, n, rfl, ⟨strL_lt hkl hC.fbyte e b n, fun _ => ⟨q, 0, rfl, by rw [strL_len]; exact Nat.le_refl _, h2, fun j hj => ?_⟩⟩, h4⟩
      rw [strL_len] at hj
      rw [Nat.zero_add, h3 j hj, strL_get _ _ _ _ _ hj]
  have HS := Lib.hid hS
  have HB := Lib.hid hB
  have HL := Lib.hid hl
  clear hS hB hl hst hkl hC he hb
  go_enter Try.func33, Try.ntmps33
  go_wp2_with fail
  refine HS.out.mono ?_
  rintro r w1 ⟨s, sc, rfl, hs, hb1⟩
  have HB1 := Lib.hid hb1
  have HSS := Lib.hid hs
  clear hs hb1
  go_wp2_with fail
  refine (wxor_c a s cap sc l (strL key e b n) n HL.out (strL_len _ _ _ _) hn w1 (HB.out.up HB1.out (Nat.le_refl _)) HSS.out).mono ?_
  rintro r w2 ⟨q, rfl, hq, hq2, hb2⟩
  have HQ := Lib.hid hq2
  have HQ1 := Lib.hid hq
  have HB2 := Lib.hid (HB1.out.trans (hb2.mono HB1.out.size))
  clear hb2 hq2 hq
  go_wp2
  go_ret
  exact ⟨q, rfl, Nat.le_trans HB1.out.size HQ1.out, HQ.out, HB2.out⟩
end Go.Proofs.Ytinjafacnekkcaa
namespace Go.Proofs.Ytinjafacnekkcaa
open Go Go.RowKit GfM
theorem new_as16 (b g : Nat) (k : List Nat) (hk : k.length = 16) (hkb : ∀ x ∈ k, x < 256) (w : World) (hB : IsBox w b) (hg : w.heap[g]? = some (.cells (bA k) 22 (0, 0))) :
    Calls Try.prog 10 #[.pointer (some ⟨b, 0, none⟩), .slice (some ⟨g, 0, none⟩) 16 16] w fun e w' => ∃ c g' n cp, e = .returned (.tuple #[.pointer (some ⟨c, 0, none⟩), .int .i64 0]) ∧ Cip w' c b g' n cp (roundsK k) (wordsK k) ∧ Below w.heap.size w w' := by
  have h := new_c b g 0 16 k (Or.inl hk) hkb (by omega) w hB (lt_of_block hg) (fun j hj => by rw [Nat.zero_add, cells_at hg j]; exact bA_get k j hj)
  rw [hk] at h
  exact h.mono fun e w' ⟨c, g', n, cp, h1, h2, _, _, h3⟩ => ⟨c, g', n, cp, h1, h2, h3⟩
end Go.Proofs.Ytinjafacnekkcaa
namespace Go.Proofs.Ytinjafacnekkcaa
open Go Go.RowKit GfM
/-- 256 bytes that begin with some, and have the last one of these behind -/
def fullL (l : List Nat) : List Nat := l ++ List.replicate (256 - l.length) (l.getD (l.length - 1) 0)
theorem fullL_len (l : List Nat) (h : l.length ≤ 256) : (fullL l).length = 256 := by simp [fullL]; omega
theorem fullL_lt {l : List Nat} (h : ∀ x ∈ l, x < 256) : ∀ x ∈ fullL l, x < 256 := by
  intro x hx
  rcases List.mem_append.1 hx with h1 | h1
  · exact h x h1
  · rw [(List.mem_replicate.1 h1).2]; exact getD_lt h _
set_option maxRecDepth 100000 in
set_option maxHeartbeats 4000000 in
theorem full_c (a : Option Addr) (len cap : Nat) (hlc : len ≤ cap) (hcm : cap ≤ 9223372036854775807) (hnil : a = none → cap = 0) (l : List Nat) (hl : l.length = min len 256) (w : World) (hB : BytesAt w a cap l) :
    Calls Try.prog 15 #[.slice a len cap] w fun e w' => ∃ q cp, e = .returned (.slice (some ⟨q, 0, none⟩) 256 cp) ∧ 256 ≤ cp ∧ w.heap.size ≤ q ∧ BytesAt w' (some ⟨q, 0, none⟩) cp (fullL l) ∧ Below w.heap.size w w' := by
  obtain ⟨i0, hi, hz0, hz1, hz2⟩ := info_parts u8info
  have HNIL := Lib.hid hnil
  have HB := Lib.hid hB
  obtain ⟨m, hm⟩ : ∃ m, m = min len 256 := ⟨_, rfl⟩
  rw [← hm] at hl
  have HLL := Lib.hid hl
  have hm256 : m ≤ 256 := by omega
  have HM := Lib.hid hm256
  obtain ⟨c, hc⟩ : ∃ c, c = l.getD (m - 1) 0 := ⟨_, rfl⟩
  have HC := Lib.hid hc
  have HOWN0 : Hid ((w.alloc (Obj.cells #[] 5)).ownsRow w.heap.size 5 1 (.slice (some ⟨w.heap.size, 0, none⟩) 0 0) 0 []) := own_none0 (Nat.le_refl _)
  have HBE0 : Hid (Below w.heap.size w (w.alloc (Obj.cells #[] 5))) := (Below.refl _ _).alloc (Nat.le_refl _) _
  have HB0 : Hid (BytesAt (w.alloc (Obj.cells #[] 5)) a cap l) := hB.up HBE0.out (Nat.le_refl _)
  clear hnil hB hl hc
  by_cases h256 : len > 256
  · have hd : decide ((len : Int) > 256) = true := by simp; omega
    have hs : (256 : Int) ≤ (cap : Int) := by omega
    obtain rfl : m = 256 := by omega
    clear hm hm256
    go_enter Try.func15, Try.ntmps15
    go_wp2_with (first
      | (refine wpList_append_bytes (v := .slice (some ⟨w.heap.size, 0, none⟩) 0 0) (base := w.heap.size) (n := 0) (xs := []) rfl (.tmp 10) (.tmp 11) rfl rfl HOWN0.out rfl HLL.out HB0.out HNIL.out (by omega) (by rw [World.size_alloc]; omega) ?_; intro v1 w1 hown1 hgrow1; have HOWN1 := Lib.hid hown1; have HBEL : Hid (Below w.heap.size w w1) := HBE0.out.grown hgrow1 (by rw [World.size_alloc]; omega) (fun q e => by simp [Value.ownBlock] at e; omega); clear hown1 hgrow1)
      | fail)
    go_loopw [3] (fun vs wr => ∃ k : Nat, 256 + k ≤ 256 ∧ Hid (wr.ownsRow w.heap.size 5 1 vs (256 + k) (bA (l ++ List.replicate k c)).toList) ∧ Hid (Below w.heap.size w wr)) (fun vs _ => 256 - lenV vs)
    case atStart => exact ⟨0, by have := HM.out; omega, by have h := HOWN1.out; simp only [Nat.zero_add, List.nil_append] at h; simpa only [List.replicate_zero, List.append_nil, Nat.add_zero] using Lib.hid h, HBEL.out⟩
    case round =>
      clear HOWN1 HBEL HOWN0 HBE0 HB0
      obtain ⟨k, hk, hown, hbel⟩ := hrel
      have hv : ∃ s sc, u3 = .slice s (256 + k) sc := by
        rcases hown.out.2 with ⟨h, h0⟩ | ⟨g', cap', cur, h, _⟩
        · exact ⟨none, 0, by rw [h, h0]⟩
        · exact ⟨_, cap', h⟩
      obtain ⟨sa, sc, rfl⟩ := hv
      obtain ⟨t, ht⟩ : ∃ t, t = 256 + k := ⟨_, rfl⟩
      have HT := Lib.hid ht
      rw [← ht] at hown hk ⊢
      clear ht
      by_cases hlt : t < 256
      · have hd2 : decide ((t : Int) < 256) = true := by simp; omega
        have hnew : ∀ Z : Array Value, (wr.alloc (.cells Z 5)).heap[wr.heap.size]? = some (.cells Z 5 (0, 0)) := fun Z => heap_new' _ _
        have HNEW := Lib.hid hnew
        have HSZ := Lib.hid hbel.out.size
        have HKT := Lib.hid hlt
        clear hnew hk hlt
        obtain ⟨g0, o0, rfl, hc0, hg0, hcell0⟩ := HB.out.2 (by rw [HLL.out]; omega)
        have cl0 := (hbel.out.cell (p := ⟨g0, o0 + 255, none⟩) hg0).trans (hcell0 255 (by rw [HLL.out]; omega))
        have hc255 : c = l.getD 255 0 := HC.out
        rw [← hc255] at cl0
        clear hcell0 hc0 hg0 hc255
        go_wp2_with (first
          | (refine wpList_append_lies _ rfl (.tmp 25) (.tmp 27) 29 rfl w.heap.size 5 i0 _ 1 1 Try.underlying29 hi hz0 hz1 hz2 rfl (by omega) (.slice sa t sc) t _ rfl (World.ownsRow.alloc hown.out _) ⟨wr.heap.size, 0, none⟩ 1 1 [.int .u8 (c : Int)] rfl rfl (World.news_of_block (HNEW.out _)) (by simp [Value.oneCell']) (by omega) (by unfold maxLen; have := HKT.out; omega) (by have := HKT.out; omega) (by rw [World.size_alloc]; have := HSZ.out; omega) _ rfl ?_; intro g5 cap5 w6 hown6 hgrow hat hlt6)
          | fail)
        go_roundw
        case rel =>
          refine ⟨k + 1, by have := HT.out; have := HKT.out; omega, ?_, ?_⟩
          · rw [rep_next, show 256 + (k + 1) = t + 1 by have := HT.out; omega]; exact hown6
          · exact (hbel.out.alloc hbel.out.size _).grown hgrow (by rw [World.size_alloc]; have := HSZ.out; omega) (fun q e => by have := own_ge hown.out q e; omega)
        case measure => simp [lenV]; have := HKT.out; omega
      · obtain rfl : t = 256 := by omega
        have hd2 : decide (((256 : Nat) : Int) < 256) = false := by simp
        rcases hown.out.2 with ⟨h, h'⟩ | ⟨g', cap', cur, h, e2, e3, e4, e5, e6, e7⟩
        · omega
        · cases h
          have HE2 := Lib.hid e2
          have HE3 := Lib.hid e3
          have HE7 := Lib.hid e7
          have HE4 := Lib.hid e4
          clear e2 e3 e4 e5 e6 e7 hi hz0 hz1 hz2
          go_wp2
          go_ret
          have hfull : l ++ List.replicate k c = fullL l := by
            have h1 := HT.out; have h2 := HLL.out
            unfold fullL; rw [h2, ← HC.out, show 256 - 256 = k by omega]
          refine ⟨g', sc, rfl, HE4.out, HE2.out, ⟨fullL_lt HB.out.1, fun _ => ⟨g', 0, rfl, ?_, lt_of_block HE3.out, fun j hj => ?_⟩⟩, hbel.out⟩
          · rw [fullL_len _ (by have := HLL.out; have := HM.out; omega)]; exact HE4.out
          · rw [Nat.zero_add, cells_at HE3.out j]
            have := congrArg (fun l => l[j]?) HE7.out
            rw [fullL_len _ (by have := HLL.out; have := HM.out; omega)] at hj
            simp only [Nat.mul_one] at this
            rw [hfull] at this
            rw [List.getElem?_take_of_lt (by omega), Array.getElem?_toList, Array.getElem?_toList, bA_get _ j (by rw [fullL_len _ (by have := HLL.out; have := HM.out; omega)]; omega)] at this
            exact this
  · have hd : decide ((len : Int) > 256) = false := by simp; omega
    obtain rfl : m = len := by omega
    clear hm
    go_enter Try.func15, Try.ntmps15
    go_wp2_with (first
      | (refine wpList_append_bytes (v := .slice (some ⟨w.heap.size, 0, none⟩) 0 0) (base := w.heap.size) (n := 0) (xs := []) rfl (.tmp 10) (.tmp 11) rfl rfl HOWN0.out rfl HLL.out HB0.out HNIL.out (by have := HM.out; omega) (by rw [World.size_alloc]; omega) ?_; intro v1 w1 hown1 hgrow1; have HOWN1 := Lib.hid hown1; have HBEL : Hid (Below w.heap.size w w1) := HBE0.out.grown hgrow1 (by rw [World.size_alloc]; omega) (fun q e => by simp [Value.ownBlock] at e; omega); clear hown1 hgrow1)
      | fail)
    go_loopw [3] (fun vs wr => ∃ k : Nat, m + k ≤ 256 ∧ Hid (wr.ownsRow w.heap.size 5 1 vs (m + k) (bA (l ++ List.replicate k c)).toList) ∧ Hid (Below w.heap.size w wr)) (fun vs _ => 256 - lenV vs)
    case atStart => exact ⟨0, by have := HM.out; omega, by have h := HOWN1.out; simp only [Nat.zero_add, List.nil_append] at h; simpa only [List.replicate_zero, List.append_nil, Nat.add_zero] using Lib.hid h, HBEL.out⟩
    case round =>
      clear HOWN1 HBEL HOWN0 HBE0 HB0
      obtain ⟨k, hk, hown, hbel⟩ := hrel
      have hv : ∃ s sc, u3 = .slice s (m + k) sc := by
        rcases hown.out.2 with ⟨h, h0⟩ | ⟨g', cap', cur, h, _⟩
        · exact ⟨none, 0, by rw [h, h0]⟩
        · exact ⟨_, cap', h⟩
      obtain ⟨sa, sc, rfl⟩ := hv
      obtain ⟨t, ht⟩ : ∃ t, t = m + k := ⟨_, rfl⟩
      have HT := Lib.hid ht
      rw [← ht] at hown hk ⊢
      clear ht
      by_cases hlt : t < 256
      · have hd2 : decide ((t : Int) < 256) = true := by simp; omega
        have hnew : ∀ Z : Array Value, (wr.alloc (.cells Z 5)).heap[wr.heap.size]? = some (.cells Z 5 (0, 0)) := fun Z => heap_new' _ _
        have HNEW := Lib.hid hnew
        have HSZ := Lib.hid hbel.out.size
        have HKT := Lib.hid hlt
        clear hnew hk hlt
        by_cases hm0 : 0 < m
        · obtain ⟨g0, o0, rfl, hc0, hg0, hcell0⟩ := HB.out.2 (by rw [HLL.out]; omega)
          have cl0 := (hbel.out.cell (p := ⟨g0, o0 + (m - 1), none⟩) hg0).trans (hcell0 (m - 1) (by rw [HLL.out]; omega))
          rw [← HC.out] at cl0
          obtain ⟨m1, hm1⟩ : ∃ m1, m1 = m - 1 := ⟨_, rfl⟩
          rw [← hm1] at cl0
          have em1 : IntKind.i64.wrap ((m : Int) - 1) = (m1 : Int) := by rw [IntWalk.i64_in _ (by omega)]; omega
          have d6 : (m1 : Int) < (m : Int) := by omega
          have dp : decide ((m : Int) > 0) = true := by simp; omega
          clear hcell0 hc0 hg0 hm1
          go_wp2_with (first
            | (refine wpList_append_lies _ rfl (.tmp 25) (.tmp 27) 29 rfl w.heap.size 5 i0 _ 1 1 Try.underlying29 hi hz0 hz1 hz2 rfl (by omega) (.slice sa t sc) t _ rfl (World.ownsRow.alloc hown.out _) ⟨wr.heap.size, 0, none⟩ 1 1 [.int .u8 (c : Int)] rfl rfl (World.news_of_block (HNEW.out _)) (by simp [Value.oneCell']) (by omega) (by unfold maxLen; have := HKT.out; omega) (by have := HKT.out; omega) (by rw [World.size_alloc]; have := HSZ.out; omega) _ rfl ?_; intro g5 cap5 w6 hown6 hgrow hat hlt6)
            | fail)
          go_roundw
          case rel =>
            refine ⟨k + 1, by have := HT.out; have := HKT.out; omega, ?_, ?_⟩
            · rw [rep_next, show m + (k + 1) = t + 1 by have := HT.out; omega]; exact hown6
            · exact (hbel.out.alloc hbel.out.size _).grown hgrow (by rw [World.size_alloc]; have := HSZ.out; omega) (fun q e => by have := own_ge hown.out q e; omega)
          case measure => simp [lenV]; have := HKT.out; omega
        · have hm00 : m = 0 := by omega
          have HM0 := Lib.hid hm00
          have hc0 : c = 0 := by rw [HC.out, hm00, List.length_eq_zero_iff.1 (HLL.out.trans hm00)]; rfl
          have HC0 := Lib.hid hc0
          have dp : decide ((m : Int) > 0) = false := by simp; omega
          clear hm00 hc0
          go_wp2_with (first
            | (refine wpList_append_lies _ rfl (.tmp 25) (.tmp 27) 29 rfl w.heap.size 5 i0 _ 1 1 Try.underlying29 hi hz0 hz1 hz2 rfl (by omega) (.slice sa t sc) t _ rfl (World.ownsRow.alloc hown.out _) ⟨wr.heap.size, 0, none⟩ 1 1 [.int .u8 0] rfl rfl (World.news_of_block (HNEW.out _)) (by simp [Value.oneCell']) (by omega) (by unfold maxLen; have := HKT.out; omega) (by have := HKT.out; omega) (by rw [World.size_alloc]; have := HSZ.out; omega) _ rfl ?_; intro g5 cap5 w6 hown6 hgrow hat hlt6)
            | fail)
          go_roundw
          case rel =>
            refine ⟨k + 1, by have := HT.out; have := HKT.out; omega, ?_, ?_⟩
            · rw [rep_next, show m + (k + 1) = t + 1 by have := HT.out; omega]; rw [HC0.out] at hown6 ⊢; exact hown6
            · exact (hbel.out.alloc hbel.out.size _).grown hgrow (by rw [World.size_alloc]; have := HSZ.out; omega) (fun q e => by have := own_ge hown.out q e; omega)
          case measure => simp [lenV]; have := HKT.out; omega
      · obtain rfl : t = 256 := by omega
        have hd2 : decide (((256 : Nat) : Int) < 256) = false := by simp
        rcases hown.out.2 with ⟨h, h'⟩ | ⟨g', cap', cur, h, e2, e3, e4, e5, e6, e7⟩
        · omega
        · cases h
          have HE2 := Lib.hid e2
          have HE3 := Lib.hid e3
          have HE7 := Lib.hid e7
          have HE4 := Lib.hid e4
          clear e2 e3 e4 e5 e6 e7 hi hz0 hz1 hz2
          go_wp2
          go_ret
          have hfull : l ++ List.replicate k c = fullL l := by
            have h1 := HT.out; have h2 := HLL.out
            unfold fullL; rw [h2, ← HC.out, show 256 - m = k by omega]
          refine ⟨g', sc, rfl, HE4.out, HE2.out, ⟨fullL_lt HB.out.1, fun _ => ⟨g', 0, rfl, ?_, lt_of_block HE3.out, fun j hj => ?_⟩⟩, hbel.out⟩
          · rw [fullL_len _ (by have := HLL.out; have := HM.out; omega)]; exact HE4.out
          · rw [Nat.zero_add, cells_at HE3.out j]
            have := congrArg (fun l => l[j]?) HE7.out
            rw [fullL_len _ (by have := HLL.out; have := HM.out; omega)] at hj
            simp only [Nat.mul_one] at this
            rw [hfull] at this
            rw [List.getElem?_take_of_lt (by omega), Array.getElem?_toList, Array.getElem?_toList, bA_get _ j (by rw [fullL_len _ (by have := HLL.out; have := HM.out; omega)]; omega)] at this
            exact this
set_option maxRecDepth 100000 in
theorem may_c (s blk : Nat) (hb : blk < 65536) (a : Option Addr) (cap : Nat) (w : World) :
    Calls Try.prog 30 #[.pointer (some ⟨s, 0, none⟩), .int .i64 (blk : Int), .slice a 256 cap] w fun e w' => e = .returned (.int .i64 0) ∧ w = w' := by
  have h1 : decide ((blk : Int) < 0) = false := by simp
  have h2 : decide ((blk : Int) ≥ 65536) = false := by simp; omega
  have h3 : ¬ (blk : Int) < 0 := by omega
  have h4 : ¬ (65536 : Int) ≤ (blk : Int) := by omega
  go_enter Try.func30, Try.ntmps30
  go_wp2
  go_ret
  exact ⟨rfl, rfl⟩
end Go.Proofs.Ytinjafacnekkcaa
namespace Go.Proofs.Ytinjafacnekkcaa
open Go Go.RowKit GfM
def nonV (x : Nat × Nat) : Value := .agg #[.int .u64 (x.1 : Int), .int .i64 (x.2 : Int)]
theorem non_wide : (match Try.prog.underlying 42 with | some (.array _ _) | some (.struct _) => true | _ => false) = true := by kernel_rfl
set_option maxRecDepth 100000 in
theorem non_keyed : Go.Maps.Keyed Try.prog 42 := Go.Maps.Keyed.of_law (deep_law (m := 3) (by omega) (by kernel_rfl) (by kernel_rfl) non_wide)
theorem c85 : Try.prog.cellsOf 42 = 2 := by kernel_rfl
theorem c41 : Try.prog.cellsOf 31 = 1 := by kernel_rfl
theorem c3 : Try.prog.cellsOf 3 = 1 := by kernel_rfl
theorem non_lits (d e b : Nat) (he : (Lit.int .u64 (e : Int)).wf = true) (hb : (Lit.int .i64 (b : Int)).wf = true) : Try.prog.keyLits (d + 2) 42 [.int .u64 (e : Int), .int .i64 (b : Int)] = some [.int .u64 (e : Int), .int .i64 (b : Int)] := by
  simp [Program.keyLits, Try.underlying42, Try.underlying31, Try.underlying3, c85, c41, c3, he, hb]
  done
theorem non_key (x : Nat × Nat) (h1 : x.1 < 18446744073709551616) (h2 : x.2 < 9223372036854775808) : ∃ l, Go.keyOf Try.prog 42 (nonV x) = some l := by
  have he : (Lit.int .u64 (x.1 : Int)).wf = true := by
    have hmin : IntKind.u64.min = 0 := rfl
    have hmax : IntKind.u64.max = 18446744073709551615 := rfl
    simp only [Lit.wf, Bool.and_eq_true, decide_eq_true_eq]; omega
  have hb : (Lit.int .i64 (x.2 : Int)).wf = true := by
    have hmin : IntKind.i64.min = -9223372036854775808 := rfl
    have hmax : IntKind.i64.max = 9223372036854775807 := rfl
    simp only [Lit.wf, Bool.and_eq_true, decide_eq_true_eq]; omega
  have hk : Try.prog.keyType 42 = true := by kernel_rfl
  have hf : (nonV x).formed Try.prog 42 = true := by
    unfold nonV
    simp [Value.formed, Try.underlying42, c85]
  obtain ⟨d, hd⟩ : ∃ d, Try.prog.types.size + 1 = d + 2 := by
    have h0 : decide (0 < Try.prog.types.size) = true := by kernel_rfl
    have h0' := of_decide_eq_true h0
    exact ⟨Try.prog.types.size - 1, by omega⟩
  refine ⟨.string (keyBytes [.int .u64 (x.1 : Int), .int .i64 (x.2 : Int)]), ?_⟩
  unfold Go.keyOf
  rw [Try.underlying42]
  simp only [hk, hf, Bool.and_self, if_true, hd]
  rw [show (nonV x).cells.toList = [.int .u64 (x.1 : Int), .int .i64 (x.2 : Int)] from rfl, non_lits d _ _ he hb]
  rfl
/-- an entry's value -/
def entV (q cp : Nat) : Value := .slice (some ⟨q, 0, none⟩) 256 cp
structure EntIs (w : World) (e : MapEntry) (x : (Nat × Nat) × List Nat) : Prop where
  key : e.key = nonV x.1
  rng : x.1.1 < 18446744073709551616 ∧ x.1.2 < 9223372036854775808
  val : ∃ q cp, e.val = entV q cp ∧ BytesAt w (some ⟨q, 0, none⟩) cp x.2
  len : x.2.length = 256
theorem EntIs.up {w w' : World} {e : MapEntry} {x : (Nat × Nat) × List Nat} (h : EntIs w e x) {B : Nat} (hb : Below B w w') (hB : w.heap.size ≤ B) : EntIs w' e x := by
  obtain ⟨q, cp, h1, h2⟩ := h.val
  exact ⟨h.key, h.rng, ⟨q, cp, h1, h2.up hb hB⟩, h.len⟩
/-- the entries' stamps: in the order of their coming -/
def BornIs (es : Array MapEntry) (clock : Nat) : Prop := clock = es.size ∧ ∀ (i : Nat) e, es[i]? = some e → e.born = i
/-- block m is a map of these entries -/
def MapIs (w : World) (m : Nat) (M : List ((Nat × Nat) × List Nat)) : Prop :=
  ∃ es clock, w.heap[m]? = some (.map es clock) ∧ es.size = M.length ∧ (∀ (i : Nat) e x, es[i]? = some e → M[i]? = some x → EntIs w e x) ∧ M.Pairwise (fun x y => x.1 ≠ y.1) ∧ BornIs es clock
theorem nonV_inj {x y : Nat × Nat} (h : nonV x = nonV y) : x = y := by
  obtain ⟨a, b⟩ := x; obtain ⟨c, d⟩ := y
  simp [nonV] at h
  exact Prod.ext (by omega) (by omega)
set_option maxRecDepth 100000 in
/-- v, ok := m[n] -/
theorem run_look {w : World} {m : Nat} {M : List ((Nat × Nat) × List Nat)} (h : MapIs w m M) (n : Nat × Nat) (h1 : n.1 < 18446744073709551616) (h2 : n.2 < 9223372036854775808) :
    ((Instr.lookup 71 (.map (some m)) (nonV n) true).run Try.prog w = .ok (.tuple #[.slice none 0 0, .bool false]) w ∧ ∀ x ∈ M, x.1 ≠ n) ∨
    ∃ x ∈ M, x.1 = n ∧ x.2.length = 256 ∧ ∃ q cp, BytesAt w (some ⟨q, 0, none⟩) cp x.2 ∧ (Instr.lookup 71 (.map (some m)) (nonV n) true).run Try.prog w = .ok (.tuple #[entV q cp, .bool true]) w := by
  obtain ⟨es, clock, hb, hlen, hF, hP⟩ := h
  obtain ⟨l, hl⟩ := non_key n h1 h2
  have hgo : ∀ (i : Nat) e, es[i]? = some e → ∃ x ∈ M, EntIs w e x := fun i e he => by
    have hi := (Array.getElem?_eq_some_iff.1 he).1
    have hm : i < M.length := by omega
    exact ⟨M[i], List.getElem_mem hm, hF i e _ he (List.getElem?_eq_getElem hm)⟩
  have hall : ∀ e ∈ es.toList, ∃ l, Go.keyOf Try.prog 42 e.key = some l := by
    intro e he
    obtain ⟨i, hi, hie⟩ := List.getElem_of_mem he
    obtain ⟨x, _, hx⟩ := hgo i e (by rw [← Array.getElem?_toList, List.getElem?_eq_getElem hi, hie])
    rw [hx.key]
    exact non_key _ hx.rng.1 hx.rng.2
  have ht := Try.underlying71
  have hz : (zeroValue 29).run Try.prog w = .ok (.slice none 0 0) w := by first | rfl | go_simp
  rcases non_keyed.find w hl es.toList hall with ⟨f1, f2⟩ | ⟨j, e0, f1, f2, f3⟩
  · refine Or.inl ⟨by simp [Instr.lookup, run_underlying ht, MapKept.run_getObj_map hb, non_keyed.check w _ hl, f1, hz, Result.andThen], fun x hx he => ?_⟩
    obtain ⟨i, hi, hie⟩ := List.getElem_of_mem hx
    have he' : es[i]? = some es[i] := Array.getElem?_eq_getElem (by omega)
    have hx2 := hF i _ x he' (by rw [List.getElem?_eq_getElem hi, hie])
    exact f2 es[i] (by simp) (by rw [hx2.key, he])
  · rw [Array.getElem?_toList] at f2
    obtain ⟨x, hx, hE⟩ := hgo j e0 f2
    obtain ⟨q, cp, hv, hB⟩ := hE.val
    refine Or.inr ⟨x, hx, nonV_inj (hE.key.symm.trans f3), hE.len, q, cp, hB, ?_⟩
    rw [← hv]
    simp [Instr.lookup, run_underlying ht, MapKept.run_getObj_map hb, non_keyed.check w _ hl, f1, Result.andThen]
theorem bytes_ne {w : World} {q cp m : Nat} {l : List Nat} (hB : BytesAt w (some ⟨q, 0, none⟩) cp l) (hl : 0 < l.length) {es : Array MapEntry} {clock : Nat} (hm : w.heap[m]? = some (.map es clock)) : q ≠ m := by
  rintro rfl
  obtain ⟨g, o, h1, h2, h3, h4⟩ := hB.2 hl
  cases h1
  have := h4 0 hl
  simp [World.cell?, hm] at this
theorem bytes_keep {w w' : World} {q cp : Nat} {l : List Nat} (hB : BytesAt w (some ⟨q, 0, none⟩) cp l) (he : w'.heap[q]? = w.heap[q]?) : BytesAt w' (some ⟨q, 0, none⟩) cp l := by
  refine ⟨hB.1, fun h0 => ?_⟩
  obtain ⟨g, o, h1, h2, h3, h4⟩ := hB.2 h0
  cases h1
  refine ⟨_, _, rfl, h2, ?_, fun j hj => ?_⟩
  · have := he.trans (Array.getElem?_eq_getElem h3)
    exact (Array.getElem?_eq_some_iff.1 this).1
  · rw [← h4 j hj]; simp [World.cell?, he]
/-- m[n] = v where n is not there -/
theorem run_put {w : World} {m : Nat} {M : List ((Nat × Nat) × List Nat)} (h : MapIs w m M) (n : Nat × Nat) (h1 : n.1 < 18446744073709551616) (h2 : n.2 < 9223372036854775808) (hn : ∀ x ∈ M, x.1 ≠ n)
    (q cp : Nat) (l : List Nat) (hl : l.length = 256) (hB : BytesAt w (some ⟨q, 0, none⟩) cp l) (hqm : q ≠ m) :
    ∃ w', (Instr.mapUpdate 71 (.map (some m)) (nonV n) (entV q cp)).run Try.prog w = .ok () w' ∧ MapIs w' m (M ++ [(n, l)]) ∧ w.grownBy w' (some m) := by
  obtain ⟨es, clock, hb, hlen, hF, hP⟩ := h
  obtain ⟨lk, hlk⟩ := non_key n h1 h2
  have hgo : ∀ (i : Nat) e, es[i]? = some e → ∃ x ∈ M, EntIs w e x := fun i e he => by
    have hi := (Array.getElem?_eq_some_iff.1 he).1
    have hm : i < M.length := by omega
    exact ⟨M[i], List.getElem_mem hm, hF i e _ he (List.getElem?_eq_getElem hm)⟩
  have hall : ∀ e ∈ es.toList, ∃ l, Go.keyOf Try.prog 42 e.key = some l := by
    intro e he
    obtain ⟨i, hi, hie⟩ := List.getElem_of_mem he
    obtain ⟨x, _, hx⟩ := hgo i e (by rw [← Array.getElem?_toList, List.getElem?_eq_getElem hi, hie])
    rw [hx.key]
    exact non_key _ hx.rng.1 hx.rng.2
  have ht := Try.underlying71
  rcases non_keyed.find w hlk es.toList hall with ⟨f1, f2⟩ | ⟨j, e0, f1, f2, f3⟩
  · have hgr : w.grownBy (ChangeMaps.setBlock w m (.map (es.push ⟨nonV n, entV q cp, clock⟩) (clock + 1))) (some m) :=
      ⟨rfl, rfl, rfl, by simp [ChangeMaps.setBlock], fun i _ hi => ChangeMaps.heap_setBlock_other hb _ (fun e => hi (by rw [e]))⟩
    refine ⟨_, ?_, ⟨es.push ⟨nonV n, entV q cp, clock⟩, clock + 1, ChangeMaps.heap_setBlock_same hb _, by simp [hlen], ?_, ?_⟩, hgr⟩
    · simp [Instr.mapUpdate, run_underlying ht, MapKept.run_getObj_map hb, non_keyed.check w false hlk, f1, MapKept.run_setObj_map _ hb, Result.andThen, ChangeMaps.setBlock]
    · intro i e x he hx
      rw [Array.getElem?_push] at he
      rw [List.getElem?_append] at hx
      by_cases hi : i = es.size
      · rw [if_pos hi] at he
        rw [if_neg (by omega), hi, hlen] at hx
        simp at hx he
        subst hx; subst he
        exact ⟨rfl, ⟨h1, h2⟩, ⟨q, cp, rfl, bytes_keep hB (hgr.block q (by
          obtain ⟨g, o, e1, _, e3, _⟩ := hB.2 (by rw [hl]; decide)
          cases e1; exact e3) (fun e => hqm (by simpa using e)))⟩, hl⟩
      · rw [if_neg hi] at he
        have hi2 : i < M.length := by have := (Array.getElem?_eq_some_iff.1 he).1; omega
        rw [if_pos hi2] at hx
        have hE := hF i e x he hx
        obtain ⟨q', cp', hv, hB'⟩ := hE.val
        have hne := bytes_ne hB' (by have := hE.len; omega) hb
        refine ⟨hE.key, hE.rng, ⟨q', cp', hv, bytes_keep hB' (hgr.block q' ?_ (fun e => hne (by simpa using e)))⟩, hE.len⟩
        obtain ⟨g, o, e1, _, e3, _⟩ := hB'.2 (by have := hE.len; omega)
        cases e1; exact e3
    · refine ⟨by rw [List.pairwise_append]; exact ⟨hP.1, by simp, fun x hx y hy => by simp at hy; subst hy; exact hn x hx⟩, by simp [hP.2.1], fun i e he => ?_⟩
      rw [Array.getElem?_push] at he
      by_cases hi : i = es.size
      · rw [if_pos hi] at he
        cases he
        exact hP.2.1.trans hi.symm
      · rw [if_neg hi] at he
        exact hP.2.2 i e he
  · rw [Array.getElem?_toList] at f2
    obtain ⟨x, hx, hE⟩ := hgo j e0 f2
    exact absurd (nonV_inj (hE.key.symm.trans f3)) (hn x hx)
end Go.Proofs.Ytinjafacnekkcaa
