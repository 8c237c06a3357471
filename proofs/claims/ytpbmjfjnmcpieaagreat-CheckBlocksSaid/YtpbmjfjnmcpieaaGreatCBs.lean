/- Texts RCr, RCs, put together by pack.py. -/
import Derived.Test.YtpbmjfjnmcpieaaGreatCBr
import Derived.Test.YtpbmjfjnmcpieaaGreatCBq
import Derived.Deep.CutRange
import Derived.OpenShut
import Derived.ProofKit
import Derived.ChangeOld
set_option maxRecDepth 100000
set_option maxHeartbeats 16000000
set_option linter.unusedVariables false
set_option linter.unusedSimpArgs false
namespace Go.Proofs.YtpbmjfjnmcpieaaGreat
open Go Go.RowKit
theorem RowsT.app {w : World} {xs ys : List Value} {L M : List (List Nat)} (h : RowsT w xs L) (g : RowsT w ys M) : RowsT w (xs ++ ys) (L ++ M) := by
 refine ⟨⟨by simp [h.1.1, g.1.1], fun i l hl => ?_⟩, fun i p ln c hx => ?_⟩
 ·by_cases hi : i < L.length
  ·rw [List.getElem?_append_left hi] at hl
   obtain ⟨u, h1, h2⟩ := h.1.2 i l hl
   exact ⟨u, by rw [List.getElem?_append_left (by rw [h.1.1]; exact hi)]; exact h1, h2⟩
  ·rw [List.getElem?_append_right (by omega)] at hl
   obtain ⟨u, h1, h2⟩ := g.1.2 _ l hl
   exact ⟨u, by rw [List.getElem?_append_right (by rw [h.1.1]; omega), h.1.1]; exact h1, h2⟩
 ·by_cases hi : i < xs.length
  ·rw [List.getElem?_append_left hi] at hx
   exact h.2 i p ln c hx
  ·rw [List.getElem?_append_right (by omega)] at hx
   exact g.2 _ p ln c hx
theorem zB_len : zB.length = 256 := by unfold zB; exact List.length_replicate
theorem blk_rowsT {w : World} {B n : Nat} {v : Value} {fs : List Nat} (h : Blk w B v n fs) (j : Nat) : RowsT w ((fs.map rowOf).drop j) (List.replicate (n - j) zB) := by
 refine ⟨⟨by simp [h.len], fun i l hl => ?_⟩, fun i p ln c hx => ?_⟩
 ·have hi : i < n - j := by have := (List.getElem?_eq_some_iff.1 hl).1; simpa using this
  rw [List.getElem?_replicate, if_pos hi] at hl
  have hl2 := Option.some.inj hl
  subst hl2
  have hlt : j + i < fs.length := by rw [h.len]; omega
  have hb := h.blk fs[j + i] (List.getElem_mem _)
  refine ⟨rowOf fs[j + i], by rw [List.getElem?_drop, List.getElem?_map, List.getElem?_eq_getElem hlt]; rfl, some ⟨fs[j + i], 0, none⟩, 256, by rw [zB_len]; rfl, ?_, fun e => (by cases e), by rw [zB_len]; exact Nat.le_refl _, by decide⟩
  refine ⟨fun x hx => by rw [(List.mem_replicate.1 hx).2]; decide, fun _ => ⟨_, 0, rfl, by rw [zB_len]; exact Nat.le_refl _, lt_of_block hb.2, fun q hq => ?_⟩⟩
  rw [Nat.zero_add, cells_at hb.2 q, bA_get zB q hq]
 ·rw [List.getElem?_drop, List.getElem?_map] at hx
  obtain ⟨b, hb, e⟩ := Option.map_eq_some_iff.1 hx
  unfold rowOf at e
  cases e
  exact ⟨_, _, (h.blk b (List.mem_of_getElem? hb)).2⟩
theorem blocks_any (n : Nat) (hg : geoB n 4 = true) (g k cap : Nat) (L : List (List Nat)) (hL : L.length = k) (hk : k = sealedN n) (hcap : k <= cap) (h256 : ∀ l ∈ L, l.length = 256) (w : World) (hR : RowsAt w (some ⟨g, 0, none⟩) L) :
  Calls Tryz.prog 8 #[.agg #[.int .i64 (n : Int), .int .i64 4], .slice (some ⟨g, 0, none⟩) k cap] w fun e w' => ∃ fv, e = .returned (.tuple #[fv, .int .i64 0]) /\ w'.ownsRow w.heap.size 67 2 fv (faultsK n L).length (cellsF (faultsK n L)) /\ Below w.heap.size w w' := by
 rcases hm : metaN n (L.take (1 + mapsN n)) with _ | ⟨x, R, P⟩
 ·exact blocks_none n 4 hg g 0 k cap L hL hk hcap h256 hm w hR
 ·exact blocks_some n 4 hg g 0 k cap L hL hk hcap h256 (rowsAt_lt hR) x R P hm w hR
theorem rblocks_any (n : Nat) (hg : geoB n 4 = true) (g k cap : Nat) (L : List (List Nat)) (hL : L.length = k) (hk : k = sealedN n) (hcap : k <= cap) (h256 : ∀ l ∈ L, l.length = 256) (w : World) (hR : RowsAt w (some ⟨g, 0, none⟩) L) :
  Calls Tryz.prog 10 #[.agg #[.int .i64 (n : Int), .int .i64 4], .slice (some ⟨g, 0, none⟩) k cap] w fun e w' => (∃ v, e = .returned v /\ w'.ownsRow w.heap.size 73 2 v (faultsK n L).length (cellsF (faultsK n L))) /\ Below w.heap.size w w' := by
 rcases hm : metaN n (L.take (1 + mapsN n)) with _ | ⟨x, R, P⟩
 ·exact rblocks_none n 4 hg g 0 k cap L hL hk hcap h256 hm w hR
 ·exact rblocks_some n 4 hg g 0 k cap L hL hk hcap h256 (rowsAt_lt hR) x R P hm w hR
theorem pz_take {w : World} {a : Option Addr} {L : List Pz} (h : PzAt w a L) (n : Nat) : PzAt w a (L.take n) := fun i p hp => by
 have hi : i < n := by have := (List.getElem?_eq_some_iff.1 hp).1; rw [List.length_take] at this; omega
 rw [List.getElem?_take_of_lt hi] at hp
 exact h i p hp
theorem Blk.set {w : World} {B n q o : Nat} {v u : Value} {fs : List Nat} (h : Blk w B v n fs) (hq : q < B) : Blk (w.setCell ⟨q, o, none⟩ u) B v n fs :=
 ⟨h.len, h.nd, fun b hb => ⟨(h.blk b hb).1, (setCell_other _ _ _ _ (by have := (h.blk b hb).1; omega)).trans (h.blk b hb).2⟩, own_keep h.own (fun p hp => setCell_other _ _ _ _ (by have := own_base h.own p hp; omega))⟩
/-- the meta behind its cut -/
structure Mid (w wx : World) (n k g bc s m pc : Nat) (pa : Option Addr) (R : List Nat) (L : List Pz) (fs : List Nat) : Prop where
 le : m <= n
 lc : m <= pc
 len : L.length = m
 e : ∀ p ∈ L, p.e < 18446744073709551616
 row : PzAt wx pa L
 mt : wx.heap[w.heap.size]? = some (.cells (mtA s R (.slice pa m pc)) 28 (0, 0))
 geo : wx.heap[w.heap.size + 1]? = some (.cells #[.int .i64 (n : Int), .int .i64 4] 31 (0, 0))
 blk : Blk wx (w.heap.size + 2) (.slice (some ⟨g, 0, none⟩) k bc) k fs
 bel : Below w.heap.size w wx
theorem walkCB (w : World) (x : Nat) (hx : x < 256) (s : Nat) (hs : s < 18446744073709551616) (R : List Nat) (h16 : R.length = 16) (hR : ∀ r ∈ R, r < 18446744073709551616) (pa : Option Addr) (m pc : Nat) (L : List Pz) (hL : L.length = m) (hmc : m <= pc) (hmx : pc <= maxLen) (hle : ∀ p ∈ L, p.e < 18446744073709551616) (hP : PzAt w pa L) (ta : Option Addr) (tn tc : Nat) (T : List Tn) (hT : T.length = tn) (htn : tn <= maxLen) (hy : ∀ p ∈ T, p.y < 256) (hTa : TnsAt w ta T) :
  Calls Tryz.prog 3 #[.int .u8 (x : Int), .agg (mtA s R (.slice pa m pc)), .slice ta tn tc] w fun e w' => e = .returned (.bool true) /\ Below w.heap.size w w' := by
 obtain ⟨n, hn⟩ : ∃ n, n = 1 + x % 20 := ⟨_, rfl⟩
 have hn1 : 1 <= n /\ n <= 20 := by omega
 obtain ⟨W, hW⟩ : ∃ W, W = (w.alloc (.cells (mtA s R (.slice pa m pc)) 28)).alloc (.cells #[.int .i64 (n : Int), .int .i64 4] 31) := ⟨_, rfl⟩
 have hgg : W.heap[w.heap.size + 1]? = some (.cells #[.int .i64 (n : Int), .int .i64 4] 31 (0, 0)) := by
  rw [hW, show w.heap.size + 1 = (w.alloc (.cells (mtA s R (.slice pa m pc)) 28)).heap.size by simp]; exact heap_new' _ _
 have hmm : W.heap[w.heap.size]? = some (.cells (mtA s R (.slice pa m pc)) 28 (0, 0)) := by rw [hW, heap_old' _ _ _ (by simp)]; exact heap_new' _ _
 have hE : Below w.heap.size w W := by rw [hW]; exact (below_box w _).alloc (by simp) _
 have HG := Lib.hid hgg
 have HM := Lib.hid hmm
 have HE := Lib.hid hE
 have HN := Lib.hid hn1
 have HBL := Lib.hid (fun w => blank_c n 4 (by omega) w)
 have HP := Lib.hid hP
 have HTA := Lib.hid hTa
 have HTT := Lib.hid (And.intro hT (And.intro htn hy))
 have H16 := Lib.hid (And.intro hs (And.intro h16 hR))
 have HL := Lib.hid (And.intro hL (And.intro hmc (And.intro hmx hle)))
 have e6 : 1 + (x : Int) % 20 = (n : Int) := by omega
 clear hgg hmm hE hn1 hP hTa hT htn hy hs h16 hR hL hmc hmx hle hn
 go_enter Tryz.func3, Tryz.ntmps3
 go_wp2_with fail
 rw [<- hW]
 have hWs : W.heap.size = w.heap.size + 2 := by rw [hW]; simp
 clear hW e6
 refine (HBL.out W).mono ?_
 rintro e w1 ⟨v1, fs, rfl, hblk, hb1⟩
 obtain ⟨k, hk⟩ : ∃ k, k = sealedN n := ⟨_, rfl⟩
 rw [<- hk, hWs] at hblk
 have hkn : k = 1 + mapsN n + n := by rw [hk]; rfl
 have hmn := mapsN_le n (by have := HN.out; omega)
 obtain ⟨g, bc, rfl, hg0, hg1⟩ := own_some hblk.own (by omega)
 have HK : Hid (k = 1 + mapsN n + n /\ mapsN n <= 4 /\ k = sealedN n /\ w.heap.size + 2 <= g) := ⟨hkn, hmn, hk, by omega⟩
 have HB1 := Lib.hid hblk
 have HG1 := Lib.hid ((hb1.block _ (lt_of_block HG.out)).trans HG.out)
 have HM1 := Lib.hid ((hb1.block _ (lt_of_block HM.out)).trans HM.out)
 have HE1 : Hid (Below w.heap.size w w1) := HE.out.trans (hb1.mono HE.out.size)
 have c17 := (cells_at HM1.out 17).trans (mtA_get17 s R _ H16.out.2.1)
 have f17 := free_at HM1.out 17
 have g0 := (cells_at HG1.out 0).trans (show _ = some (Value.int .i64 (n : Int)) from rfl)
 clear hb1 HG HM HE HBL hblk hk hkn hmn hg0 hg1 hWs
 go_upto_if 23 with fail
 go_cut [] from 18 to 29 (fun wx => ∃ m' L', Hid (Mid w wx n k g bc s m' pc pa R L' fs))
 case first =>
  by_cases hgt : n < m
  ·have dg : decide ((m : Int) > (n : Int)) = true := by simp; omega
   have dl : (n : Int) < (m : Int) := by omega
   have dN : decide (n < m) = true := decide_eq_true hgt
   have hpos : 0 < L.length := by have := HL.out.1; omega
   obtain ⟨g9, o9, e9, hg9, _⟩ := HP.out 0 L[0] (List.getElem?_eq_getElem hpos)
   subst e9
   have hsl : ∀ w : World, (Instr.sliceAt 26 (.slice (some ⟨g9, o9, none⟩) m pc) none (some (.int .i64 (n : Int))) none).run Tryz.prog w = .ok (.slice (some ⟨g9, o9, none⟩) n pc) w := fun w => run_subPhR g9 o9 m pc n (by have := HL.out.2.1; omega) w
   have HGT := Lib.hid hgt
   clear hgt hg9
   go_wp2
   go_meet
   case rel =>
    have hgt := HGT.out
    refine ⟨n, L.take n, ?_⟩
    have hmt := heap_setCell_same w1 w.heap.size 17 _ _ (.slice (some ⟨g9, o9, none⟩) n pc) HM1.out
    rw [mtA_set17 s R H16.out.2.1] at hmt
    refine ⟨Nat.le_refl _, by have := HL.out.2.1; omega, by rw [List.length_take, HL.out.1]; omega, fun p hp => HL.out.2.2.2 p (List.mem_of_mem_take hp), ?_, hmt, (setCell_other _ _ _ _ (by omega)).trans HG1.out, ?_, HE1.out.setCell (Nat.le_refl _) _⟩
    ·exact (pz_take HP.out n).up (HE1.out.setCell (Nat.le_refl _) _) (Nat.le_refl _)
    ·exact HB1.out.set (by omega)
  ·have dN : decide (n < m) = false := decide_eq_false hgt
   have dg : decide ((m : Int) > (n : Int)) = false := by simp; omega
   have dl : ¬ (n : Int) < (m : Int) := by omega
   have HGT := Lib.hid hgt
   clear hgt
   go_wp2
   go_meet
   case rel => exact ⟨m, L, ⟨by have := HGT.out; omega, HL.out.2.1, HL.out.1, HL.out.2.2.2, HP.out.up HE1.out (Nat.le_refl _), HM1.out, HG1.out, HB1.out, HE1.out⟩⟩
 case rest =>
  clear HP HL HB1 HM1 HG1 HE1 c17 f17 g0 hx
  obtain ⟨m', L', HD⟩ := hcut
  have HGB : Hid (geoB n 4 = true) := (geoB_iff n 4).2 (by have := HN.out; omega)
  go_wp2
  refine regionQB w.heap.size (w.heap.size + 1) s m' pc n wc.heap.size pa R L' wc H16.out.2.1 HGB.out HD.out.len HD.out.le (by have := HN.out; omega) HD.out.mt HD.out.geo HD.out.row (Nat.le_refl _) ?_
  intro vs w5 hv hk
  have v5 : (m' = 0 /\ vs 5 = .slice pa 0 0) \/ (0 < m' /\ w5.ownsRow wc.heap.size 78 5 (vs 5) m' (cellsZ L')) := hv 5 (by omega)
  obtain ⟨q, v12, p12⟩ : ∃ q, vs 12 = .slice (some ⟨q, subP 0 n m', none⟩) (n - m') (n - m') /\ PzAt w5 (some ⟨q, subP 0 n m', none⟩) (List.replicate (n - m') ⟨0, 0, 0, 0, 0⟩) := hv 12 (by omega)
  rw [v12]
  clear hv v12
  have hmn' := HD.out.le
  have hnn := HN.out
  refine wpList_append_two rfl (.tmp 35) (.tmp 42) rfl wc.heap.size hk.size pa m' L' HD.out.len (vs 5) rfl v5 q (subP 0 n m') (n - m') (n - m') (List.replicate (n - m') ⟨0, 0, 0, 0, 0⟩) rfl (by simp) (by omega) (by omega) p12 ?_
  intro v6 w6 hown6 hb6
  rw [show m' + (n - m') = n by omega] at hown6
  obtain ⟨q6, c6, rfl, hq6, _⟩ := own_some hown6 (by omega)
  have hE6 : Below wc.heap.size wc w6 := Below.trans hk hb6
  have hM6 := (hE6.block _ (lt_of_block HD.out.mt)).trans HD.out.mt
  have hG6 := (hE6.block _ (lt_of_block HD.out.geo)).trans HD.out.geo
  have hgs := lt_of_block HD.out.geo
  have c17 := (cells_at hM6 17).trans (mtA_get17 s R _ H16.out.2.1)
  have f17 := free_at hM6 17
  have hM7 := heap_setCell_same w6 w.heap.size 17 _ _ (.slice (some ⟨q6, 0, none⟩) n c6) hM6
  rw [mtA_set17 s R H16.out.2.1] at hM7
  have HM7 := Lib.hid hM7
  have HG7 : Hid ((w6.setCell ⟨w.heap.size, 17, none⟩ (.slice (some ⟨q6, 0, none⟩) n c6)).heap[w.heap.size + 1]? = some (.cells #[.int .i64 (n : Int), .int .i64 4] 31 (0, 0))) := (setCell_other _ _ _ _ (by omega)).trans hG6
  have HB7 : Hid (Blk (w6.setCell ⟨w.heap.size, 17, none⟩ (.slice (some ⟨q6, 0, none⟩) n c6)) (w.heap.size + 2) (.slice (some ⟨g, 0, none⟩) k bc) k fs) := (HD.out.blk.up hE6).set (by omega)
  have HE7 : Hid (Below w.heap.size w (w6.setCell ⟨w.heap.size, 17, none⟩ (.slice (some ⟨q6, 0, none⟩) n c6))) := (HD.out.bel.trans (hE6.mono HD.out.bel.size)).setCell (Nat.le_refl _) _
  have HO7 : Hid ((w6.setCell ⟨w.heap.size, 17, none⟩ (.slice (some ⟨q6, 0, none⟩) n c6)).ownsRow wc.heap.size 78 5 (.slice (some ⟨q6, 0, none⟩) n c6) n (cellsZ (L' ++ List.replicate (n - m') ⟨0, 0, 0, 0, 0⟩))) := own_keep hown6 (fun p hp => setCell_other _ _ _ _ (by cases hp; show q6 ≠ w.heap.size; omega))
  have HLL : Hid ((L' ++ List.replicate (n - m') (⟨0, 0, 0, 0, 0⟩ : Pz)).length = n /\ ∀ p ∈ L' ++ List.replicate (n - m') (⟨0, 0, 0, 0, 0⟩ : Pz), p.e < 18446744073709551616) := by
   refine ⟨by rw [List.length_append, HD.out.len, List.length_replicate]; omega, fun p hp => ?_⟩
   rcases List.mem_append.1 hp with h9 | h9
   ·exact HD.out.e p h9
   ·rw [(List.mem_replicate.1 h9).2]; decide
  generalize L' ++ List.replicate (n - m') (⟨0, 0, 0, 0, 0⟩ : Pz) = LL at *
  clear hM6 hG6 hM7 hE6 hown6 hb6 hk v5 p12 hmn' hnn hq6 hgs HD
  generalize vs 0 = y0 at *
  go_wp2_with (first
   | (refine wpList_load_row rfl 31 (.tmp 7) rfl (w.heap.size + 1) rfl _ _ _ _ HG7.out Tryz.underlying31 rfl (by rw [geo2]; rfl) ?_)
   | (refine wpList_load_row rfl 28 (.tmp 4) rfl w.heap.size rfl _ _ _ _ HM7.out Tryz.underlying28 rfl (by rw [meta18R, mtA_size, H16.out.2.1]) ?_)
   | fail)
  refine (rmblocks_c n 4 HGB.out s H16.out.1 R H16.out.2.1 H16.out.2.2 q6 0 c6 (own_le HO7.out) LL HLL.out.1 HLL.out.2 _ (pzs_of_own HO7.out)).mono ?_
  rintro e w8 ⟨v8, xs8, D8, rfl, ho8, hr8, hd8, hb8⟩
  obtain ⟨q8, c8, rfl, hq8, _⟩ := own_some ho8 (by omega)
  have hB8 := HB7.out.up hb8
  have hG8 := (hb8.block _ (lt_of_block HG7.out)).trans HG7.out
  have hE8 : Below w.heap.size w w8 := HE7.out.trans (hb8.mono HE7.out.size)
  have hkk := HK.out
  have hxl : xs8.length = 1 + mapsN n := by rw [ho8.1, Nat.mul_one]
  obtain ⟨vc, w9, hcp, ho9, hk9, hb9⟩ := run_copy_rows (w := w8) 3 hB8.own ⟨q8, 0, none⟩ (1 + mapsN n) c8 xs8 hxl (by omega) (fun j u hu => by
   rw [add_plain, Nat.zero_add, ho8.cellAt j (by have := (List.getElem?_eq_some_iff.1 hu).1; omega)]; exact hu) hr8.one
  have hkeep : ∀ (p : Nat) (A : Array Value) (z : Nat × Nat), w8.heap[p]? = some (Obj.cells A 5 z) -> w9.heap[p]? = w8.heap[p]? := fun p A z hp => hk9 p (by
   rintro rfl
   rcases hB8.own.2 with ⟨h9, _⟩ | ⟨g9, cap9, cur9, e1, e2, e3, e4⟩
   ·cases h9
   ·cases e1
    have h7 := e3.symm.trans hp
    cases h7)
  have hr9 := (hr8.app (blk_rowsT hB8 (1 + mapsN n))).keep hkeep
  have h9l : ∀ l ∈ D8 ++ List.replicate (k - (1 + mapsN n)) zB, l.length = 256 := fun l hl => by
   rcases List.mem_append.1 hl with h9 | h9
   ·exact (hd8 l h9).1
   ·rw [(List.mem_replicate.1 h9).2]; exact zB_len
  have HE9 : Hid (Below w.heap.size w w9) := hE8.trans (hb9.mono (by omega))
  have HG9 : Hid (w9.heap[w.heap.size + 1]? = some (.cells #[.int .i64 (n : Int), .int .i64 4] 31 (0, 0))) := (hk9 _ (by omega)).trans hG8
  have HTU := Lib.hid (turned25_c T tn HTT.out.1 HTT.out.2.1 HTT.out.2.2 ta tc (w.heap.size + 2) k g bc (by omega) (by have := HN.out; omega) _ _ h9l w9 (HTA.out.up HE9.out (Nat.le_refl _)) ho9 hr9)
  clear hb8 hB8 hG8 hE8 hkk hxl ho9 hk9 hb9 hkeep hr9 h9l ho8 hr8 hd8 hq8 HG7 HB7 HE7 HO7 HM7 HLL c17 f17
  go_wp2_with fail
  refine HTU.out.mono ?_
  rintro e w10 ⟨v10, xs10, L10, rfl, ho10, hr10, h10, hb10⟩
  obtain ⟨q10, c10, rfl, hq10, _⟩ := own_some ho10 (by have := HK.out; omega)
  obtain ⟨hl10, hra10⟩ := rowsAt_of ho10 hr10.1
  have HE10 : Hid (Below w.heap.size w w10) := HE9.out.trans (hb10.mono HE9.out.size)
  have HG10 := Lib.hid ((hb10.block _ (lt_of_block HG9.out)).trans HG9.out)
  have HCK := Lib.hid (fun w' h => blocks_any n HGB.out q10 k c10 L10 hl10 HK.out.2.2.1 (own_le ho10) h10 w' (hra10.up (B := w10.heap.size) (w' := w') h (Nat.le_refl _)))
  have HCR := Lib.hid (fun w' h => rblocks_any n HGB.out q10 k c10 L10 hl10 HK.out.2.2.1 (own_le ho10) h10 w' (hra10.up (B := w10.heap.size) (w' := w') h (Nat.le_refl _)))
  obtain ⟨F, hF⟩ : ∃ F, F = faultsK n L10 := ⟨_, rfl⟩
  rw [<- hF] at HCK HCR
  obtain ⟨mF, hmF⟩ : ∃ mF, mF = F.length := ⟨_, rfl⟩
  rw [<- hmF] at HCK HCR
  have HMF := Lib.hid hmF
  clear hF hmF hra10 hl10 hr10 h10 ho10 hb10 hq10 HTU HE9 HG9 hcp
  go_wp2_with (first
   | (refine wpList_load_row rfl 31 (.tmp 7) rfl (w.heap.size + 1) rfl _ _ _ _ HG10.out Tryz.underlying31 rfl (by rw [geo2]; rfl) ?_)
   | fail)
  refine (HCK.out w10 (Below.refl _ _)).mono ?_
  rintro e w11 ⟨fv, rfl, ho11, hb11⟩
  obtain ⟨a11, c11, rfl⟩ := own_sliceR ho11
  have HE11 : Hid (Below w.heap.size w w11) := HE10.out.trans (hb11.mono HE10.out.size)
  have HG11 := Lib.hid ((hb11.block _ (lt_of_block HG10.out)).trans HG10.out)
  have HO11 := Lib.hid ho11
  have HC11 := Lib.hid (HCR.out w11 hb11)
  clear ho11 hb11 HCK HCR HE10 HG10
  have k0 := (cells_at HG11.out 0).trans (show _ = some (Value.int .i64 (n : Int)) from rfl)
  have k1 := (cells_at HG11.out 1).trans (show _ = some (Value.int .i64 4) from rfl)
  go_wp2_with fail
  refine HC11.out.mono ?_
  rintro e w12 ⟨⟨v12, rfl, ho12⟩, hb12⟩
  obtain ⟨a12, c12, rfl⟩ := own_sliceR ho12
  have HE12 : Hid (Below w.heap.size w w12) := HE11.out.trans (hb12.mono HE11.out.size)
  have HSA := Lib.hid (same25_c F mF HMF.out.symm (by
   rcases ho12.2 with ⟨h9, h8⟩ | ⟨g9, cap9, cur9, e1, e2, e3, e4, e5, _⟩
   ·omega
   ·omega) a11 a12 c11 c12 w12 (fts_of_own (own_up HO11.out hb12)) (fts_of_ownR ho12))
  clear ho12 hb12 HC11 HO11 HE11 HG11 k0 k1
  go_wp2_with fail
  refine HSA.out.mono ?_
  rintro e w13 ⟨rfl, hb13⟩
  have HE13 : Hid (Below w.heap.size w w13) := HE12.out.trans (hb13.mono HE12.out.size)
  clear hb13 HSA HE12
  go_wp2_with fail
  refine (awake25_c w13).mono ?_
  rintro e w14 ⟨rfl, hb14⟩
  have HE14 : Hid (Below w.heap.size w w14) := HE13.out.trans (hb14.mono HE13.out.size)
  clear hb14 HE13
  go_wp2
  go_ret
  exact ⟨rfl, HE14.out⟩
end Go.Proofs.YtpbmjfjnmcpieaaGreat
namespace Go.Proofs.YtpbmjfjnmcpieaaGreat
open Go Go.RowKit Go.ChangeShapes Go.WideShapes
theorem coI : Tryz.prog.cellsOf 3 = 1 := by kernel_rfl
theorem coU : Tryz.prog.cellsOf 22 = 1 := by kernel_rfl
theorem coB : Tryz.prog.cellsOf 5 = 1 := by kernel_rfl
theorem coP : Tryz.prog.cellsOf 78 = 5 := by kernel_rfl
theorem coT : Tryz.prog.cellsOf 52 = 3 := by kernel_rfl
theorem coA : Tryz.prog.cellsOf 23 = 16 := by kernel_rfl
theorem coR : Tryz.prog.cellsOf 25 = 17 := by kernel_rfl
theorem coS : Tryz.prog.cellsOf 26 = 1 := by kernel_rfl
theorem coM : Tryz.prog.cellsOf 28 = 18 := by kernel_rfl
theorem cell_spot {w : World} {g o : Nat} {sp : Option Nat} {v : Value} (h : w.cell? ⟨g, o, sp⟩ = some v) : sp = none /\ g < w.heap.size := by
 unfold World.cell? at h
 split at h
 ·rename_i hh
  refine ⟨?_, lt_of_block hh⟩
  cases sp with
  | none => rfl
  | some x => simp at h
 ·cases h
theorem at_of {l : List Value} (j : Nat) {v : Value} (h1 : (l.drop j).take 1 = [v]) : l[j]? = some v := by
 have := congrArg (fun l => l[0]?) h1
 simpa using this
/-- a slice of structs -/
theorem open_srow {H : Type} {enc : TypeId × Value -> H} {W : World} {base n : Nat} {held : Bool} {TS T : TypeId} {α : Type} (z : Nat) (hu : Tryz.prog.underlying TS = some (.slice T)) (hz : Tryz.prog.cellsOf T = z) (hz0 : 0 < z) (A : α -> Array Value) (hA : ∀ p, (A p).size = z) (Φ : α -> Prop) (dflt : α)
  (one : ∀ n cs x, DataW.trod enc Tryz.prog W base (fun _ => true) held n T cs = some x -> ∃ p, cs = (A p).toList /\ Φ p) {cs : List Value} {x : DataW H × List MemPlace}
  (h : DataW.trod enc Tryz.prog W base (fun _ => true) held n TS cs = some x) :
  ∃ a len cap, ∃ L : List α, cs = [.slice a len cap] /\ L.length = len /\ len <= cap /\ cap <= maxLen /\ (∀ p ∈ L, Φ p) /\ ∀ (i : Nat) (p : α), L[i]? = some p -> ∃ g o, a = some ⟨g, o, none⟩ /\ g < W.heap.size /\ W.rangeAt g (o + i * z) (A p).toList := by
 rcases DataW.trod_slice hu h with ⟨hcs, _⟩ | ⟨p, len, cap, elems, rest, n', _, hcs, _, hb, hlc, hcm, hlen, hel, _⟩
 ·exact ⟨none, 0, 0, [], hcs, rfl, Nat.le_refl _, Nat.zero_le _, (fun p h => by cases h), (fun i p h => by simp at h)⟩
 ·have key : ∀ i, i < len -> ∃ r : α, Φ r /\ ∃ g o, some p = some ⟨g, o, none⟩ /\ g < W.heap.size /\ W.rangeAt g (o + i * z) (A r).toList := by
   intro i hi
   have hp : p.spot = none /\ p.block < W.heap.size := by
    have h0 := hel 0 (by omega)
    rw [List.getElem?_eq_getElem (by omega), hz] at h0
    obtain ⟨cs, h1, h2⟩ := Option.bind_eq_some_iff.1 h0
    obtain ⟨_, hl1, hc⟩ := World.cells?_some h1
    have hc0 := hc 0 (by omega)
    rw [List.getElem?_eq_getElem (by omega)] at hc0
    simp only [Addr.add, Nat.zero_mul, if_true] at hc0
    obtain ⟨g, o, sp⟩ := p
    exact cell_spot hc0
   obtain ⟨g, o, sp⟩ := p
   obtain ⟨hp, hg⟩ := hp
   simp only at hp hg
   subst hp
   have h0 := hel i hi
   rw [List.getElem?_eq_getElem (by omega), hz, add_plain] at h0
   obtain ⟨cs, h1, h2⟩ := Option.bind_eq_some_iff.1 h0
   obtain ⟨_, hl1, hc⟩ := World.cells?_some h1
   obtain ⟨r, hcs, hr⟩ := one _ _ _ h2
   refine ⟨r, hr, g, o, rfl, hg, fun j u hu => ?_⟩
   have hj : j < z := by rw [<- hA r, <- Array.length_toList]; exact (List.getElem?_eq_some_iff.1 hu).1
   have g0 := hc j hj
   rw [hcs, add_plain] at g0
   exact g0.trans hu
  have hex : ∃ f : Nat -> α, ∀ i, i < len -> Φ (f i) /\ ∃ g o, some p = some ⟨g, o, none⟩ /\ g < W.heap.size /\ W.rangeAt g (o + i * z) (A (f i)).toList := by
   refine ⟨fun i => if h : i < len then (key i h).choose else dflt, fun i hi => ?_⟩
   simp only [hi, dif_pos]
   exact (key i hi).choose_spec
  obtain ⟨f, hf⟩ := hex
  refine ⟨some p, len, cap, (List.range len).map f, hcs, by simp, hlc, hcm, fun r hr => ?_, fun i r hr => ?_⟩
  ·obtain ⟨i, hi, rfl⟩ := List.mem_map.1 hr
   exact (hf i (by simpa using hi)).1
  ·have hi : i < len := by
    have := (List.getElem?_eq_some_iff.1 hr).1; simpa using this
   rw [List.getElem?_eq_getElem (by simpa using hi)] at hr
   simp at hr
   rw [<- hr]
   exact (hf i hi).2
theorem three_of {l : List Value} (h : l.length = 3) : ∃ x0 x1 x2, l = [x0, x1, x2] := by
 match l, h with
 | [x0, x1, x2], _ => exact ⟨x0, x1, x2, rfl⟩
theorem five_of {l : List Value} (h : l.length = 5) : ∃ x0 x1 x2 x3 x4, l = [x0, x1, x2, x3, x4] := by
 match l, h with
 | [x0, x1, x2, x3, x4], _ => exact ⟨x0, x1, x2, x3, x4, rfl⟩
section
variable {H : Type} {enc : TypeId × Value -> H} {W : World} {base n : Nat} {held : Bool} {cs : List Value} {x : DataW H × List MemPlace}
theorem open_turn (h : DataW.trod enc Tryz.prog W base (fun _ => true) held n 52 cs = some x) : ∃ p : Tn, cs = (tnA p).toList /\ p.y < 256 := by
 obtain ⟨xs, m, _, _, hl, hxl, hel⟩ := DataW.trod_struct Tryz.underlying52 h
 rw [coT] at hl
 have h0 : DataW.trod enc Tryz.prog W base (fun _ => true) held m 3 ((cs.drop 0).take (Tryz.prog.cellsOf 3)) = xs[0]? := hel 0 _ rfl
 have h1 : DataW.trod enc Tryz.prog W base (fun _ => true) held m 3 ((cs.drop 1).take (Tryz.prog.cellsOf 3)) = xs[1]? := hel 1 _ rfl
 have h2 : DataW.trod enc Tryz.prog W base (fun _ => true) held m 5 ((cs.drop 2).take (Tryz.prog.cellsOf 5)) = xs[2]? := hel 2 _ rfl
 have hx : xs.length = 3 := hxl
 rw [coI, List.getElem?_eq_getElem (by omega)] at h0 h1
 rw [coB, List.getElem?_eq_getElem (by omega)] at h2
 obtain ⟨b, e0, _, _⟩ := DataW.trod_int Tryz.underlying3 h0
 obtain ⟨a, e1, _, _⟩ := DataW.trod_int Tryz.underlying3 h1
 obtain ⟨y, e2, _, w2⟩ := DataW.trod_int Tryz.underlying5 h2
 obtain ⟨y, hy, rfl⟩ := wf_nat8 w2
 have c0 := at_of 0 e0
 have c1 := at_of 1 e1
 have c2 := at_of 2 e2
 obtain ⟨x0, x1, x2, hcs⟩ := three_of hl
 rw [hcs] at c0 c1 c2
 simp at c0 c1 c2
 exact ⟨⟨b, a, y⟩, by rw [hcs, c0, c1, c2]; rfl, hy⟩
theorem open_pz (h : DataW.trod enc Tryz.prog W base (fun _ => true) held n 78 cs = some x) : ∃ p : Pz, cs = (pzA p).toList /\ p.e < 18446744073709551616 := by
 obtain ⟨xs, m, _, _, hl, hxl, hel⟩ := DataW.trod_struct Tryz.underlying78 h
 rw [coP] at hl
 have h0 : DataW.trod enc Tryz.prog W base (fun _ => true) held m 3 ((cs.drop 0).take (Tryz.prog.cellsOf 3)) = xs[0]? := hel 0 _ rfl
 have h1 : DataW.trod enc Tryz.prog W base (fun _ => true) held m 3 ((cs.drop 1).take (Tryz.prog.cellsOf 3)) = xs[1]? := hel 1 _ rfl
 have h2 : DataW.trod enc Tryz.prog W base (fun _ => true) held m 3 ((cs.drop 2).take (Tryz.prog.cellsOf 3)) = xs[2]? := hel 2 _ rfl
 have h3 : DataW.trod enc Tryz.prog W base (fun _ => true) held m 3 ((cs.drop 3).take (Tryz.prog.cellsOf 3)) = xs[3]? := hel 3 _ rfl
 have h4 : DataW.trod enc Tryz.prog W base (fun _ => true) held m 22 ((cs.drop 4).take (Tryz.prog.cellsOf 22)) = xs[4]? := hel 4 _ rfl
 have hx : xs.length = 5 := hxl
 rw [coI, List.getElem?_eq_getElem (by omega)] at h0 h1 h2 h3
 rw [coU, List.getElem?_eq_getElem (by omega)] at h4
 obtain ⟨b0, e0, _, _⟩ := DataW.trod_int Tryz.underlying3 h0
 obtain ⟨b1, e1, _, _⟩ := DataW.trod_int Tryz.underlying3 h1
 obtain ⟨b2, e2, _, _⟩ := DataW.trod_int Tryz.underlying3 h2
 obtain ⟨b3, e3, _, _⟩ := DataW.trod_int Tryz.underlying3 h3
 obtain ⟨b4, e4, _, w4⟩ := DataW.trod_int Tryz.underlying22 h4
 obtain ⟨b4, hb4, rfl⟩ := wf_nat64 w4
 have c0 := at_of 0 e0
 have c1 := at_of 1 e1
 have c2 := at_of 2 e2
 have c3 := at_of 3 e3
 have c4 := at_of 4 e4
 obtain ⟨x0, x1, x2, x3, x4, hcs⟩ := five_of hl
 rw [hcs] at c0 c1 c2 c3 c4
 simp at c0 c1 c2 c3 c4
 exact ⟨⟨b0, b1, b2, b3, b4⟩, by rw [hcs, c0, c1, c2, c3, c4]; rfl, hb4⟩
/-- an array of sixteen roots -/
theorem open_roots (h : DataW.trod enc Tryz.prog W base (fun _ => true) held n 23 cs = some x) : ∃ R : List Nat, cs = (R.map fun (n : Nat) => Value.int .u64 (n : Int)) /\ R.length = 16 /\ ∀ r ∈ R, r < 18446744073709551616 := by
 obtain ⟨xs, m, _, _, hl, hxl, hel⟩ := DataW.trod_array Tryz.underlying23 h
 rw [coA] at hl
 have key : ∀ i, i < 16 -> ∃ z : Nat, z < 18446744073709551616 /\ cs[i]? = some (.int .u64 (z : Int)) := by
  intro i hi
  have h1 := hel i hi
  rw [coU, Nat.mul_one, List.getElem?_eq_getElem (by omega)] at h1
  obtain ⟨z, h2, _, hw⟩ := DataW.trod_int Tryz.underlying22 h1
  obtain ⟨z, hz, rfl⟩ := wf_nat64 hw
  exact ⟨z, hz, at_of i h2⟩
 have hex : ∃ f : Nat -> Nat, ∀ i, i < 16 -> f i < 18446744073709551616 /\ cs[i]? = some (.int .u64 ((f i : Nat) : Int)) := by
  refine ⟨fun i => if h : i < 16 then (key i h).choose else 0, fun i hi => ?_⟩
  simp only [hi, dif_pos]
  exact (key i hi).choose_spec
 obtain ⟨f, hf⟩ := hex
 refine ⟨(List.range 16).map f, ?_, by simp, fun r hr => ?_⟩
 ·apply List.ext_getElem?
  intro i
  by_cases hi : i < 16
  ·rw [(hf i hi).2]; simp [hi]
  ·rw [List.getElem?_eq_none (by omega), List.getElem?_eq_none (by simp; omega)]
 ·simp at hr
  obtain ⟨i, hi, rfl⟩ := hr
  exact (hf i hi).1
end
/-- turns as they come in -/
def TurnsIn (W : World) (a : Option Addr) (len cap : Nat) (T : List Tn) : Prop := T.length = len /\ len <= maxLen /\ (∀ p ∈ T, p.y < 256) /\ TnsAt W a T
theorem open_turns {H : Type} {enc : TypeId × Value -> H} {W W' : World} {base b0 : Nat} {held : Bool} {r : Reach} {v : Value} {d : DataW H} {ps : List MemPlace}
  (hval : Value.okWide Tryz.prog W' r b0 29 v) (hd : DataW.Trod enc Tryz.prog W base (fun _ => true) held 29 v d ps) : ∃ a len cap T, v = .slice a len cap /\ TurnsIn W a len cap T := by
 obtain ⟨a, len, cap, rfl⟩ := okWide_slice Tryz.underlying29 hval
 obtain ⟨fuel, hf⟩ := hd
 simp only [Value.cells] at hf
 obtain ⟨a', len', cap', T, hcs, h1, h2, h3, h4, h5⟩ := open_srow 3 Tryz.underlying29 coT (by omega) tnA (fun _ => rfl) (fun p => p.y < 256) ⟨0, 0, 0⟩ (fun n cs x h => open_turn h) hf
 simp at hcs
 obtain ⟨rfl, rfl, rfl⟩ := hcs
 exact ⟨a, len, cap, T, rfl, h1, by omega, h4, h5⟩
/-- a meta as it comes in -/
def MetaIn (W : World) (s : Nat) (R : List Nat) (a : Option Addr) (len cap : Nat) (L : List Pz) : Prop := s < 18446744073709551616 /\ R.length = 16 /\ (∀ r ∈ R, r < 18446744073709551616) /\ L.length = len /\ len <= cap /\ cap <= maxLen /\ (∀ p ∈ L, p.e < 18446744073709551616) /\ PzAt W a L
theorem open_meta {H : Type} {enc : TypeId × Value -> H} {W W' : World} {base b0 : Nat} {held : Bool} {r : Reach} {v : Value} {d : DataW H} {ps : List MemPlace}
  (hval : Value.okWide Tryz.prog W' r b0 28 v) (hd : DataW.Trod enc Tryz.prog W base (fun _ => true) held 28 v d ps) : ∃ s R a len cap L, v = .agg (mtA s R (.slice a len cap)) /\ MetaIn W s R a len cap L := by
 have hv : ∃ cs, v = .agg cs := by
  simp only [Value.okWide, Tryz.underlying28] at hval
  obtain ⟨cs, h, _⟩ := hval
  exact ⟨cs, h⟩
 obtain ⟨cs, rfl⟩ := hv
 obtain ⟨fuel, hf⟩ := hd
 simp only [Value.cells] at hf
 obtain ⟨xs, m, _, _, hl, hxl, hel⟩ := DataW.trod_struct Tryz.underlying28 hf
 rw [coM] at hl
 have h0 : DataW.trod enc Tryz.prog W base (fun _ => true) held m 25 ((cs.toList.drop 0).take (Tryz.prog.cellsOf 25)) = xs[0]? := hel 0 _ rfl
 have h1 : DataW.trod enc Tryz.prog W base (fun _ => true) held m 26 ((cs.toList.drop 17).take (Tryz.prog.cellsOf 26)) = xs[1]? := hel 1 _ rfl
 have hx : xs.length = 2 := hxl
 rw [coR, List.getElem?_eq_getElem (by omega)] at h0
 rw [coS, List.getElem?_eq_getElem (by omega)] at h1
 obtain ⟨a, len, cap, L, e1, g1, g2, g3, g4, g5⟩ := open_srow 5 Tryz.underlying26 coP (by omega) pzA (fun _ => rfl) (fun p => p.e < 18446744073709551616) ⟨0, 0, 0, 0, 0⟩ (fun n cs x h => open_pz h) h1
 obtain ⟨ys, m2, _, _, hl2, hyl, hel2⟩ := DataW.trod_struct Tryz.underlying25 h0
 rw [coR] at hl2
 obtain ⟨C, hC⟩ : ∃ C, C = (cs.toList.drop 0).take 17 := ⟨_, rfl⟩
 rw [<- hC] at hl2 hel2
 have k0 : DataW.trod enc Tryz.prog W base (fun _ => true) held m2 22 ((C.drop 0).take (Tryz.prog.cellsOf 22)) = ys[0]? := hel2 0 _ rfl
 have k1 : DataW.trod enc Tryz.prog W base (fun _ => true) held m2 23 ((C.drop 1).take (Tryz.prog.cellsOf 23)) = ys[1]? := hel2 1 _ rfl
 have hy : ys.length = 2 := hyl
 rw [coU, List.getElem?_eq_getElem (by omega)] at k0
 rw [coA, List.getElem?_eq_getElem (by omega)] at k1
 obtain ⟨s, f0, _, ws⟩ := DataW.trod_int Tryz.underlying22 k0
 obtain ⟨s, hs, rfl⟩ := wf_nat64 ws
 obtain ⟨R, f1, hR, hw⟩ := open_roots k1
 refine ⟨s, R, a, len, cap, L, ?_, hs, hR, hw, g1, g2, g3, g4, g5⟩
 congr 1
 apply Array.toList_inj.1
 have hCe : C = .int .u64 (s : Int) :: (R.map fun (n : Nat) => Value.int .u64 (n : Int)) := by
  have e2 : C = (C.drop 0).take 1 ++ (C.drop 1).take 16 := by
   rw [List.drop_zero, List.take_of_length_le (l := C.drop 1) (by rw [List.length_drop]; omega)]
   exact (List.take_append_drop 1 _).symm
  rw [e2, f0, f1]; rfl
 have e2 : cs.toList = (cs.toList.drop 0).take 17 ++ (cs.toList.drop 17).take 1 := by
  rw [List.drop_zero, List.take_of_length_le (l := cs.toList.drop 17) (by rw [List.length_drop]; omega)]
  exact (List.take_append_drop 17 _).symm
 rw [e2, <- hC, hCe, e1]
 simp [mtA]
theorem walkCheckBlocks (W : World) (x : Int) (wx : (Lit.int .u8 x).wf = true) (s : Nat) (R : List Nat) (pa : Option Addr) (m pc : Nat) (L : List Pz) (hM : MetaIn W s R pa m pc L) (ta : Option Addr) (tn tc : Nat) (T : List Tn) (hT : TurnsIn W ta tn tc T) :
  Calls Tryz.prog 3 #[.int .u8 x, .agg (mtA s R (.slice pa m pc)), .slice ta tn tc] W fun e w' => e = .returned (.bool true) /\ Below W.heap.size W w' := by
 obtain ⟨x, hx, rfl⟩ := wf_nat8 wx
 obtain ⟨m1, m2, m3, m4, m5, m6, m7, m8⟩ := hM
 obtain ⟨t1, t2, t3, t4⟩ := hT
 exact walkCB W x hx s m1 R m2 m3 pa m pc L m4 m5 m6 m7 m8 ta tn tc T t1 t2 t3 t4
end Go.Proofs.YtpbmjfjnmcpieaaGreat
