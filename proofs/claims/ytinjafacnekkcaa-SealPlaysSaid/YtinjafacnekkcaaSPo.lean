/- Texts RApp, GfF, RefT, put together by pack.py. -/
import Derived.Test.YtinjafacnekkcaaSPn
import Derived.Test.YtinjafacnekkcaaSPj
import Derived.Test.YtinjafacnekkcaaSPb
import Derived.Test.YtinjafacnekkcaaSPm
import Derived.Deep.CutRange
import Derived.Deep.MidRow
set_option linter.unusedVariables false
set_option linter.unusedSimpArgs false
namespace Go.Proofs.Ytinjafacnekkcaa
open Go Go.RowKit GfM
theorem renc16 {c g nw cap : Nat} {key p : List Nat} (hkl : key.length = 16 ∨ key.length = 32) (hp : By p) (w : World) (hC : RCip w c g nw cap (roundsK key) (wordsK key)) :
    Calls Try.prog 50 #[.pointer (some ⟨c, 0, none⟩), .agg (bA p)] w fun e w' => e = .returned (.agg (bA (encK key p))) ∧ Below w.heap.size w w' :=
  renc_c c g nw cap (roundsK key) (wordsK key) p hp (by unfold roundsK; omega) (by rw [wordsK_len key hkl]; exact Nat.le_refl _) (by unfold roundsK; omega) w hC
theorem zr_by : By (List.replicate 16 0) := ⟨by simp, by decide⟩
theorem take_next (l : List Nat) (k x : Nat) (hk : k < l.length) (hx : l.getD k 0 = x) : (bA (l.take (k + 1))).toList = (bA (l.take k)).toList ++ [.int .u8 (x : Int)] := by
  have e : l.take (k + 1) = l.take k ++ [x] := by
    rw [List.take_succ_eq_append_getElem hk]
    rw [List.getD_eq_getElem?_getD, List.getElem?_eq_getElem hk] at hx
    simp at hx
    rw [hx]
  rw [e]; simp [bA]
theorem own_bytes {w : World} {base n : Nat} {v : Value} {l : List Nat} (hl : l.length = n) (hlt : ∀ x ∈ l, x < 256) (h : w.ownsRow base 5 1 v n (bA l).toList) : ∃ s sc, v = .slice s n sc ∧ BytesAt w s sc l := by
  rcases h.2 with ⟨e, h0⟩ | ⟨g', cap', cur, e, e2, e3, e4, e5, e6, e7⟩
  · exact ⟨none, 0, by rw [e, h0], hlt, fun h => by omega⟩
  · refine ⟨_, cap', e, hlt, fun _ => ⟨g', 0, rfl, by omega, lt_of_block e3, fun j hj => ?_⟩⟩
    rw [Nat.zero_add, cells_at e3 j]
    have := congrArg (fun l => l[j]?) e7
    simp only [Nat.mul_one] at this
    rw [List.getElem?_take_of_lt (by omega), Array.getElem?_toList, Array.getElem?_toList, bA_get _ j hj] at this
    exact this
set_option maxRecDepth 100000 in
set_option maxHeartbeats 4000000 in
theorem rapply_c {c g nw cp : Nat} {key : List Nat} (hkl : key.length = 16 ∨ key.length = 32) (e b : Nat) (he : e < 18446744073709551616) (hb : b < 4294967296) (a : Option Addr) (cap : Nat) (l : List Nat) (n : Nat) (hl : l.length = n) (hn : n ≤ 65536) (w : World)
    (hC : RCip w c g nw cp (roundsK key) (wordsK key)) (hB : BytesAt w a cap l) :
    Calls Try.prog 35 #[.pointer (some ⟨c, 0, none⟩), .int .u64 (e : Int), .int .u32 (b : Int), .slice a n cap] w fun r w' =>
      ∃ s sc, r = .returned (.slice s n sc) ∧ BytesAt w' s sc (xorL l (strL key e b n)) ∧ Below w.heap.size w w' := by
  obtain ⟨i0, hi, hz0, hz1, hz2⟩ := info_parts u8info
  have HL := Lib.hid hl
  have HB := Lib.hid hB
  have hlt : ∀ x ∈ xorL l (strL key e b n), x < 256 := xorL_lt hB.1 (strL_lt hkl hC.fbyte e b n)
  have hxl : (xorL l (strL key e b n)).length = n := by rw [xorL_len]; exact hl
  have hxg : ∀ k, k < n → (xorL l (strL key e b n)).getD k 0 = l.getD k 0 ^^^ (encK key (ctrB e b (k / 16))).getD (k % 16) 0 := fun k hk => by rw [xorL_get _ _ _ (by omega), strL_get _ _ _ _ _ hk]
  have hct : ∀ (q : Nat), q < 65536 → ∀ w', Calls Try.prog 51 #[.int .u64 (e : Int), .int .u32 (b : Int), .int .i64 (q : Int)] w' fun r w'' => r = .returned (.agg (bA (ctrB e b q))) ∧ Below w'.heap.size w' w'' := fun q hq w' => refcounter_c e b q he hb hq w'
  have hen : ∀ p, By p → ∀ w', Below w.heap.size w w' → Calls Try.prog 50 #[.pointer (some ⟨c, 0, none⟩), .agg (bA p)] w' fun e w'' => e = .returned (.agg (bA (encK key p))) ∧ Below w'.heap.size w' w'' := fun p hp w' h => renc16 hkl hp w' (hC.up h (Nat.le_refl _))
  have hby : ∀ q, By (encK key (ctrB e b q)) := fun q => encK_by hkl (ctrB_by e b q) hC.fbyte
  have s1 := heap_new' w (.cells (bA (List.replicate 16 0)) 22)
  have HLT := Lib.hid hlt
  have HXL := Lib.hid hxl
  have HXG := Lib.hid hxg
  have HCT := Lib.hid hct
  have HEN := Lib.hid hen
  have HBY := Lib.hid hby
  have S1 := Lib.hid s1
  obtain ⟨R, hR⟩ : ∃ R, R = xorL l (strL key e b n) := ⟨_, rfl⟩
  rw [← hR] at HLT HXL HXG ⊢
  clear hl hB hlt hxl hxg hct hen hby s1 hkl hC he hb hR
  go_enter Try.func35, Try.ntmps35
  go_wp2
  go_loopw [9, 15] (fun vs vi wr => ∃ k : Nat, k ≤ n ∧ vi = .int .i64 (k : Int) ∧ (∃ X : List Nat, Hid (By X ∧ wr.heap[w.heap.size]? = some (.cells (bA X) 22 (0, 0)) ∧ (k % 16 ≠ 0 → X = encK key (ctrB e b (k / 16))))) ∧ Hid (wr.ownsRow (w.heap.size + 1) 5 1 vs k (bA (R.take k)).toList) ∧ Hid (Below w.heap.size w wr)) (fun _ vi _ => n - (intOf vi).toNat)
  case atStart => exact ⟨0, by omega, rfl, ⟨List.replicate 16 0, zr_by, S1.out, fun h => absurd rfl h⟩, ⟨rfl, .inl ⟨rfl, rfl⟩⟩, (Below.refl _ _).alloc (Nat.le_refl _) _⟩
  case round =>
    clear S1
    obtain ⟨k, hk, rfl, ⟨X, hX⟩, hown, hbel⟩ := hrel
    by_cases hlt : k < n
    · obtain ⟨g1, o1, rfl, hc1, hg1, hcell1⟩ := HB.out.2 (by rw [HL.out]; omega)
      have HV1 := getD_lt HB.out.1 k
      have cl1 := (hbel.out.cell (p := ⟨g1, o1 + k, none⟩) hg1).trans (hcell1 k (by rw [HL.out]; exact hlt))
      have hget := HXG.out k hlt
      obtain ⟨x, hx⟩ : ∃ x, x = l.getD k 0 := ⟨_, rfl⟩
      rw [← hx] at cl1 HV1 hget
      have HG := Lib.hid hget
      have hd : decide ((k : Int) < (n : Int)) = true := by simp; omega
      have d6 : (k : Int) < (n : Int) := by omega
      have d7 : ¬ (k : Int) < 0 := by omega
      obtain ⟨md, hmd⟩ : ∃ md, md = k % 16 := ⟨_, rfl⟩
      have hmd16 : md < 16 := by omega
      have e3 : (k : Int).tmod 16 = (md : Int) := by rw [Int.tmod_eq_emod_of_nonneg (by omega)]; omega
      have d8 : (md : Int) < 16 := by omega
      obtain ⟨q, hq⟩ : ∃ q, q = k / 16 := ⟨_, rfl⟩
      have e4 : IntKind.i64.wrap ((k : Int) / 16) = (q : Int) := by rw [IntWalk.i64_in _ (by omega)]; omega
      have hq16 : q < 65536 := by omega
      rw [← hmd, ← hq] at hX HG
      have HMD := Lib.hid hmd
      have HQ := Lib.hid hq
      have HMD16 := Lib.hid hmd16
      have HQ16 := Lib.hid hq16
      have HHV := Lib.hid HV1
      have HKN := Lib.hid hlt
      have zw : Hid (w.heap.size < wr.heap.size) := lt_of_block hX.out.2.1
      clear hx hget HV1 hcell1 hmd hq hmd16 hq16 hc1 hg1 hk hlt
      by_cases hz : md = 0
      · have hzt : ((md : Int) == 0) = true := by simp [hz]
        have HZ := Lib.hid hz
        clear hz
        go_wp2_with fail
        refine (HCT.out q HQ16.out wr).mono ?_
        rintro r w1 ⟨rfl, hb1⟩
        have HB1 : Hid (Below w.heap.size w w1) := hbel.out.trans (hb1.mono hbel.out.size)
        have HOW1 : Hid (w1.ownsRow (w.heap.size + 1) 5 1 u9 k (bA (R.take k)).toList) := own_keep hown.out (fun q hq hq2 => hb1.block q hq2)
        have HX1 : Hid (w1.heap[w.heap.size]? = some (.cells (bA X) 22 (0, 0))) := (hb1.block _ zw.out).trans hX.out.2.1
        clear hb1
        go_wp2_with fail
        refine (HEN.out _ (ctrB_by e b q) w1 HB1.out).mono ?_
        rintro r w2 ⟨rfl, hb2⟩
        have HB2 : Hid (Below w.heap.size w w2) := HB1.out.trans (hb2.mono HB1.out.size)
        have HOW2 : Hid (w2.ownsRow (w.heap.size + 1) 5 1 u9 k (bA (R.take k)).toList) := own_keep HOW1.out (fun q hq hq2 => hb2.block q hq2)
        have HX2 : Hid (w2.heap[w.heap.size]? = some (.cells (bA X) 22 (0, 0))) := (hb2.block _ (lt_of_block HX1.out)).trans HX1.out
        obtain ⟨Y, hY⟩ : ∃ Y, Y = encK key (ctrB e b q) := ⟨_, rfl⟩
        have HYB : Hid (By Y) := by rw [hY]; exact HBY.out q
        have HG2 : Hid (R.getD k 0 = x ^^^ Y.getD md 0) := by show _ = _; rw [HG.out, hY]
        have HY := Lib.hid hY
        rw [← hY]
        have HXS : Hid (X.length = 16) := hX.out.1.1
        clear hb2 hY HOW1 HB1 HX1 HG hX
        go_wp2_with (first
          | (refine wpList_store_row rfl 22 (.tmp 10) (.tmp 29) rfl w.heap.size (bA Y) rfl rfl 22 _ HX2.out (by rw [zero16', bA_size, HYB.out.1]) (by rw [bA_size, bA_size, HYB.out.1, HXS.out]) (bA_one _) ?_
             generalize hW5 : World.setRow _ _ _ = W5
             have HH5 : Hid (W5.heap[w.heap.size]? = some (.cells (bA Y) 22 (0, 0))) := (by rw [← hW5]; exact setRow_heap _ _ _ _ _ _ HX2.out)
             have HB5 : Hid (Below w.heap.size w W5) := (by rw [← hW5]; exact below_setRow HB2.out (Nat.le_refl _) _)
             have HOW5 : Hid (W5.ownsRow (w.heap.size + 1) 5 1 u9 k (bA (R.take k)).toList) := (by rw [← hW5]; exact own_keep HOW2.out (fun q hq hq2 => setRow_other _ _ _ _ (by omega)))
             clear hW5 HB2 HOW2 HX2
             have hyl := HYB.out.2 md HMD16.out
             have c5 := (cells_at HH5.out md).trans (bA_get Y md (by rw [HYB.out.1]; exact HMD16.out))
             obtain ⟨y, hy⟩ : ∃ y, y = Y.getD md 0 := ⟨_, rfl⟩
             rw [← hy] at c5 hyl
             have HG3 : Hid (R.getD k 0 = x ^^^ y) := by show _ = _; rw [HG2.out, hy]
             have hxr : bits BinOp.xor IntKind.u8 (x : Int) (y : Int) = ((x ^^^ y : Nat) : Int) := u8x rfl rfl HHV.out hyl
             have hnew : ∀ Z : Array Value, (W5.alloc (.cells Z 5)).heap[W5.heap.size]? = some (.cells Z 5 (0, 0)) := fun Z => heap_new' _ _
             have HNEW := Lib.hid hnew
             have HS5 : Hid (w.heap.size < W5.heap.size) := lt_of_block HH5.out
             clear hyl hy hnew
             )
          | (refine wpList_append_lies _ rfl (.tmp 30) (.tmp 37) 29 rfl (w.heap.size + 1) 5 i0 _ 1 1 Try.underlying29 hi hz0 hz1 hz2 rfl (by omega) u9 k _ rfl (World.ownsRow.alloc HOW5.out _) ⟨W5.heap.size, 0, none⟩ 1 1 [.int .u8 ((x ^^^ y : Nat) : Int)] rfl rfl (World.news_of_block (HNEW.out _)) (by simp [Value.oneCell']) (by omega) (by unfold maxLen; have := HKN.out; omega) (by have := HKN.out; omega) (by rw [World.size_alloc]; have := HS5.out; omega) _ rfl ?_; intro g5 cap5 w6 hown6 hgrow hat hlt6)
          | fail)
        go_roundw
        case rel =>
          refine ⟨k + 1, by have := HKN.out; omega, by go_num, ⟨Y, HYB.out, ?_, fun h => ?_⟩, ?_, ?_⟩
          · exact (hgrow.block _ (by rw [World.size_alloc]; have := HS5.out; omega) (fun e => by have := own_ge HOW5.out _ e.symm; omega)).trans ((heap_old' _ _ _ HS5.out).trans HH5.out)
          · rw [HY.out]; have := HQ.out; congr 2; omega
          · rw [take_next R k (x ^^^ y) (by rw [HXL.out]; exact HKN.out) HG3.out]; exact hown6
          · exact (HB5.out.alloc HB5.out.size _).grown hgrow (by rw [World.size_alloc]; have := HS5.out; omega) (fun q e => by have := own_ge HOW5.out q e; omega)
        case measure => simp [intOf]; have := HKN.out; omega
      · have hzf : ((md : Int) == 0) = false := by simp; exact hz
        obtain ⟨HYB', HH5', hY'⟩ := hX.out
        have HY : Hid (X = encK key (ctrB e b q)) := hY' hz
        have HYB := Lib.hid HYB'
        have HH5 := Lib.hid HH5'
        have HG2 : Hid (R.getD k 0 = x ^^^ X.getD md 0) := by show _ = _; rw [HG.out, HY.out]
        have HB5 := hbel
        have HOW5 := hown
        clear HYB' HH5' hY' hX HG hz hbel hown
        have hyl := HYB.out.2 md HMD16.out
        have c5 := (cells_at HH5.out md).trans (bA_get X md (by rw [HYB.out.1]; exact HMD16.out))
        obtain ⟨y, hy⟩ : ∃ y, y = X.getD md 0 := ⟨_, rfl⟩
        rw [← hy] at c5 hyl
        have HG3 : Hid (R.getD k 0 = x ^^^ y) := by show _ = _; rw [HG2.out, hy]
        have hxr : bits BinOp.xor IntKind.u8 (x : Int) (y : Int) = ((x ^^^ y : Nat) : Int) := u8x rfl rfl HHV.out hyl
        have hnew : ∀ Z : Array Value, (wr.alloc (.cells Z 5)).heap[wr.heap.size]? = some (.cells Z 5 (0, 0)) := fun Z => heap_new' _ _
        have HNEW := Lib.hid hnew
        have HS5 : Hid (w.heap.size < wr.heap.size) := lt_of_block HH5.out
        clear hyl hy hnew
        go_wp2_with (first
          | (refine wpList_append_lies _ rfl (.tmp 30) (.tmp 37) 29 rfl (w.heap.size + 1) 5 i0 _ 1 1 Try.underlying29 hi hz0 hz1 hz2 rfl (by omega) u9 k _ rfl (World.ownsRow.alloc HOW5.out _) ⟨wr.heap.size, 0, none⟩ 1 1 [.int .u8 ((x ^^^ y : Nat) : Int)] rfl rfl (World.news_of_block (HNEW.out _)) (by simp [Value.oneCell']) (by omega) (by unfold maxLen; have := HKN.out; omega) (by have := HKN.out; omega) (by rw [World.size_alloc]; have := HS5.out; omega) _ rfl ?_; intro g5 cap5 w6 hown6 hgrow hat hlt6)
          | fail)
        go_roundw
        case rel =>
          refine ⟨k + 1, by have := HKN.out; omega, by go_num, ⟨X, HYB.out, ?_, fun h => ?_⟩, ?_, ?_⟩
          · exact (hgrow.block _ (by rw [World.size_alloc]; have := HS5.out; omega) (fun e => by have := own_ge HOW5.out _ e.symm; omega)).trans ((heap_old' _ _ _ HS5.out).trans HH5.out)
          · rw [HY.out]; have := HQ.out; congr 2; omega
          · rw [take_next R k (x ^^^ y) (by rw [HXL.out]; exact HKN.out) HG3.out]; exact hown6
          · exact (HB5.out.alloc HB5.out.size _).grown hgrow (by rw [World.size_alloc]; have := HS5.out; omega) (fun q e => by have := own_ge HOW5.out q e; omega)
        case measure => simp [intOf]; have := HKN.out; omega
    · have hkn : k = n := by omega
      have hd : decide ((k : Int) < (n : Int)) = false := by simp; omega
      obtain ⟨s, sc, hv, hs⟩ := own_bytes (l := R.take k) (by simp [HXL.out]; omega) (fun x hx => HLT.out x (List.mem_of_mem_take hx)) hown.out
      subst hv
      rw [List.take_of_length_le (by rw [HXL.out]; omega)] at hs
      have HS := Lib.hid hs
      have HKN := Lib.hid hkn
      clear hs hown hX hkn
      go_wp2
      go_ret
      exact ⟨s, sc, by rw [HKN.out]; rfl, HS.out, hbel.out⟩
end Go.Proofs.Ytinjafacnekkcaa
namespace Go.Proofs.Ytinjafacnekkcaa
open Go Go.RowKit GfM
def bitx (c k : Nat) : Nat := c / 2 ^ (k % 8) % 2
theorem bitx_lt (c k : Nat) : bitx c k ≤ 1 := by unfold bitx; omega
theorem bit_int (c k : Nat) : ((c : Int) / 2 ^ (k % 8)).tmod 2 = ((bitx c k : Nat) : Int) := by
  have e : ((c : Int) / 2 ^ (k % 8)) = ((c / 2 ^ (k % 8) : Nat) : Int) := by simp
  rw [e, Int.tmod_eq_emod_of_nonneg (Int.natCast_nonneg _)]; unfold bitx; omega
theorem bit_c (c : Nat) (K : Int) (k : Nat) (hK : K = k) (hc : c < 256) (hk : k < 1000) (w : World) :
    Calls Try.prog 47 #[.int .u8 (c : Int), .int .i64 K] w fun e w' => e = .returned (.int .i64 ((bitx c k : Nat) : Int)) ∧ w = w' := by
  subst hK
  go_enter Try.func47, Try.ntmps47
  go_wp2
  go_ret
  exact ⟨ret_i (bit_int c k), rfl⟩
theorem bit99_c (K : Int) (k : Nat) (hK : K = k) (hk : k < 1000) (w : World) :
    Calls Try.prog 47 #[.int .u8 99, .int .i64 K] w fun e w' => e = .returned (.int .i64 ((bitx 99 k : Nat) : Int)) ∧ w = w' := bit_c 99 K k hK (by omega) hk w
def subN (i k : Nat) : Nat := (bitx i k + bitx i (k + 4) + bitx i (k + 5) + bitx i (k + 6) + bitx i (k + 7) + bitx 99 k) % 2
def subGo : Nat → Nat → Nat → Nat
  | 0, o, _ => o
  | k + 1, o, i => subGo k (2 * o + subN i k) i
theorem refsub_all : ∀ c, c < 256 → subGo 8 0 (ginv c) = sbx c := by decide +kernel
theorem subN_le (i k : Nat) : subN i k ≤ 1 := by unfold subN; omega
set_option maxRecDepth 100000 in
set_option maxHeartbeats 1000000 in
theorem refsub_c (c : Nat) (hc : c < 256) (w : World) :
    Calls Try.prog 29 #[.int .u8 (c : Int)] w fun e w' => e = .returned (.int .u8 ((sbx c : Nat) : Int)) ∧ w = w' := by
  have HR := Lib.hid (refsub_all c hc)
  have hi := ginv_lt c hc
  go_enter Try.func29, Try.ntmps29
  go_wp2_with fail
  refine (refinv_c c hc _).mono ?_
  rintro e w' ⟨rfl, rfl⟩
  generalize ginv c = i at *
  go_wp2_with fail
  go_loop [4, 5, 6] (fun vo vk vn => ∃ (j o : Nat), j ≤ 8 ∧ o < 256 ∧ vo = .int .i64 o ∧ vk = .int .i64 ((j : Int) - 1) ∧ Hid (o < 2 ^ (8 - j)) ∧ Hid (subGo j o i = subGo 8 0 i)) (fun _ vk _ => (intOf vk + 1).toNat)
  case atStart => exact ⟨8, 0, by omega, by omega, rfl, rfl, Nat.one_pos, rfl⟩
  case round =>
    obtain ⟨j, o, hj, ho, rfl, rfl, ho2, hm⟩ := hrel
    by_cases hj0 : 0 < j
    · obtain ⟨k, rfl⟩ : ∃ i, j = i + 1 := ⟨j - 1, by omega⟩
      have hk : ((k + 1 : Nat) : Int) - 1 = (k : Int) := by omega
      rw [hk]
      clear hk
      have ho3 : 2 * o + 1 < 2 ^ (8 - k) := by
        have := ho2.out
        rw [show 8 - k = (8 - (k + 1)) + 1 by omega, Nat.pow_succ]; omega
      have ho4 : 2 * o + 1 < 256 := by
        have := Nat.pow_le_pow_right (n := 2) (by decide) (show 8 - k ≤ 8 by omega)
        omega
      have HO3 := Lib.hid ho3
      clear ho3 ho2
      have b0 := bitx_lt i k
      have b1 := bitx_lt i (k + 4)
      have b2 := bitx_lt i (k + 5)
      have b3 := bitx_lt i (k + 6)
      have b4 := bitx_lt i (k + 7)
      have b5 := bitx_lt 99 k
      go_wp2_with (go_at_call 47; first | ((with_reducible refine (bit99_c _ k rfl (by omega) _).mono ?_); rintro e w' ⟨rfl, rfl⟩) | ((with_reducible refine (bit_c i _ k rfl hi (by omega) _).mono ?_); rintro e w' ⟨rfl, rfl⟩) | ((with_reducible refine (bit_c i _ (k + 4) (by omega) hi (by omega) _).mono ?_); rintro e w' ⟨rfl, rfl⟩) | ((with_reducible refine (bit_c i _ (k + 5) (by omega) hi (by omega) _).mono ?_); rintro e w' ⟨rfl, rfl⟩) | ((with_reducible refine (bit_c i _ (k + 6) (by omega) hi (by omega) _).mono ?_); rintro e w' ⟨rfl, rfl⟩) | ((with_reducible refine (bit_c i _ (k + 7) (by omega) hi (by omega) _).mono ?_); rintro e w' ⟨rfl, rfl⟩))
      have hs := subN_le i k
      go_round
      case rel => exact ⟨k, 2 * o + subN i k, by omega, by omega, vint (by unfold subN; omega), rfl, by have := HO3.out; exact (show 2 * o + subN i k < 2 ^ (8 - k) by omega), hm⟩
      case measure => simp [intOf]
    · obtain rfl : j = 0 := by omega
      have HO : Hid (o = sbx c) := by have h1 := hm.out; have h2 := HR.out; rw [← h2, ← h1]; rfl
      clear hm ho2 HR
      go_wp2
      go_ret
      exact ⟨ret_i (by rw [← HO.out]), rfl⟩
end Go.Proofs.Ytinjafacnekkcaa
namespace Go.Proofs.Ytinjafacnekkcaa
open Go Go.RowKit GfM
theorem t256 : (Try.prog.info? 54).map (·.size) = some 256 := by kernel_rfl
theorem z256 : (Try.zeroCells54 : Array Value) = bA (List.replicate 256 0) := by
  kernel_rfl
def sbL : List Nat := (List.range 256).map sbx
theorem sbL_len : sbL.length = 256 := by simp [sbL]
/-- the way back's array behind k rounds -/
def bkG : Nat → List Nat
  | 0 => List.replicate 256 0
  | k + 1 => (bkG k).set (sbx k) k
theorem bkG_len : ∀ k, (bkG k).length = 256
  | 0 => List.length_replicate
  | k + 1 => by rw [bkG, List.length_set]; exact bkG_len k
set_option maxRecDepth 100000 in
set_option maxHeartbeats 4000000 in
theorem table_c (w : World) :
    Calls Try.prog 13 #[] w fun e w' => ∃ B, e = .returned (.tuple #[.agg (bA sbL), .agg (bA B)]) ∧ Below w.heap.size w w' := by
  have hz := z256
  have b0 : ∀ (o1 o2 o3 : Obj) (Z : Array Value), ((((w.alloc (Obj.cells Z 54)).alloc o1).alloc o2).alloc o3).heap[w.heap.size]? = some (.cells Z 54 (0, 0)) := fun o1 o2 o3 Z => by
    rw [heap_old' _ _ _ (by simp <;> omega), heap_old' _ _ _ (by simp <;> omega), heap_old' _ _ _ (by simp), heap_new']
  have b1 : ∀ (o0 o2 o3 : Obj) (Z : Array Value), ((((w.alloc o0).alloc (Obj.cells Z 54)).alloc o2).alloc o3).heap[w.heap.size + 1]? = some (.cells Z 54 (0, 0)) := fun o0 o2 o3 Z => by
    rw [heap_old' _ _ _ (by simp <;> omega), heap_old' _ _ _ (by simp), show w.heap.size + 1 = (w.alloc o0).heap.size by simp, heap_new']
  have b2 : ∀ (o0 o1 o3 : Obj), ((((w.alloc o0).alloc o1).alloc (Obj.cells (Try.zeroCells54) 54)).alloc o3).heap[w.heap.size + 1 + 1]? = some (.cells (bA (upd sbx (List.replicate 256 0) 0)) 54 (0, 0)) := fun o0 o1 o3 => by
    rw [upd_zero, hz, heap_old' _ _ _ (by simp), show w.heap.size + 1 + 1 = ((w.alloc o0).alloc o1).heap.size by simp, heap_new']
  have b3 : ∀ (o0 o1 o2 : Obj), ((((w.alloc o0).alloc o1).alloc o2).alloc (Obj.cells (Try.zeroCells54) 54)).heap[w.heap.size + 1 + 1 + 1]? = some (.cells (bA (bkG 0)) 54 (0, 0)) := fun o0 o1 o2 => by
    rw [hz, show w.heap.size + 1 + 1 + 1 = (((w.alloc o0).alloc o1).alloc o2).heap.size by simp, heap_new']; rfl
  have zs : (Try.zeroCells54 : Array Value).size = 256 := by rw [hz, bA_size]; simp
  have HBW : Hid (∀ (o0 o1 o2 o3 : Obj), Below w.heap.size w ((((w.alloc o0).alloc o1).alloc o2).alloc o3)) := fun o0 o1 o2 o3 => ((((Below.refl _ _).alloc (Nat.le_refl _) _).alloc (by simp) _).alloc (by simp <;> omega) _).alloc (by simp <;> omega) _
  have B0 := Lib.hid b0
  have B1 := Lib.hid b1
  have B2 := Lib.hid b2
  have B3 := Lib.hid b3
  have ZS := Lib.hid zs
  clear b0 b1 b2 b3 zs hz
  go_enter Try.func13, Try.ntmps13
  go_wp2
  go_loopw [4] (fun vi wr => ∃ k : Nat, k ≤ 256 ∧ vi = .int .i64 (k : Int) ∧ Hid (∃ Z, Z.size = 256 ∧ wr.heap[w.heap.size]? = some (.cells Z 54 (0, 0))) ∧ Hid (∃ Z, Z.size = 256 ∧ wr.heap[w.heap.size + 1]? = some (.cells Z 54 (0, 0))) ∧
    Hid (wr.heap[w.heap.size + 1 + 1]? = some (.cells (bA (upd sbx (List.replicate 256 0) k)) 54 (0, 0))) ∧ Hid (wr.heap[w.heap.size + 1 + 1 + 1]? = some (.cells (bA (bkG k)) 54 (0, 0))) ∧ Hid (Below w.heap.size w wr)) (fun vi _ => 256 - (intOf vi).toNat)
  case atStart => exact ⟨0, by omega, rfl, ⟨_, ZS.out, B0.out _ _ _ _⟩, ⟨_, ZS.out, B1.out _ _ _ _⟩, B2.out _ _ _, B3.out _ _ _, HBW.out _ _ _ _⟩
  case round =>
    clear B0 B1 B2 B3 HBW
    obtain ⟨k, hk, rfl, h0, h1, h2, h3, hbel⟩ := hrel
    by_cases hlt : k < 256
    · have hd : decide ((k : Int) < 256) = true := by simp; omega
      have e1 : IntKind.u8.wrap (k : Int) = (k : Int) := by rw [IntKind.wrap_u8]; omega
      have d6 : (k : Int) < 256 := by omega
      have hsl := sbx_lt k hlt
      have HSX : Hid (∀ w, Calls Try.prog 29 #[.int .u8 (k : Int)] w fun e w' => e = .returned (.int .u8 ((sbx k : Nat) : Int)) ∧ w = w') := fun w => refsub_c k hlt w
      have hn2 : Hid ((wr.setCell ⟨w.heap.size + 1 + 1, k, none⟩ (.int .u8 ((sbx k : Nat) : Int))).heap[w.heap.size + 1 + 1]? = some (.cells (bA (upd sbx (List.replicate 256 0) (k + 1))) 54 (0, 0))) := by
        have := block_at h2.out k (.int .u8 ((sbx k : Nat) : Int))
        rw [bA_set, upd_set _ _ _ (by simp; omega)] at this; exact this
      have hget : (upd sbx (List.replicate 256 0) (k + 1)).getD k 0 = sbx k := by
        unfold upd
        rw [List.getD_eq_getElem?_getD, List.getElem?_append_left (by simp), List.getElem?_map, List.getElem?_range (by omega)]; rfl
      have hc2 : (wr.setCell ⟨w.heap.size + 1 + 1, k, none⟩ (.int .u8 ((sbx k : Nat) : Int))).cell? ⟨w.heap.size + 1 + 1, k, none⟩ = some (.int .u8 ((sbx k : Nat) : Int)) := by
        rw [cells_at hn2.out k, bA_get _ k (by rw [upd_len _ _ _ (by simp; omega)]; simpa using hlt), hget]
      have h3' : (wr.setCell ⟨w.heap.size + 1 + 1, k, none⟩ (.int .u8 ((sbx k : Nat) : Int))).heap[w.heap.size + 1 + 1 + 1]? = some (.cells (bA (bkG k)) 54 (0, 0)) := (Below.heap_setCell _ _ _ _ (by simp <;> omega)).trans h3.out
      generalize hX : sbx k = x at HSX hn2 hc2 h3' hsl
      have hn3 : Hid (((wr.setCell ⟨w.heap.size + 1 + 1, k, none⟩ (.int .u8 (x : Int))).setCell ⟨w.heap.size + 1 + 1 + 1, x, none⟩ (.int .u8 (k : Int))).heap[w.heap.size + 1 + 1 + 1]? = some (.cells (bA (bkG (k + 1))) 54 (0, 0))) := by
        have := block_at h3' x (.int .u8 (k : Int))
        rw [bA_set] at this
        rw [bkG, hX]; exact this
      have c0 := (cells_at h2.out k).trans (bA_get _ k (by rw [upd_len _ _ _ (by simpa using hk)]; simpa using hlt))
      have f0 := free_at h2.out k
      have c3 := (cells_at h3' x).trans (bA_get _ x (by rw [bkG_len]; exact hsl))
      have f3 := free_at h3' x
      have d7 : (x : Int) < 256 := by omega
      have H3 := Lib.hid h3'
      have hw2 := lt_of_block h2.out
      clear hget hX h3'
      go_wp2_with fail
      refine (HSX.out _).mono ?_
      rintro e w1 ⟨rfl, rfl⟩
      go_wp2
      go_roundw
      case rel =>
        obtain ⟨Z, hZ, hZ2⟩ := h0.out
        obtain ⟨Y, hY, hY2⟩ := h1.out
        exact ⟨k + 1, by omega, by go_num, ⟨Z, hZ, ((Below.heap_setCell _ _ _ _ (by simp <;> omega)).trans (Below.heap_setCell _ _ _ _ (by simp <;> omega))).trans hZ2⟩, ⟨Y, hY, ((Below.heap_setCell _ _ _ _ (by simp <;> omega)).trans (Below.heap_setCell _ _ _ _ (by simp <;> omega))).trans hY2⟩,
          (Below.heap_setCell _ _ _ _ (by simp <;> omega)).trans hn2.out, hn3.out, (hbel.out.setCell (by simp <;> omega) _).setCell (by simp <;> omega) _⟩
      case measure => simp [intOf]; omega
    · obtain rfl : k = 256 := by omega
      have hd : decide (((256 : Nat) : Int) < 256) = false := by simp
      have h4 : Hid (wr.heap[w.heap.size + 1 + 1]? = some (.cells (bA sbL) 54 (0, 0))) := by
        have := h2.out
        rw [upd_full _ _ 256 (by simp)] at this; exact this
      obtain ⟨Z, hZ, hZ2⟩ := h0.out
      obtain ⟨Y, hY, hY2⟩ := h1.out
      have HZ := Lib.hid hZ
      have HZ2 := Lib.hid hZ2
      have HY := Lib.hid hY
      have HY2 := Lib.hid hY2
      have hBl := bkG_len 256
      have HBl := Lib.hid hBl
      generalize bkG 256 = B at h3 HBl
      clear hZ hZ2 hY hY2 h0 h1 h2 hBl
      go_wp2
      have hS0 : ∀ w', Below wr.heap.size wr w' → w'.rangeAt (w.heap.size + 1 + 1) 0 (bA sbL).toList ∧ w'.rangeAt (w.heap.size + 1 + 1 + 1) 0 (bA B).toList := fun w' h =>
        ⟨range_bA sbL ((h.block _ (lt_of_block h4.out)).trans h4.out), range_bA B ((h.block _ (lt_of_block h3.out)).trans h3.out)⟩
      refine wp_region_held_drew (S := fun w' => w'.rangeAt (w.heap.size + 1 + 1) 0 (bA sbL).toList ∧ w'.rangeAt (w.heap.size + 1 + 1 + 1) 0 (bA B).toList) (by kernel_rfl) (hS0 _ (Below.refl _ _).drew) ?_
      intro hS
      change wpAnyH _ _ _ _ _ 4 #[false, false, false, false] _ _
      refine wpAnyH_take (i := 0) rfl (by kernel_rfl) (by kernel_rfl) (by kernel_rfl) (fun _ _ _ h => h) (yieldsIf_load_mid (by rfl) _ _ rfl (w.heap.size + 1 + 1) 0 rfl (bA sbL).toList _ (fun _ h => h.1) Try.underlying54 rfl (by rw [t256]; simp [bA_size, sbL_len])) hS ?_
      simp only [List.getElem_toArray, List.getElem_cons_succ, List.getElem_cons_zero, Act.put, List.setIfInBounds_toArray, List.set_cons_zero, List.set_cons_succ]
      change wpAnyH _ _ _ _ _ 3 #[true, false, false, false] _ _
      refine wpAnyH_take (i := 1) rfl (by kernel_rfl) (by kernel_rfl) (by kernel_rfl) (fun _ _ _ h => h) (yieldsIf_load_mid (by rfl) _ _ rfl (w.heap.size + 1 + 1 + 1) 0 rfl (bA B).toList _ (fun _ h => h.2) Try.underlying54 rfl (by rw [t256]; simp [bA_size, HBl.out])) hS ?_
      simp only [List.getElem_toArray, List.getElem_cons_succ, List.getElem_cons_zero, Act.put, List.setIfInBounds_toArray, List.set_cons_zero, List.set_cons_succ]
      change wpAnyH _ _ _ _ _ 2 #[true, true, false, false] _ _
      refine wpAnyH_ready (rs := [2]) (by kernel_rfl) (by simp) ?_
      refine AllReadyH.cons rfl (fun K hK => ?_) AllReadyH.nil
      rw [if_pos (by rfl)]
      refine wp_store_row 54 (.tmp 0) (.tmp 20) rfl w.heap.size (bA sbL) rfl rfl 54 _ HZ2.out (by rw [t256, bA_size, sbL_len]) (by rw [HZ.out, bA_size, sbL_len]) (bA_one _) ?_
      refine hK.out _ _ (⟨range_bA sbL ((setRow_other _ _ _ _ (by omega)).trans h4.out), range_bA B ((setRow_other _ _ _ _ (by omega)).trans h3.out)⟩) (fun hS1 => ?_)
      clear hK K
      simp only [List.getElem_toArray, List.getElem_cons_succ, List.getElem_cons_zero, Act.put, List.setIfInBounds_toArray, List.set_cons_zero, List.set_cons_succ]
      change wpAnyH _ _ _ _ _ 1 #[true, true, true, false] _ _
      refine wpAnyH_ready (rs := [3]) (by kernel_rfl) (by simp) ?_
      refine AllReadyH.cons rfl (fun K hK => ?_) AllReadyH.nil
      rw [if_pos (by rfl)]
      have Y1 := (setRow_other wr.drew w.heap.size (w.heap.size + 1) (bA sbL) (by omega)).trans HY2.out
      refine wp_store_row 54 (.tmp 1) (.tmp 21) rfl (w.heap.size + 1) (bA B) rfl rfl 54 _ Y1 (by rw [t256, bA_size, HBl.out]) (by rw [HY.out, bA_size, HBl.out]) (bA_one _) ?_
      refine hK.out _ _ (⟨range_bA sbL ((setRow_other _ _ _ _ (by omega)).trans ((setRow_other _ _ _ _ (by omega)).trans h4.out)), range_bA B ((setRow_other _ _ _ _ (by omega)).trans ((setRow_other _ _ _ _ (by omega)).trans h3.out))⟩) (fun hS2 => ?_)
      clear hK K
      simp only [List.getElem_toArray, List.getElem_cons_succ, List.getElem_cons_zero, Act.put, List.setIfInBounds_toArray, List.set_cons_zero, List.set_cons_succ]
      change wpAnyH _ _ _ _ _ 0 #[true, true, true, true] _ _
      have R1 := setRow_heap _ _ _ (bA B) _ _ Y1
      have R0 := (setRow_other (wr.drew.setRow w.heap.size (bA sbL)) (w.heap.size + 1) w.heap.size (bA B) (by omega)).trans (setRow_heap wr.drew _ _ (bA sbL) _ _ HZ2.out)
      refine wpAnyH_done (by kernel_rfl) ?_ _
      go_wp2_with fail
      refine bodyPost_ret (v := .tuple #[.agg (bA sbL), .agg (bA B)]) ?_ rfl ⟨B, rfl, below_setRow (below_setRow hbel.out.drew (by omega) _) (by omega) _⟩
      have v0 := run_loadVar_row (P := Try.prog) _ w.heap.size 54 54 (bA sbL) (0, 0) _ R0 Try.underlying54 rfl (by rw [t256, bA_size, sbL_len])
      have v1 := run_loadVar_row (P := Try.prog) _ (w.heap.size + 1) 54 54 (bA B) (0, 0) _ R1 Try.underlying54 rfl (by rw [t256, bA_size, HBl.out])
      simp [results, Try.f13, asAddr, v0, v1]
end Go.Proofs.Ytinjafacnekkcaa
