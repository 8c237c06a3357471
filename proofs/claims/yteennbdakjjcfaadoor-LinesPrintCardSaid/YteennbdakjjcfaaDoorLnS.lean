/- The program's Parse of a text. Printed by gen_lns.py. -/
import Derived.Test.YteennbdakjjcfaaDoorLnR
set_option linter.unusedVariables false
set_option linter.unusedSimpArgs false
namespace Go.Proofs.YteennbdakjjcfaaDoor
open Go Go.RowKit Go.Lib
def parsK : List (List UInt8) → Nat → List AN → List AN × Nat
  | [], _, acc => (acc, 0)
  | l :: ls, k, acc => if wordsL l = [] then parsK ls (k + 1) acc else match actN (wordsL l) with
    | none => ([], k)
    | some a => parsK ls (k + 1) (acc ++ [a])
/-- a text's acts; the number of the line that is none -/
def parsN (s : List UInt8) : List AN × Nat := parsK (linesL s) 1 []
theorem wordsB_le : ∀ (s w : List UInt8), ∀ y ∈ wordsB s w, y.length ≤ w.length + s.length
  | [], w, y, hy => by
    unfold wordsB at hy
    split at hy
    · cases hy
    · rw [List.mem_singleton] at hy; subst hy; simp
  | c :: s, w, y, hy => by
    unfold wordsB at hy
    split at hy
    · split at hy
      · have := wordsB_le s [] y hy; simp at this ⊢; omega
      · rcases List.mem_cons.1 hy with rfl | hy
        · simp
        · have := wordsB_le s [] y hy; simp at this ⊢; omega
    · have := wordsB_le s _ y hy; simp at this ⊢; omega
theorem stripH_le (l : List UInt8) : (stripH l).length ≤ l.length := by unfold stripH; exact (List.takeWhile_sublist _).length_le
theorem wordsL_le (l : List UInt8) : ∀ y ∈ wordsL l, y.length ≤ l.length := fun y hy => by
  have h1 := wordsB_le _ _ y hy
  have h2 := stripH_le l
  simp at h1
  omega
theorem first_ten : ∀ s : List UInt8, 10 ∈ s → ∃ a b, s = a ++ 10 :: b ∧ 10 ∉ a
  | [], h => by cases h
  | c :: s, h => by
    by_cases hc : c = 10
    · exact ⟨[], s, by rw [hc]; rfl, by simp⟩
    · obtain ⟨a, b, e, ha⟩ := first_ten s (by rcases List.mem_cons.1 h with h | h; exact absurd h.symm hc; exact h)
      exact ⟨c :: a, b, by rw [e]; rfl, fun h => by rcases List.mem_cons.1 h with h | h; exact hc h.symm; exact ha h⟩
theorem linesL_le : ∀ (n : Nat) (s : List UInt8), s.length ≤ n → ∀ l ∈ linesL s, l.length ≤ s.length := by
  intro n
  induction n with
  | zero =>
    intro s hs l hl
    have : s = [] := List.length_eq_zero_iff.1 (by omega)
    subst this
    rw [linesL_none [] (by simp)] at hl
    rw [List.mem_singleton] at hl; subst hl; simp
  | succ n ih =>
    intro s hs l hl
    by_cases h10 : 10 ∈ s
    · obtain ⟨a, b, rfl, ha⟩ := first_ten s h10
      rw [linesL_hit a b ha] at hl
      rcases List.mem_cons.1 hl with rfl | hl
      · simp
      · have h1 := ih b (by simp at hs; omega) l hl
        simp; omega
    · rw [linesL_none s h10, List.mem_singleton] at hl
      subst hl; exact Nat.le_refl _
theorem strB_own {w : World} {base g cap B : Nat} {ws : List (List UInt8)} (h : w.ownsRow base 9 1 (.slice (some ⟨g, 0, none⟩) ws.length cap) ws.length (ws.map sV)) (hB : g < B) : StrB w B (.slice (some ⟨g, 0, none⟩) ws.length cap) ws := by
  rcases id h.2 with ⟨h1, _⟩ | ⟨g', cap', cur, h1, h2, h3, h4, h5, h6, h7⟩
  · cases h1
  · cases h1
    refine ⟨_, cap, rfl, h4, h5, fun p hp => by cases hp; exact ⟨hB, rfl⟩, fun i l hl => ⟨g, 0, rfl, ?_⟩⟩
    have hi : i < ws.length := (List.getElem?_eq_some_iff.1 hl).1
    rw [Nat.zero_add, h.cellAt i (by omega), List.getElem?_map, hl]
    rfl
/-- what Parse leaves -/
def ParsP (t : TypeId) (R : List AN × Nat) (w : World) (v : Value) (w' : World) : Prop := ActsAt w' w.heap.size t v R.1 ∧ Below w.heap.size w w'
theorem parsK_none {ls : List (List UInt8)} {l : List UInt8} {k : Nat} {acc : List AN} (h : wordsL l ≠ []) (ha : actN (wordsL l) = none) : parsK (l :: ls) k acc = ([], k) := by
  unfold parsK; rw [if_neg h, ha]
theorem parsK_some {ls : List (List UInt8)} {l : List UInt8} {k : Nat} {acc : List AN} {a : AN} (h : wordsL l ≠ []) (ha : actN (wordsL l) = some a) : parsK (l :: ls) k acc = parsK ls (k + 1) (acc ++ [a]) := by
  conv => lhs; unfold parsK
  rw [if_neg h, ha]
theorem parsK_skip {ls : List (List UInt8)} {l : List UInt8} {k : Nat} {acc : List AN} (h : wordsL l = []) : parsK (l :: ls) k acc = parsK ls (k + 1) acc := by
  conv => lhs; unfold parsK
  rw [if_pos h]
def errOf (k : Nat) : Int := if k = 0 then 0 else 4
set_option maxRecDepth 100000 in
set_option maxHeartbeats 8000000 in
theorem lparse_c (s : List UInt8) (hs : s.length ≤ 100000) (w : World) :
    Calls Tryd.prog 9 #[sV s] w fun e w' => ∃ v, e = .returned (.tuple #[v, .int .i64 ((parsN s).2 : Int), .int .i64 (errOf (parsN s).2)]) ∧ ParsP 44 (parsN s) w v w' := by
  have HSP := Lib.hid (split_c s (by omega) w)
  obtain ⟨Ls, hLs⟩ : ∃ Ls, Ls = linesL s := ⟨_, rfl⟩
  obtain ⟨N, hN⟩ : ∃ N, N = Ls.length := ⟨_, rfl⟩
  have HLE : Hid (∀ l ∈ Ls, l.length ≤ 100000) := fun l hl => by
    rw [hLs] at hl
    exact Nat.le_trans (linesL_le _ s (Nat.le_refl _) l hl) hs
  have HNL : Hid (N ≤ 100001) := by
    show _ ≤ _
    rw [hN, hLs, linesL_len]
    have : s.count 10 ≤ s.length := List.count_le_length
    omega
  obtain ⟨R, hR⟩ : ∃ R, R = parsN s := ⟨_, rfl⟩
  have HR : Hid (R = parsK Ls 1 []) := by show _ = _; rw [hR, hLs]; rfl
  rw [← hR]
  rw [← hLs, ← hN] at HSP
  have HB0 : Hid ((w.alloc (.cells (Ls.map sV).toArray 9)).heap[w.heap.size]? = some (.cells (Ls.map sV).toArray 9 (0, 0))) := heap_new' _ _
  have HE0 : Hid (Below w.heap.size w (w.alloc (.cells (Ls.map sV).toArray 9))) := (Below.refl _ _).alloc (Nat.le_refl _) _
  have HN := Lib.hid hN
  clear hN hLs hR hs
  go_enter Tryd.func9, Tryd.ntmps9
  go_wp2_with fail
  refine HSP.out.mono ?_
  rintro e w0 ⟨rfl, rfl⟩
  obtain ⟨b0, hb0⟩ : ∃ b0, b0 = w.heap.size := ⟨_, rfl⟩
  generalize w.alloc (.cells (Ls.map sV).toArray 9) = w0 at *
  rw [← hb0] at HB0 HE0 ⊢
  have HBB := Lib.hid hb0
  have HW0 : Hid (w.heap.size < w0.heap.size) := by have := lt_of_block HB0.out; rw [hb0] at this; exact this
  clear hb0 HSP
  go_wp2
  go_loopw [5, 14] (fun vo vi wr => ∃ (i : Nat) (L : List AN), i ≤ N ∧ vi = .int .i64 (i : Int) ∧ Hid (ActsAt wr (b0 + 1) 44 vo L) ∧ Hid (L.length ≤ i) ∧ Hid (R = parsK (Ls.drop i) (i + 1) L) ∧ Hid (wr.heap[b0]? = some (.cells (Ls.map sV).toArray 9 (0, 0))) ∧ Hid (Below b0 w wr)) (fun _ vi _ => N - (intOf vi).toNat)
  case atStart => exact ⟨0, [], Nat.zero_le _, rfl, actsAt_nil _ _ _, Nat.le_refl _, by rw [List.drop_zero]; exact HR.out, HB0.out, HE0.out⟩
  case round =>
    clear HR HB0 HE0
    obtain ⟨i, L, hi, rfl, hacts, hLl, hpar, hblk, hbel⟩ := hrel
    obtain ⟨oa, oc, ho⟩ := hacts.out.len
    subst ho
    by_cases hlt : i < N
    · have hd : decide ((i : Int) < (N : Int)) = true := by simp; omega
      have dl : (i : Int) < (N : Int) := by omega
      have dk0 : ¬ (i : Int) < 0 := by omega
      have hiL : i < Ls.length := by rw [← HN.out]; exact hlt
      obtain ⟨l, hl⟩ : ∃ l, l = Ls[i] := ⟨_, rfl⟩
      have cw : wr.cell? ⟨b0, i, none⟩ = some (sV l) := by rw [cells_at hblk.out i, hl]; simp [hiL]
      have HP : Hid (R = parsK (l :: Ls.drop (i + 1)) (i + 1) L) := by show _ = _; rw [hpar.out, List.drop_eq_getElem_cons hiL, hl]
      have HLL : Hid (l.length ≤ 100000) := HLE.out l (by rw [hl]; exact List.getElem_mem _)
      have ek : IntKind.i64.wrap ((i : Int) + 1) = (i : Int) + 1 := by have := HNL.out; exact IntWalk.i64_in _ (by omega)
      have HI := Lib.hid hlt
      clear hl hiL hi hlt hpar
      go_wp2_with fail
      refine (cuth_c l (by have := HLL.out; omega) wr).mono ?_
      rintro e w1 ⟨⟨cx, cy, rfl⟩, hb1⟩
      have HB1 := Lib.hid hb1
      clear hb1 cw
      go_wp2_with fail
      refine (fields_c (stripH l) (by have := HLL.out; have := stripH_le l; omega) w1).mono ?_
      rintro e w2 ⟨⟨g, rfl, hown⟩, hb2⟩
      have HB2 : Hid (Below wr.heap.size wr w2) := HB1.out.trans (hb2.mono HB1.out.size)
      change World.ownsRow w2 w1.heap.size 9 1 (.slice (some ⟨g, 0, none⟩) (wordsL l).length (wordsL l).length) (wordsL l).length ((wordsL l).map sV) at hown
      have hg := (hown.lt g rfl).2
      obtain ⟨n, hn⟩ : ∃ n, n = (wordsL l).length := ⟨_, rfl⟩
      have hn' : n = (wordsB (stripH l) []).length := hn
      rw [← hn']
      have HLI : Hid (LineIs (w2.alloc (.cells #[.slice (some ⟨g, 0, none⟩) n n, .bool false] 58)) w2.heap.size (wordsL l) false) := ⟨_, heap_new' _ _, by
        have h := strB_own hown (B := w2.heap.size) hg
        rw [← hn] at h
        exact h.up ((Below.refl _ _).alloc (Nat.le_refl _) _)⟩
      have HB3 : Hid (Below wr.heap.size wr (w2.alloc (.cells #[.slice (some ⟨g, 0, none⟩) n n, .bool false] 58))) := HB2.out.alloc HB2.out.size _
      have HLB : Hid (wr.heap.size ≤ w2.heap.size) := HB2.out.size
      have HNW := Lib.hid hn
      clear hb2 hown hg hn hn' HB1 HB2
      by_cases hz : n = 0
      · have b0' : ((n : Int) == 0) = true := by simp; omega
        have i0 : (n : Int) = 0 := by omega
        have HW : Hid (wordsL l = []) := List.length_eq_zero_iff.1 (by rw [← HNW.out]; exact hz)
        have c0 := (cells_at (show (w2.alloc (.cells #[.slice (some ⟨g, 0, none⟩) n n, .bool false] 58)).heap[w2.heap.size]? = _ from heap_new' _ _) 0).trans (show _ = some (Value.slice (some ⟨g, 0, none⟩) n n) from rfl)
        have HR2 : Hid (R = parsK (Ls.drop (i + 1)) (i + 1 + 1) L) := by show _ = _; rw [HP.out, parsK_skip HW.out]
        have HA2 : Hid (ActsAt (w2.alloc (.cells #[.slice (some ⟨g, 0, none⟩) n n, .bool false] 58)) (b0 + 1) 44 (.slice oa L.length oc) L) := hacts.out.up HB3.out
        have HK2 : Hid ((w2.alloc (.cells #[.slice (some ⟨g, 0, none⟩) n n, .bool false] 58)).heap[b0]? = some (.cells (Ls.map sV).toArray 9 (0, 0))) := (HB3.out.block _ (lt_of_block hblk.out)).trans hblk.out
        have HE2 : Hid (Below b0 w (w2.alloc (.cells #[.slice (some ⟨g, 0, none⟩) n n, .bool false] 58))) := hbel.out.trans (HB3.out.mono (Nat.le_of_lt (lt_of_block hblk.out)))
        clear hz hacts hblk hbel
        go_wp2
        go_roundw
        case rel => exact ⟨i + 1, L, by have := HI.out; omega, by go_num, HA2.out, by have := hLl.out; show _ ≤ _; omega, HR2.out, HK2.out, HE2.out⟩
        case measure => simp [intOf]; have := HI.out; omega
      · have b0' : ((n : Int) == 0) = false := by simp; omega
        have i0 : ¬ (n : Int) = 0 := by omega
        have HW : Hid (wordsL l ≠ []) := fun h => hz (by rw [HNW.out, h]; rfl)
        have c0 := (cells_at (show (w2.alloc (.cells #[.slice (some ⟨g, 0, none⟩) n n, .bool false] 58)).heap[w2.heap.size]? = _ from heap_new' _ _) 0).trans (show _ = some (Value.slice (some ⟨g, 0, none⟩) n n) from rfl)
        obtain ⟨x, ws, hxw⟩ := List.exists_cons_of_ne_nil HW.out
        have HXW := Lib.hid hxw
        have HLI2 : Hid (LineIs (w2.alloc (.cells #[.slice (some ⟨g, 0, none⟩) n n, .bool false] 58)) w2.heap.size (x :: ws) false) := by rw [← HXW.out]; exact HLI.out
        have HWL : Hid (∀ y ∈ ws, y.length ≤ 1000000) := fun y hy => by
          have h1 := wordsL_le l y (by rw [HXW.out]; exact List.mem_cons_of_mem _ hy)
          have := HLL.out
          omega
        clear hz hxw HLI
        go_wp2_with fail
        generalize w2.alloc (.cells #[.slice (some ⟨g, 0, none⟩) n n, .bool false] 58) = w3 at *
        refine (act_c w2.heap.size x ws HWL.out w3 HLI2.out).mono ?_
        rintro e w4 ⟨hb4, a, va, vc, rfl, hres⟩
        have HB4 : Hid (Below wr.heap.size wr w4) := HB3.out.trans (hb4.mono HLB.out)
        have HRES := Lib.hid hres
        obtain ⟨okb, hok⟩ : ∃ b, b = (actN (x :: ws)).isSome := ⟨_, rfl⟩
        rw [← hok]
        have HOK := Lib.hid hok
        clear hb4 hres hok c0 HLI2 HB3
        cases okb with
        | false =>
          have HN2 : Hid (actN (wordsL l) = none) := by
            show _ = _
            rw [HXW.out]
            have := HOK.out
            cases h : actN (x :: ws) with
            | none => rfl
            | some a => rw [h] at this; cases this
          have HRR : Hid (R = ([], i + 1)) := by show _ = _; rw [HP.out, parsK_none HW.out HN2.out]
          have HBF : Hid (Below b0 w w4) := hbel.out.trans (HB4.out.mono (Nat.le_of_lt (lt_of_block hblk.out)))
          clear hacts hblk hbel
          go_wp2_with (first
            | (refine wpList_store_row rfl 44 (.tmp 9) (.tmp 38) rfl w4.heap.size (actA a (.slice va a.b.length vc)) rfl rfl 44 _ (heap_new' _ _) (by rw [act44]; rfl) (by rfl) (actA_one _ _ _ _) ?_)
            | fail)
          go_ret3
          have hbw : b0 ≤ w4.heap.size := by rw [HBB.out]; exact HBF.out.size
          have hbz := below_setRow (g := w4.heap.size) (HBF.out.alloc hbw (.cells #[.int .i64 0, .bool false, .int .i64 0, .int .i64 0, .int .i64 0, .int .i64 0, .slice none 0 0] 44)) hbw (actA a (.slice va a.b.length vc))
          refine ⟨.slice none 0 0, by rw [HRR.out]; rfl, ?_, ?_⟩
          · rw [HRR.out]; exact actsAt_nil _ _ _
          · rw [← HBB.out]; exact hbz
        | true =>
          have HN2 : Hid (actN (wordsL l) = some a) := by
            show _ = _
            rw [HXW.out]
            have := HOK.out
            cases h : actN (x :: ws) with
            | none => rw [h] at this; cases this
            | some a0 => rw [(HRES.out a0 h).1]
          have HRR : Hid (R = parsK (Ls.drop (i + 1)) (i + 1 + 1) (L ++ [a])) := by show _ = _; rw [HP.out, parsK_some HW.out HN2.out]
          have HBY : Hid (Byt w4 (Value.slice oa L.length oc).ownBlock a (.slice va a.b.length vc)) := by
            obtain ⟨_, h2, h3, h4⟩ := HRES.out a (by rw [← HXW.out]; exact HN2.out)
            refine ⟨va, vc, rfl, h2, h3, fun _ g o z hg e => ?_⟩
            have h5 := h4 g o z hg
            obtain ⟨xs, _, h6, _⟩ := hacts.out
            have h7 := (h6.lt g e).2
            have := HLB.out
            omega
          have HA4 : Hid (ActsAt w4 (b0 + 1) 44 (.slice oa L.length oc) L) := hacts.out.up HB4.out
          have HK4 : Hid (w4.heap[b0]? = some (.cells (Ls.map sV).toArray 9 (0, 0))) := (HB4.out.block _ (lt_of_block hblk.out)).trans hblk.out
          have HBF : Hid (Below b0 w w4) := hbel.out.trans (HB4.out.mono (Nat.le_of_lt (lt_of_block hblk.out)))
          clear hacts hblk hbel HRES HB4
          go_upto_region 9 with (first
            | (refine wpList_store_row rfl 44 (.tmp 9) (.tmp 38) rfl w4.heap.size (actA a (.slice va a.b.length vc)) rfl rfl 44 _ (heap_new' _ _) (by rw [act44]; rfl) (by rfl) (actA_one _ _ _ _) ?_)
            | fail)
          have HC5 : Hid (((w4.alloc (.cells #[.int .i64 0, .bool false, .int .i64 0, .int .i64 0, .int .i64 0, .int .i64 0, .slice none 0 0] 44)).setRow w4.heap.size (actA a (.slice va a.b.length vc))).heap[w4.heap.size]? = some (.cells (actA a (.slice va a.b.length vc)) 44 (0, 0))) := setRow_heap _ _ _ _ _ _ (heap_new' _ _)
          have HB5 : Hid (Below w4.heap.size w4 ((w4.alloc (.cells #[.int .i64 0, .bool false, .int .i64 0, .int .i64 0, .int .i64 0, .int .i64 0, .slice none 0 0] 44)).setRow w4.heap.size (actA a (.slice va a.b.length vc)))) := below_setRow ((Below.refl _ _).alloc (Nat.le_refl _) _) (Nat.le_refl _) _
          generalize (w4.alloc (.cells #[.int .i64 0, .bool false, .int .i64 0, .int .i64 0, .int .i64 0, .int .i64 0, .slice none 0 0] 44)).setRow w4.heap.size (actA a (.slice va a.b.length vc)) = w5 at *
          have HK4L : Hid (b0 < w4.heap.size) := lt_of_block HK4.out
          have HA5 : Hid (ActsAt w5 (b0 + 1) 44 (.slice oa L.length oc) L) := HA4.out.up HB5.out
          have HBX5 : Hid (Byt w5 (Value.slice oa L.length oc).ownBlock a (.slice va a.b.length vc)) := HBY.out.up HB5.out (Nat.le_refl _)
          have HK5 : Hid (w5.heap[b0]? = some (.cells (Ls.map sV).toArray 9 (0, 0))) := (HB5.out.block _ HK4L.out).trans HK4.out
          have HBF5 : Hid (Below b0 w w5) := HBF.out.trans (HB5.out.mono (Nat.le_of_lt HK4L.out))
          generalize w4.heap.size = ab at *
          clear HA4 HBY HK4 HBF HB5 HK4L HLB
          have HA6 : Hid (ActsAt (w5.alloc (.cells (actA a (.slice va a.b.length vc)) 44)) (b0 + 1) 44 (.slice oa L.length oc) L) := HA5.out.up ((Below.refl _ _).alloc (Nat.le_refl _) _)
          have HBX6 : Hid (Byt (w5.alloc (.cells (actA a (.slice va a.b.length vc)) 44)) (Value.slice oa L.length oc).ownBlock a (.slice va a.b.length vc)) := HBX5.out.up ((Below.refl _ _).alloc (Nat.le_refl _) _) (Nat.le_refl _)
          have HC6 : Hid ((w5.alloc (.cells (actA a (.slice va a.b.length vc)) 44)).heap[w5.heap.size]? = some (.cells (actA a (.slice va a.b.length vc)) 44 (0, 0))) := heap_new' _ _
          have HK6 : Hid ((w5.alloc (.cells (actA a (.slice va a.b.length vc)) 44)).heap[b0]? = some (.cells (Ls.map sV).toArray 9 (0, 0))) := (heap_old' _ _ _ (lt_of_block HK5.out)).trans HK5.out
          have HBF6 : Hid (Below b0 w (w5.alloc (.cells (actA a (.slice va a.b.length vc)) 44))) := HBF5.out.alloc (Nat.le_of_lt (lt_of_block HK5.out)) _
          go_wp2_with (first
            | (refine wpList_load_row rfl 44 (.tmp 9) rfl ab rfl _ _ _ _ HC5.out Tryd.underlying44 rfl (by rw [act44]; rfl) ?_)
            | (refine wpList_build_act rfl 30 44 (.tmp 45) rfl Tryd.underlying30 sinfo (a := a) (u := .slice va a.b.length vc) rfl ?_)
            | (refine wpList_append_act rfl 30 44 (.tmp 44) (.tmp 46) rfl Tryd.underlying30 sinfo (v := .slice oa L.length oc) (L := L) (base := b0 + 1) (a := a) (u := .slice va a.b.length vc) rfl HA6.out rfl HC6.out HBX6.out (by have := hLl.out; have := HI.out; have := HNL.out; omega) (lt_of_block HK6.out) ?_; intro v6 w6 hacts6 hgr6 hown6; have HA7 := Lib.hid hacts6; have HK7 : Hid (w6.heap[b0]? = some (.cells (Ls.map sV).toArray 9 (0, 0))) := (hgr6.block _ (lt_of_block HK6.out) (fun e => by obtain ⟨xs, _, h6, _⟩ := HA6.out; have := (h6.lt b0 e.symm).1; omega)).trans HK6.out; have HBF7 : Hid (Below b0 w w6) := HBF6.out.grown hgr6 (Nat.le_of_lt (lt_of_block HK6.out)) (fun k hk => by obtain ⟨xs, _, h6, _⟩ := HA6.out; have := (h6.lt k hk).1; omega); clear hacts6 hgr6 hown6)
            | fail)
          go_roundw
          case rel => exact ⟨i + 1, L ++ [a], by have := HI.out; omega, by go_num, HA7.out, by have := hLl.out; show _ ≤ _; rw [List.length_append, List.length_singleton]; omega, HRR.out, HK7.out, HBF7.out⟩
          case measure => simp [intOf]; have := HI.out; omega
    · have hd : decide ((i : Int) < (N : Int)) = false := by simp; omega
      have dl : ¬ (i : Int) < (N : Int) := by omega
      have HRR : Hid (R = (L, 0)) := by show _ = _; rw [hpar.out, List.drop_of_length_le (by rw [← HN.out]; omega)]; rfl
      clear hpar
      go_wp2
      go_ret3
      refine ⟨.slice oa L.length oc, by rw [HRR.out]; rfl, ?_, ?_⟩
      · rw [HRR.out]
        obtain ⟨xs, h1, h2, h3⟩ := hacts.out
        exact ⟨xs, h1, own_mono h2 (by rw [← HBB.out]; omega), h3⟩
      · rw [← HBB.out]; exact hbel.out
end Go.Proofs.YteennbdakjjcfaaDoor
