/- The reference's Parse of a text. Printed by gen_lnv.py. -/
import Derived.Test.YteennbdakjjcfaaDoorLnU
set_option linter.unusedVariables false
set_option linter.unusedSimpArgs false
namespace Go.Proofs.YteennbdakjjcfaaDoor
open Go Go.RowKit Go.Lib
theorem take_ten {s : List UInt8} {i : Nat} (hi : i < s.length) : s.drop i = s.getD i 0 :: s.drop (i + 1) := by
  rw [List.drop_eq_getElem_cons hi, List.getD_eq_getElem?_getD, List.getElem?_eq_getElem hi]; rfl
theorem wordsB_count : ∀ (s w : List UInt8), (wordsB s w).length ≤ w.length + s.length
  | [], w => by
    rw [wordsB_nil]
    split
    · simp
    · rename_i h
      rcases Nat.eq_zero_or_pos w.length with h0 | h0
      · exact absurd (List.length_eq_zero_iff.1 h0) h
      · simp; omega
  | c :: s, w => by
    rw [wordsB_cons]
    split
    · split
      · have := wordsB_count s []; simp at this ⊢; omega
      · rename_i h
        have := wordsB_count s []
        rcases Nat.eq_zero_or_pos w.length with h0 | h0
        · exact absurd (List.length_eq_zero_iff.1 h0) h
        · simp at this ⊢; omega
    · have := wordsB_count s (w ++ [c]); simp at this ⊢; omega
theorem words_count (x : List UInt8) : (wordsL x).length ≤ x.length := by
  have h1 := wordsB_count (stripH x) []
  have h2 := stripH_le x
  unfold wordsL
  simp at h1
  omega
set_option maxRecDepth 100000 in
set_option maxHeartbeats 16000000 in
theorem rparse_c (s : List UInt8) (hs : s.length ≤ 100000) (w : World) :
    Calls Tryd.prog 10 #[sV s] w fun e w' => ∃ v, e = .returned (.tuple #[v, .int .i64 ((parsN s).2 : Int)]) ∧ ParsP 27 (parsN s) w v w' := by
  obtain ⟨n, hn⟩ : ∃ n, n = s.length := ⟨_, rfl⟩
  have HN := Lib.hid hn
  have hlx : s.length = n := hn.symm
  have HNL : Hid (n ≤ 100000) := by show _ ≤ _; rw [hn]; exact hs
  obtain ⟨R, hR⟩ : ∃ R, R = parsN s := ⟨_, rfl⟩
  have HR : Hid (R = parsK (linesL s) 1 []) := by show _ = _; rw [hR]; rfl
  rw [← hR]
  clear hn hs hR
  go_enter Tryd.func10, Tryd.ntmps10
  go_wp2
  go_loopw [4, 5, 6, 7] (fun vl vx vk vi wr => ∃ (i : Nat) (L : List AN) (x : List UInt8) (k : Nat), i ≤ n + 1 ∧ vi = .int .i64 (i : Int) ∧ vx = sV x ∧ vk = .int .i64 (k : Int) ∧ Hid (ActsAt wr w.heap.size 27 vl L) ∧ Hid (L.length ≤ i) ∧ Hid (x.length ≤ i) ∧ Hid (k ≤ i + 1) ∧ Hid ((10 : UInt8) ∉ x) ∧ Hid ((i ≤ n ∧ R = parsK (linesL (x ++ s.drop i)) k L) ∨ (i = n + 1 ∧ R = (L, 0))) ∧ Hid (Below w.heap.size w wr)) (fun _ _ _ vi _ => n + 1 - (intOf vi).toNat)
  case atStart => exact ⟨0, [], [], 1, by omega, rfl, rfl, rfl, actsAt_nil _ _ _, Nat.le_refl _, Nat.le_refl _, Nat.le_refl _, (by show (10 : UInt8) ∉ []; simp), Or.inl ⟨Nat.zero_le _, by rw [List.drop_zero, List.nil_append]; exact HR.out⟩, Below.refl _ _⟩
  case round =>
    clear HR
    obtain ⟨i, L, x, k, hi, rfl, rfl, rfl, hacts, hLl, hxl, hkl, hten, hpar, hbel⟩ := hrel
    obtain ⟨oa, oc, ho⟩ := hacts.out.len
    subst ho
    by_cases hle : i ≤ n
    · have hd0 : decide ((i : Int) ≤ (n : Int)) = true := by simp; omega
      have dl0 : (i : Int) ≤ (n : Int) := by omega
      have HI2 : Hid (i ≤ n) := hle
      have HP0 : Hid (R = parsK (linesL (x ++ s.drop i)) k L) := by
        rcases hpar.out with h | h
        · exact h.2
        · have := h.1; omega
      have ek : IntKind.i64.wrap ((i : Int) + 1) = (i : Int) + 1 := by have := HNL.out; exact IntWalk.i64_in _ (by omega)
      have ekk : IntKind.i64.wrap ((k : Int) + 1) = (k : Int) + 1 := by have := HNL.out; have := hkl.out; exact IntWalk.i64_in _ (by omega)
      clear hpar
      by_cases hlt : i < n
      · have hd : decide ((i : Int) < (n : Int)) = true := by simp; omega
        have dl : (i : Int) < (n : Int) := by omega
        have hil : i < s.length := by rw [hlx]; exact hlt
        have hix := fun w : World => run_index_sV w 9 s i Tryd.underlying9 hil
        obtain ⟨c, hc⟩ : ∃ c, c = (s.getD i 0).toNat := ⟨_, rfl⟩
        rw [← hc] at hix
        have HC := Lib.hid hc.symm
        have HSD := take_ten hil
        by_cases h10 : c = 10
        · have n10 : ((c : Int) != 10) = false := by simp; omega
          have HP : Hid (R = parsK (x :: linesL (s.drop (i + 1))) k L) := by
            show _ = _
            rw [HP0.out, HSD, u8_eq HC.out 10 h10, linesL_hit _ _ hten.out]
          have HREL : Hid (∀ L2, R = parsK (linesL (s.drop (i + 1))) (k + 1) L2 → (i + 1 ≤ n ∧ R = parsK (linesL ([] ++ s.drop (i + 1))) (k + 1) L2) ∨ (i + 1 = n + 1 ∧ R = (L2, 0))) := fun L2 h => Or.inl ⟨hlt, by rw [List.nil_append]; exact h⟩
          clear hc hil hi hlt HSD HP0 hle h10
          have HXL : Hid (x.length ≤ 100000) := by have := hxl.out; have := HNL.out; have := HI2.out; show _ ≤ _; omega
          go_wp2_with fail
          refine (rwords_c x HXL.out wr).mono ?_
          rintro e w1 ⟨⟨wv, rfl, hown⟩, hb1⟩
          obtain ⟨wa, wc, hwv⟩ := own_sliceR (show World.ownsRow _ _ _ _ _ _ _ from hown)
          subst hwv
          obtain ⟨N, hN⟩ : ∃ N, N = (wordsL x).length := ⟨_, rfl⟩
          rw [← hN]
          have HB1 := Lib.hid hb1
          have HNW := Lib.hid hN
          have HOW : Hid (w1.ownsRow wr.heap.size 9 1 (.slice wa N wc) N ((wordsL x).map sV)) := by rw [hN]; exact hown
          have HA1 : Hid (ActsAt w1 w.heap.size 27 (.slice oa L.length oc) L) := hacts.out.up hb1
          have HE1 : Hid (Below w.heap.size w w1) := hbel.out.trans (hb1.mono hbel.out.size)
          clear hown hN hb1
          by_cases hz : N = 0
          · have b0' : ((N : Int) == 0) = true := by simp; omega
            have i0 : ¬ (0 : Int) < (N : Int) := by omega
            have d0 : decide ((N : Int) > 0) = false := by simp; omega
            have HW : Hid (wordsL x = []) := List.length_eq_zero_iff.1 (by rw [← HNW.out]; exact hz)
            have HR2 := Lib.hid (HREL.out L (by rw [HP.out, parsK_skip HW.out]))
            clear hz hacts hbel
            go_wp2
            go_roundw
            case rel => exact ⟨i + 1, L, [], k + 1, by have := HI2.out; omega, by go_num, rfl, by go_num, HA1.out, by have := hLl.out; show _ ≤ _; omega, by show (0 : Nat) ≤ _; omega, by have := hkl.out; show _ ≤ _; omega, (by show (10 : UInt8) ∉ []; simp), HR2.out, HE1.out⟩
            case measure => simp [intOf]; have := HI2.out; omega
          · have i0 : (0 : Int) < (N : Int) := by omega
            have d0 : decide ((N : Int) > 0) = true := by simp; omega
            have HW : Hid (wordsL x ≠ []) := fun h => hz (by rw [HNW.out, h]; rfl)
            obtain ⟨x1, ws, hxw⟩ := List.exists_cons_of_ne_nil HW.out
            have HXW := Lib.hid hxw
            have HWL : Hid (∀ y ∈ ws, y.length ≤ 1000000) := fun y hy => by
              have h1 := wordsL_le x y (by rw [HXW.out]; exact List.mem_cons_of_mem _ hy)
              have := HXL.out
              omega
            obtain ⟨g, hga⟩ : ∃ g, wa = some ⟨g, 0, none⟩ := by
              obtain ⟨g, cap, h1, _⟩ := own_some HOW.out (by omega)
              injection h1 with h1 _ _
              exact ⟨g, h1⟩
            subst hga
            have HNE : Hid (N = ws.length + 1) := by show _ = _; rw [HNW.out, hxw]; rfl
            have HN9 : Hid (N ≤ 1000000) := by
              show _ ≤ _
              have h1 := words_count x
              have := HXL.out
              have := HNW.out
              omega
            clear hz hxw
            go_wp2_with fail
            refine (ract_c x1 ws HWL.out N g wc _ w1 HNE.out HN9.out (by rw [← HXW.out]; exact HOW.out)).mono ?_
            rintro e w4 ⟨hb4, a, va, vc, rfl, hres⟩
            have HB4 : Hid (Below wr.heap.size wr w4) := HB1.out.trans (hb4.mono HB1.out.size)
            have HRES := Lib.hid hres
            have HLB : Hid (wr.heap.size ≤ w1.heap.size) := HB1.out.size
            obtain ⟨okb, hok⟩ : ∃ b, b = (actN (x1 :: ws)).isSome := ⟨_, rfl⟩
            rw [← hok]
            have HOK := Lib.hid hok
            clear hb4 hres hok HA1 HE1
            cases okb with
            | false =>
              have HN2 : Hid (actN (wordsL x) = none) := by
                show _ = _
                rw [HXW.out]
                have := HOK.out
                cases h : actN (x1 :: ws) with
                | none => rfl
                | some a => rw [h] at this; cases this
              have HRR : Hid (R = ([], k)) := by show _ = _; rw [HP.out, parsK_none HW.out HN2.out]
              have HBF : Hid (Below w.heap.size w w4) := hbel.out.trans (HB4.out.mono hbel.out.size)
              clear hacts hbel
              go_wp2_with (first
                | (refine wpList_store_row rfl 27 (.tmp 9) (.tmp 42) rfl w4.heap.size (actA a (.slice va a.b.length vc)) rfl rfl 27 _ (heap_new' _ _) (by rw [act27]; rfl) (by rfl) (actA_one _ _ _ _) ?_)
                | fail)
              go_ret2
              have hbz := below_setRow (g := w4.heap.size) (HBF.out.alloc HBF.out.size (.cells #[.int .i64 0, .bool false, .int .i64 0, .int .i64 0, .int .i64 0, .int .i64 0, .slice none 0 0] 27)) HBF.out.size (actA a (.slice va a.b.length vc))
              refine ⟨.slice none 0 0, by rw [HRR.out]; rfl, ?_, ?_⟩
              · rw [HRR.out]; exact actsAt_nil _ _ _
              · exact hbz
            | true =>
              have HN2 : Hid (actN (wordsL x) = some a) := by
                show _ = _
                rw [HXW.out]
                have := HOK.out
                cases h : actN (x1 :: ws) with
                | none => rw [h] at this; cases this
                | some a0 => rw [(HRES.out a0 h).1]
              have HR2 := Lib.hid (HREL.out (L ++ [a]) (by rw [HP.out, parsK_some HW.out HN2.out]))
              have HBY : Hid (Byt w4 (Value.slice oa L.length oc).ownBlock a (.slice va a.b.length vc)) := by
                obtain ⟨_, h2, h3, h4⟩ := HRES.out a (by rw [← HXW.out]; exact HN2.out)
                refine ⟨va, vc, rfl, h2, h3, fun _ g o z hg e => ?_⟩
                have h5 := h4 g o z hg
                obtain ⟨xs, _, h6, _⟩ := hacts.out
                have h7 := (h6.lt g e).2
                have := HLB.out
                omega
              have HA4 : Hid (ActsAt w4 w.heap.size 27 (.slice oa L.length oc) L) := hacts.out.up HB4.out
              have HBF : Hid (Below w.heap.size w w4) := hbel.out.trans (HB4.out.mono hbel.out.size)
              clear hacts hbel HRES HB4
              go_upto_region 12 with (first
                | (refine wpList_store_row rfl 27 (.tmp 9) (.tmp 42) rfl w4.heap.size (actA a (.slice va a.b.length vc)) rfl rfl 27 _ (heap_new' _ _) (by rw [act27]; rfl) (by rfl) (actA_one _ _ _ _) ?_)
                | fail)
              have HC5 : Hid (((w4.alloc (.cells #[.int .i64 0, .bool false, .int .i64 0, .int .i64 0, .int .i64 0, .int .i64 0, .slice none 0 0] 27)).setRow w4.heap.size (actA a (.slice va a.b.length vc))).heap[w4.heap.size]? = some (.cells (actA a (.slice va a.b.length vc)) 27 (0, 0))) := setRow_heap _ _ _ _ _ _ (heap_new' _ _)
              have HB5 : Hid (Below w4.heap.size w4 ((w4.alloc (.cells #[.int .i64 0, .bool false, .int .i64 0, .int .i64 0, .int .i64 0, .int .i64 0, .slice none 0 0] 27)).setRow w4.heap.size (actA a (.slice va a.b.length vc)))) := below_setRow ((Below.refl _ _).alloc (Nat.le_refl _) _) (Nat.le_refl _) _
              generalize ((w4.alloc (.cells #[.int .i64 0, .bool false, .int .i64 0, .int .i64 0, .int .i64 0, .int .i64 0, .slice none 0 0] 27)).setRow w4.heap.size (actA a (.slice va a.b.length vc))) = w5 at *
              have HA5 : Hid (ActsAt w5 w.heap.size 27 (.slice oa L.length oc) L) := HA4.out.up HB5.out
              have HBX5 : Hid (Byt w5 (Value.slice oa L.length oc).ownBlock a (.slice va a.b.length vc)) := HBY.out.up HB5.out (Nat.le_refl _)
              have HBF5 : Hid (Below w.heap.size w w5) := HBF.out.trans (HB5.out.mono HBF.out.size)
              generalize w4.heap.size = ab at *
              clear HA4 HBY HBF HB5 HLB
              have HA6 : Hid (ActsAt (w5.alloc (.cells (actA a (.slice va a.b.length vc)) 27)) w.heap.size 27 (.slice oa L.length oc) L) := HA5.out.up ((Below.refl _ _).alloc (Nat.le_refl _) _)
              have HBX6 : Hid (Byt (w5.alloc (.cells (actA a (.slice va a.b.length vc)) 27)) (Value.slice oa L.length oc).ownBlock a (.slice va a.b.length vc)) := HBX5.out.up ((Below.refl _ _).alloc (Nat.le_refl _) _) (Nat.le_refl _)
              have HC6 : Hid ((w5.alloc (.cells (actA a (.slice va a.b.length vc)) 27)).heap[w5.heap.size]? = some (.cells (actA a (.slice va a.b.length vc)) 27 (0, 0))) := heap_new' _ _
              have HBF6 : Hid (Below w.heap.size w (w5.alloc (.cells (actA a (.slice va a.b.length vc)) 27))) := HBF5.out.alloc HBF5.out.size _
              go_wp2_with (first
                | (refine wpList_load_row rfl 27 (.tmp 9) rfl ab rfl _ _ _ _ HC5.out Tryd.underlying27 rfl (by rw [act27]; rfl) ?_)
                | (refine wpList_build_act rfl 22 27 (.tmp 48) rfl Tryd.underlying22 ginfo (a := a) (u := .slice va a.b.length vc) rfl ?_)
                | (refine wpList_append_act rfl 22 27 (.tmp 47) (.tmp 49) rfl Tryd.underlying22 ginfo (v := .slice oa L.length oc) (L := L) (base := w.heap.size) (a := a) (u := .slice va a.b.length vc) rfl HA6.out rfl HC6.out HBX6.out (by have := hLl.out; have := HI2.out; have := HNL.out; omega) HBF6.out.size ?_; intro v6 w6 hacts6 hgr6 hown6; have HA7 := Lib.hid hacts6; have HBF7 : Hid (Below w.heap.size w w6) := HBF6.out.grown hgr6 HBF6.out.size (fun k hk => by obtain ⟨xs, _, h6, _⟩ := HA6.out; exact (h6.lt k hk).1); clear hacts6 hgr6 hown6)
                | fail)
              go_roundw
              case rel => exact ⟨i + 1, L ++ [a], [], k + 1, by have := HI2.out; omega, by go_num, rfl, by go_num, HA7.out, by have := hLl.out; show _ ≤ _; rw [List.length_append, List.length_singleton]; omega, by show (0 : Nat) ≤ _; omega, by have := hkl.out; show _ ≤ _; omega, (by show (10 : UInt8) ∉ []; simp), HR2.out, HBF7.out⟩
              case measure => simp [intOf]; have := HI2.out; omega
        · have n10 : ((c : Int) != 10) = true := by simp; omega
          have HP : Hid (R = parsK (linesL ((x ++ [s.getD i 0]) ++ s.drop (i + 1))) k L) := by show _ = _; rw [HP0.out, HSD, List.append_assoc]; rfl
          have HT2 : Hid ((10 : UInt8) ∉ x ++ [s.getD i 0]) := by
            show _ ∉ _
            intro h
            rcases List.mem_append.1 h with h | h
            · exact hten.out h
            · rw [List.mem_singleton] at h
              exact u8_ne HC.out 10 h10 h.symm
          have HT1 := Lib.hid (take_one hil)
          obtain ⟨y, hy⟩ : ∃ y, y = s.getD i 0 := ⟨_, rfl⟩
          rw [← hy] at HP HT1 HT2
          have hxl0 : x.length + 1 ≤ 9223372036854775807 := by have := hxl.out; have := HNL.out; omega
          have hxl2 : x.length ≤ 9223372036854775806 := by omega
          obtain ⟨i1, hi1⟩ : ∃ j, j = i + 1 := ⟨_, rfl⟩
          have ek1 : IntKind.i64.wrap ((i : Int) + 1) = (i1 : Int) := by rw [ek]; omega
          have HI1 : Hid (i1 = i + 1) := hi1
          have HIN : Hid (i ≤ i1 ∧ i1 ≤ s.length) := ⟨by omega, by omega⟩
          have HI := Lib.hid hlt
          clear hc hil hi hlt hy ek hi1 HSD HP0 hle h10
          go_wp2_with (first
            | (refine wpList_slice_s rfl (l := s) (i := i) (j := i1) (.tmp 28) (.tmp 29) (.tmp 31) rfl rfl rfl (by first | rfl | (simp only [Act.eval]; rfl)) HIN.out.1 HIN.out.2 ?_; rw [show (s.drop i).take (i1 - i) = [y] from by rw [HI1.out]; exact HT1.out])
            | fail)
          go_roundw
          case rel => exact ⟨i1, L, x ++ [y], k, by have := HI.out; have := HI1.out; omega, rfl, rfl, rfl, hacts.out, by have := hLl.out; have := HI1.out; show _ ≤ _; omega, by have := hxl.out; have := HI1.out; show _ ≤ _; rw [List.length_append, List.length_singleton]; omega, by have := hkl.out; have := HI1.out; show _ ≤ _; omega, HT2.out, Or.inl ⟨by have := HI.out; have := HI1.out; omega, by rw [HI1.out]; exact HP.out⟩, hbel.out⟩
          case measure => simp [intOf]; have := HI.out; have := HI1.out; omega
      · have hd : decide ((i : Int) < (n : Int)) = false := by simp; omega
        have dl : ¬ (i : Int) < (n : Int) := by omega
        have HP : Hid (R = parsK (x :: []) k L) := by show _ = _; rw [HP0.out, List.drop_of_length_le (by omega), List.append_nil, linesL_none _ hten.out]
        have HREL : Hid (∀ L2, R = parsK [] (k + 1) L2 → (i + 1 ≤ n ∧ R = parsK (linesL ([] ++ s.drop (i + 1))) (k + 1) L2) ∨ (i + 1 = n + 1 ∧ R = (L2, 0))) := fun L2 h => Or.inr ⟨by omega, h⟩
        clear hi hlt HP0 hle
        have HXL : Hid (x.length ≤ 100000) := by have := hxl.out; have := HNL.out; have := HI2.out; show _ ≤ _; omega
        go_wp2_with fail
        refine (rwords_c x HXL.out wr).mono ?_
        rintro e w1 ⟨⟨wv, rfl, hown⟩, hb1⟩
        obtain ⟨wa, wc, hwv⟩ := own_sliceR (show World.ownsRow _ _ _ _ _ _ _ from hown)
        subst hwv
        obtain ⟨N, hN⟩ : ∃ N, N = (wordsL x).length := ⟨_, rfl⟩
        rw [← hN]
        have HB1 := Lib.hid hb1
        have HNW := Lib.hid hN
        have HOW : Hid (w1.ownsRow wr.heap.size 9 1 (.slice wa N wc) N ((wordsL x).map sV)) := by rw [hN]; exact hown
        have HA1 : Hid (ActsAt w1 w.heap.size 27 (.slice oa L.length oc) L) := hacts.out.up hb1
        have HE1 : Hid (Below w.heap.size w w1) := hbel.out.trans (hb1.mono hbel.out.size)
        clear hown hN hb1
        by_cases hz : N = 0
        · have b0' : ((N : Int) == 0) = true := by simp; omega
          have i0 : ¬ (0 : Int) < (N : Int) := by omega
          have d0 : decide ((N : Int) > 0) = false := by simp; omega
          have HW : Hid (wordsL x = []) := List.length_eq_zero_iff.1 (by rw [← HNW.out]; exact hz)
          have HR2 := Lib.hid (HREL.out L (by rw [HP.out, parsK_skip HW.out]))
          clear hz hacts hbel
          go_wp2
          go_roundw
          case rel => exact ⟨i + 1, L, [], k + 1, by have := HI2.out; omega, by go_num, rfl, by go_num, HA1.out, by have := hLl.out; show _ ≤ _; omega, by show (0 : Nat) ≤ _; omega, by have := hkl.out; show _ ≤ _; omega, (by show (10 : UInt8) ∉ []; simp), HR2.out, HE1.out⟩
          case measure => simp [intOf]; have := HI2.out; omega
        · have i0 : (0 : Int) < (N : Int) := by omega
          have d0 : decide ((N : Int) > 0) = true := by simp; omega
          have HW : Hid (wordsL x ≠ []) := fun h => hz (by rw [HNW.out, h]; rfl)
          obtain ⟨x1, ws, hxw⟩ := List.exists_cons_of_ne_nil HW.out
          have HXW := Lib.hid hxw
          have HWL : Hid (∀ y ∈ ws, y.length ≤ 1000000) := fun y hy => by
            have h1 := wordsL_le x y (by rw [HXW.out]; exact List.mem_cons_of_mem _ hy)
            have := HXL.out
            omega
          obtain ⟨g, hga⟩ : ∃ g, wa = some ⟨g, 0, none⟩ := by
            obtain ⟨g, cap, h1, _⟩ := own_some HOW.out (by omega)
            injection h1 with h1 _ _
            exact ⟨g, h1⟩
          subst hga
          have HNE : Hid (N = ws.length + 1) := by show _ = _; rw [HNW.out, hxw]; rfl
          have HN9 : Hid (N ≤ 1000000) := by
            show _ ≤ _
            have h1 := words_count x
            have := HXL.out
            have := HNW.out
            omega
          clear hz hxw
          go_wp2_with fail
          refine (ract_c x1 ws HWL.out N g wc _ w1 HNE.out HN9.out (by rw [← HXW.out]; exact HOW.out)).mono ?_
          rintro e w4 ⟨hb4, a, va, vc, rfl, hres⟩
          have HB4 : Hid (Below wr.heap.size wr w4) := HB1.out.trans (hb4.mono HB1.out.size)
          have HRES := Lib.hid hres
          have HLB : Hid (wr.heap.size ≤ w1.heap.size) := HB1.out.size
          obtain ⟨okb, hok⟩ : ∃ b, b = (actN (x1 :: ws)).isSome := ⟨_, rfl⟩
          rw [← hok]
          have HOK := Lib.hid hok
          clear hb4 hres hok HA1 HE1
          cases okb with
          | false =>
            have HN2 : Hid (actN (wordsL x) = none) := by
              show _ = _
              rw [HXW.out]
              have := HOK.out
              cases h : actN (x1 :: ws) with
              | none => rfl
              | some a => rw [h] at this; cases this
            have HRR : Hid (R = ([], k)) := by show _ = _; rw [HP.out, parsK_none HW.out HN2.out]
            have HBF : Hid (Below w.heap.size w w4) := hbel.out.trans (HB4.out.mono hbel.out.size)
            clear hacts hbel
            go_wp2_with (first
              | (refine wpList_store_row rfl 27 (.tmp 9) (.tmp 42) rfl w4.heap.size (actA a (.slice va a.b.length vc)) rfl rfl 27 _ (heap_new' _ _) (by rw [act27]; rfl) (by rfl) (actA_one _ _ _ _) ?_)
              | fail)
            go_ret2
            have hbz := below_setRow (g := w4.heap.size) (HBF.out.alloc HBF.out.size (.cells #[.int .i64 0, .bool false, .int .i64 0, .int .i64 0, .int .i64 0, .int .i64 0, .slice none 0 0] 27)) HBF.out.size (actA a (.slice va a.b.length vc))
            refine ⟨.slice none 0 0, by rw [HRR.out]; rfl, ?_, ?_⟩
            · rw [HRR.out]; exact actsAt_nil _ _ _
            · exact hbz
          | true =>
            have HN2 : Hid (actN (wordsL x) = some a) := by
              show _ = _
              rw [HXW.out]
              have := HOK.out
              cases h : actN (x1 :: ws) with
              | none => rw [h] at this; cases this
              | some a0 => rw [(HRES.out a0 h).1]
            have HR2 := Lib.hid (HREL.out (L ++ [a]) (by rw [HP.out, parsK_some HW.out HN2.out]))
            have HBY : Hid (Byt w4 (Value.slice oa L.length oc).ownBlock a (.slice va a.b.length vc)) := by
              obtain ⟨_, h2, h3, h4⟩ := HRES.out a (by rw [← HXW.out]; exact HN2.out)
              refine ⟨va, vc, rfl, h2, h3, fun _ g o z hg e => ?_⟩
              have h5 := h4 g o z hg
              obtain ⟨xs, _, h6, _⟩ := hacts.out
              have h7 := (h6.lt g e).2
              have := HLB.out
              omega
            have HA4 : Hid (ActsAt w4 w.heap.size 27 (.slice oa L.length oc) L) := hacts.out.up HB4.out
            have HBF : Hid (Below w.heap.size w w4) := hbel.out.trans (HB4.out.mono hbel.out.size)
            clear hacts hbel HRES HB4
            go_upto_region 12 with (first
              | (refine wpList_store_row rfl 27 (.tmp 9) (.tmp 42) rfl w4.heap.size (actA a (.slice va a.b.length vc)) rfl rfl 27 _ (heap_new' _ _) (by rw [act27]; rfl) (by rfl) (actA_one _ _ _ _) ?_)
              | fail)
            have HC5 : Hid (((w4.alloc (.cells #[.int .i64 0, .bool false, .int .i64 0, .int .i64 0, .int .i64 0, .int .i64 0, .slice none 0 0] 27)).setRow w4.heap.size (actA a (.slice va a.b.length vc))).heap[w4.heap.size]? = some (.cells (actA a (.slice va a.b.length vc)) 27 (0, 0))) := setRow_heap _ _ _ _ _ _ (heap_new' _ _)
            have HB5 : Hid (Below w4.heap.size w4 ((w4.alloc (.cells #[.int .i64 0, .bool false, .int .i64 0, .int .i64 0, .int .i64 0, .int .i64 0, .slice none 0 0] 27)).setRow w4.heap.size (actA a (.slice va a.b.length vc)))) := below_setRow ((Below.refl _ _).alloc (Nat.le_refl _) _) (Nat.le_refl _) _
            generalize ((w4.alloc (.cells #[.int .i64 0, .bool false, .int .i64 0, .int .i64 0, .int .i64 0, .int .i64 0, .slice none 0 0] 27)).setRow w4.heap.size (actA a (.slice va a.b.length vc))) = w5 at *
            have HA5 : Hid (ActsAt w5 w.heap.size 27 (.slice oa L.length oc) L) := HA4.out.up HB5.out
            have HBX5 : Hid (Byt w5 (Value.slice oa L.length oc).ownBlock a (.slice va a.b.length vc)) := HBY.out.up HB5.out (Nat.le_refl _)
            have HBF5 : Hid (Below w.heap.size w w5) := HBF.out.trans (HB5.out.mono HBF.out.size)
            generalize w4.heap.size = ab at *
            clear HA4 HBY HBF HB5 HLB
            have HA6 : Hid (ActsAt (w5.alloc (.cells (actA a (.slice va a.b.length vc)) 27)) w.heap.size 27 (.slice oa L.length oc) L) := HA5.out.up ((Below.refl _ _).alloc (Nat.le_refl _) _)
            have HBX6 : Hid (Byt (w5.alloc (.cells (actA a (.slice va a.b.length vc)) 27)) (Value.slice oa L.length oc).ownBlock a (.slice va a.b.length vc)) := HBX5.out.up ((Below.refl _ _).alloc (Nat.le_refl _) _) (Nat.le_refl _)
            have HC6 : Hid ((w5.alloc (.cells (actA a (.slice va a.b.length vc)) 27)).heap[w5.heap.size]? = some (.cells (actA a (.slice va a.b.length vc)) 27 (0, 0))) := heap_new' _ _
            have HBF6 : Hid (Below w.heap.size w (w5.alloc (.cells (actA a (.slice va a.b.length vc)) 27))) := HBF5.out.alloc HBF5.out.size _
            go_wp2_with (first
              | (refine wpList_load_row rfl 27 (.tmp 9) rfl ab rfl _ _ _ _ HC5.out Tryd.underlying27 rfl (by rw [act27]; rfl) ?_)
              | (refine wpList_build_act rfl 22 27 (.tmp 48) rfl Tryd.underlying22 ginfo (a := a) (u := .slice va a.b.length vc) rfl ?_)
              | (refine wpList_append_act rfl 22 27 (.tmp 47) (.tmp 49) rfl Tryd.underlying22 ginfo (v := .slice oa L.length oc) (L := L) (base := w.heap.size) (a := a) (u := .slice va a.b.length vc) rfl HA6.out rfl HC6.out HBX6.out (by have := hLl.out; have := HI2.out; have := HNL.out; omega) HBF6.out.size ?_; intro v6 w6 hacts6 hgr6 hown6; have HA7 := Lib.hid hacts6; have HBF7 : Hid (Below w.heap.size w w6) := HBF6.out.grown hgr6 HBF6.out.size (fun k hk => by obtain ⟨xs, _, h6, _⟩ := HA6.out; exact (h6.lt k hk).1); clear hacts6 hgr6 hown6)
              | fail)
            go_roundw
            case rel => exact ⟨i + 1, L ++ [a], [], k + 1, by have := HI2.out; omega, by go_num, rfl, by go_num, HA7.out, by have := hLl.out; show _ ≤ _; rw [List.length_append, List.length_singleton]; omega, by show (0 : Nat) ≤ _; omega, by have := hkl.out; show _ ≤ _; omega, (by show (10 : UInt8) ∉ []; simp), HR2.out, HBF7.out⟩
            case measure => simp [intOf]; have := HI2.out; omega
    · have hd0 : decide ((i : Int) ≤ (n : Int)) = false := by simp; omega
      have dl0 : ¬ (i : Int) ≤ (n : Int) := by omega
      have HRR : Hid (R = (L, 0)) := by
        rcases hpar.out with h | h
        · have := h.1; omega
        · exact h.2
      clear hpar
      go_wp2
      go_ret2
      refine ⟨.slice oa L.length oc, by rw [HRR.out]; rfl, ?_, hbel.out⟩
      rw [HRR.out]
      exact hacts.out
end Go.Proofs.YteennbdakjjcfaaDoor
