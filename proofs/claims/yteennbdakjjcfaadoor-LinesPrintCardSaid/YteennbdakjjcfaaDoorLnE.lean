/- A word of hex signs as bytes: the line's, the reference's. Printed by gen_lne.py. -/
import Derived.Test.YteennbdakjjcfaaDoorLnD
set_option linter.unusedVariables false
set_option linter.unusedSimpArgs false
namespace Go.Proofs.YteennbdakjjcfaaDoor
open Go Go.RowKit Go.Lib
theorem LineIs.far {w w' : World} {lb : Nat} {ws : List (List UInt8)} {bad : Bool} (h : LineIs w lb ws bad) (hb : Below (lb + 1) w w') : LineIs w' lb ws bad := by
  obtain ⟨v, h1, h2⟩ := h
  exact ⟨v, (hb.block _ (Nat.lt_succ_self _)).trans h1, h2.up (hb.mono (Nat.le_succ _))⟩
theorem LineIs.lt {w : World} {lb : Nat} {ws : List (List UInt8)} {bad : Bool} (h : LineIs w lb ws bad) : lb < w.heap.size := by
  obtain ⟨v, h1, _⟩ := h
  exact lt_of_block h1
/-- what a word's bytes are -/
def hexR (x : List UInt8) : List Nat := (hexW x).getD []
theorem hexW_one : hexW [45] = some [] := rfl
theorem hexW_of {x : List UInt8} (h1 : x ≠ [45]) (h2 : x ≠ []) : hexW x = hexP x := by unfold hexW; rw [if_neg h1, if_neg h2]
theorem hexW_nil : hexW [] = none := rfl
theorem hexW_odd {x : List UInt8} (h1 : x ≠ [45]) (h : x.length % 2 = 1) : hexW x = none := by
  by_cases h2 : x = []
  · rw [h2]; rfl
  · rw [hexW_of h1 h2]; exact hexP_odd (x.length / 2) x (by omega)
set_option maxRecDepth 100000 in
set_option maxHeartbeats 4000000 in
theorem rhex_c (x : List UInt8) (hxl : x.length ≤ 1000000) (w : World) :
    Calls Tryd.prog 43 #[sV x] w fun e w' => (∃ v, e = .returned (.tuple #[v, .bool (hexW x).isSome]) ∧ w'.ownsRow w.heap.size 5 1 v (hexR x).length (bA (hexR x)).toList) ∧ Below w.heap.size w w' := by
  have HXL := Lib.hid hxl
  obtain ⟨n, hn⟩ : ∃ n, n = x.length := ⟨_, rfl⟩
  have HN := Lib.hid hn
  have hlx : x.length = n := hn.symm
  clear hn hxl
  by_cases h45 : x = [45]
  · have d45 : decide (x = [45]) = true := by simpa using h45
    have HW : Hid (hexW x = some []) := by show _ = _; rw [h45]; rfl
    have HR : Hid (hexR x = []) := by show _ = _; unfold hexR; rw [HW.out]; rfl
    clear h45 hlx
    go_enter Tryd.func43, Tryd.ntmps43
    go_wp2
    go_ret2
    exact ⟨⟨_, by rw [HW.out]; rfl, by rw [HR.out]; exact slice_nil_own _ _⟩, Below.refl _ _⟩
  · have d45 : decide (x = [45]) = false := by simpa using h45
    have H45 := Lib.hid h45
    by_cases hbad : n = 0 ∨ n % 2 = 1
    · have HW : Hid (hexW x = none) := by
        show _ = _
        rcases hbad with h | h
        · have hx0 : x = [] := List.length_eq_zero_iff.1 (by rw [hlx]; exact h)
          rw [hx0]; rfl
        · exact hexW_odd h45 (by rw [hlx]; exact h)
      have HR : Hid (hexR x = []) := by show _ = _; unfold hexR; rw [HW.out]; rfl
      by_cases h0 : n = 0
      · have hxe : x = [] := List.length_eq_zero_iff.1 (by rw [hlx]; exact h0)
        have dxe : decide (x = []) = true := by simpa using hxe
        have i0 : (n : Int) = 0 := by omega
        have b0 : ((n : Int) == 0) = true := by simp; omega
        have r0 : ((n : Int) % 2 == 1) = false := by rw [i0]; rfl
        clear hbad h45
        go_enter Tryd.func43, Tryd.ntmps43
        go_wp2
        go_ret2
        exact ⟨⟨_, by rw [HW.out]; rfl, by rw [HR.out]; exact slice_nil_own _ _⟩, Below.refl _ _⟩
      · have hxe : x ≠ [] := fun h => h0 (by rw [← hlx, h]; rfl)
        have dxe : decide (x = []) = false := by simpa using hxe
        have i0 : ¬ (n : Int) = 0 := by omega
        have b0 : ((n : Int) == 0) = false := by simp; omega
        have r1 : (n : Int) % 2 = 1 := by omega
        have r0 : ((n : Int) % 2 == 1) = true := by rw [r1]; rfl
        clear r1
        clear hbad h45
        go_enter Tryd.func43, Tryd.ntmps43
        go_wp2
        go_ret2
        exact ⟨⟨_, by rw [HW.out]; rfl, by rw [HR.out]; exact slice_nil_own _ _⟩, Below.refl _ _⟩
    · have hxe : x ≠ [] := fun h => hbad (Or.inl (by rw [← hlx, h]; rfl))
      have dxe : decide (x = []) = false := by simpa using hxe
      have i0 : ¬ (n : Int) = 0 := by omega
      have b0 : ((n : Int) == 0) = false := by simp; omega
      have r1 : (n : Int) % 2 = 0 := by omega
      have r0 : ((n : Int) % 2 == 1) = false := by rw [r1]; rfl
      clear r1
      have HEV : Hid (n % 2 = 0 ∧ n ≠ 0) := ⟨by omega, by omega⟩
      have HWP : Hid (hexW x = hexP x) := hexW_of h45 hxe
      have HNL : Hid (n ≤ 1000000) := by show _ ≤ _; rw [← hlx]; exact HXL.out
      clear hbad h45
      go_enter Tryd.func43, Tryd.ntmps43
      go_wp2
      go_loopw [4, 5] (fun vo vi wr => ∃ i m : Nat, i ≤ n ∧ vi = .int .i64 (i : Int) ∧ Hid (i = 2 * m) ∧ ∃ a c B, vo = .slice a m c ∧ Hid (wr.ownsRow w.heap.size 5 1 (.slice a m c) m (bA B).toList) ∧ Hid (hexP x = (hexP (x.drop i)).map (fun r => B ++ r)) ∧ Hid (Below w.heap.size w wr)) (fun _ vi _ => n - (intOf vi).toNat)
      case atStart => exact ⟨0, 0, by omega, rfl, rfl, none, 0, [], rfl, World.ownsRow_nil _ _ _ _, by show _ = _; rw [List.drop_zero]; cases hexP x <;> rfl, Below.refl _ _⟩
      case round =>
        obtain ⟨i, m, hi, rfl, him, a, c, B, rfl, hown, hpx, hbel⟩ := hrel
        by_cases hlt : i < n
        · have hd : decide ((i : Int) < (n : Int)) = true := by simp; omega
          have dl : (i : Int) < (n : Int) := by omega
          have hlt1 : i + 1 < n := by have := HEV.out; have := him.out; omega
          obtain ⟨i1, hi1⟩ : ∃ j, j = i + 1 := ⟨_, rfl⟩
          have hlt2 : i1 < n := by omega
          have ei1 : IntKind.i64.wrap ((i : Int) + 1) = (i1 : Int) := by have := HNL.out; rw [IntWalk.i64_in _ (by omega)]; omega
          obtain ⟨i2, hi2⟩ : ∃ j, j = i + 2 := ⟨_, rfl⟩
          have ei2 : IntKind.i64.wrap ((i : Int) + 2) = (i2 : Int) := by have := HNL.out; rw [IntWalk.i64_in _ (by omega)]; omega
          have HI : Hid (i1 = i + 1 ∧ i2 = i + 2 ∧ i + 1 < n) := ⟨hi1, hi2, hlt1⟩
          have hix := fun w : World => run_index_sV w 9 x i Tryd.underlying9 (by rw [hlx]; exact hlt)
          have hix1 := fun w : World => run_index_sV w 9 x i1 Tryd.underlying9 (by rw [hlx]; exact hlt2)
          obtain ⟨p, hp⟩ : ∃ p, p = (x.getD i 0).toNat := ⟨_, rfl⟩
          obtain ⟨q, hq⟩ : ∃ q, q = (x.getD i1 0).toNat := ⟨_, rfl⟩
          rw [← hp] at hix
          rw [← hq] at hix1
          have HPQ : Hid (p < 256 ∧ q < 256) := ⟨by rw [hp]; exact UInt8.toNat_lt _, by rw [hq]; exact UInt8.toNat_lt _⟩
          have HBAD : Hid (hexN p = none ∨ hexN q = none → hexP x = none) := fun h => by
            rw [hpx.out, hexP_bad (x := x) (i := i) (by rw [hlx]; exact hlt1) (by rw [← hp, ← hi1, ← hq]; exact h)]; rfl
          have HSTEP : Hid (∀ u v, hexN p = some u → hexN q = some v → hexP x = (hexP (x.drop i2)).map (fun r => (B ++ [16 * u + v]) ++ r)) := fun u v hu hv => by
            rw [hpx.out, hexP_step (x := x) (i := i) (u := u) (v := v) (by rw [hlx]; exact hlt1) (by rw [← hp]; exact hu) (by rw [← hi1, ← hq]; exact hv), ← hi2, Option.map_map]
            congr 1
            funext r
            simp
          clear hp hq hi1 hi2 hlt1 hlt hlt2
          have HO1 := Lib.hid hown.out
          have HE1 := Lib.hid hbel.out
          clear hown hbel hpx
          go_wp2_with fail
          refine (digit_c p HPQ.out.1 wr).mono ?_
          rintro e w1 ⟨rfl, rfl⟩
          go_wp2_with fail
          refine (digit_c q HPQ.out.2 wr).mono ?_
          rintro e w1 ⟨rfl, rfl⟩
          cases hu : hexN p with
          | none =>
            have dn : dig none = -1 := rfl
            rw [dn]
            have HW : Hid (hexW x = none) := HWP.out.trans (HBAD.out (by exact Or.inl hu))
            have HR : Hid (hexR x = []) := by show _ = _; unfold hexR; rw [HW.out]; rfl
            go_wp2
            go_ret2
            exact ⟨⟨_, by rw [HW.out]; rfl, by rw [HR.out]; exact slice_nil_own _ _⟩, HE1.out⟩
          | some u =>
            have du : dig (some u) = (u : Int) := rfl
            have hneg : decide ((u : Int) < 0) = false := by simp
            rw [du]
            cases hv : hexN q with
            | none =>
              have dn : dig none = -1 := rfl
              rw [dn]
              have HW : Hid (hexW x = none) := HWP.out.trans (HBAD.out (by exact Or.inr hv))
              have HR : Hid (hexR x = []) := by show _ = _; unfold hexR; rw [HW.out]; rfl
              go_wp2
              go_ret2
              exact ⟨⟨_, by rw [HW.out]; rfl, by rw [HR.out]; exact slice_nil_own _ _⟩, HE1.out⟩
            | some v =>
              have dv : dig (some v) = (v : Int) := rfl
              have hnegv : decide ((v : Int) < 0) = false := by simp
              rw [dv]
              have hul := hexN_lt hu
              have hvl := hexN_lt hv
              obtain ⟨y, hy⟩ : ∃ y, y = 16 * u + v := ⟨_, rfl⟩
              have HY : Hid (y < 256) := by show _ < _; omega
              have HPX2 : Hid (hexP x = (hexP (x.drop i2)).map (fun r => (B ++ [y]) ++ r)) := by show _ = _; rw [hy]; exact HSTEP.out u v hu hv
              obtain ⟨u16, hu16⟩ : ∃ z, z = 16 * u := ⟨_, rfl⟩
              have es : IntKind.i64.wrap (16 * (u : Int)) = (u16 : Int) := by rw [IntWalk.i64_in _ (by omega)]; omega
              have eo : IntKind.i64.wrap ((u16 : Int) + (v : Int)) = (y : Int) := by rw [IntWalk.i64_in _ (by omega)]; omega
              have ey : IntKind.u8.wrap (y : Int) = (y : Int) := by rw [IntKind.wrap_u8]; omega
              have HBS : Hid (BytesAt (wr.alloc (.cells #[.int .u8 (y : Int)] 5)) (some ⟨wr.heap.size, 0, none⟩) 1 [y]) := bytesAt_block (l := [y]) (by simp; exact HY.out) (heap_new' _ _)
              have HOA : Hid ((wr.alloc (.cells #[.int .u8 (y : Int)] 5)).ownsRow w.heap.size 5 1 (.slice a m c) m (bA B).toList) := World.ownsRow.alloc HO1.out _
              have HEA : Hid (Below w.heap.size w (wr.alloc (.cells #[.int .u8 (y : Int)] 5))) := HE1.out.alloc HE1.out.size _
              have HML : Hid (m ≤ 999999) := by have := him.out; have := HNL.out; have := HI.out; show _ ≤ _; omega
              clear hy hul hvl hu hv hu16
              go_wp2_with (first
                | (refine wpList_append_bytes (v := .slice a m c) (base := w.heap.size) (n := m) (m := 1) (l := [y]) rfl (.tmp 39) (.tmp 45) rfl rfl HOA.out rfl rfl HBS.out (fun h => by cases h) (by have := HML.out; omega) HEA.out.size ?_; intro v3 w3 hown3 hgr3; rw [bA_app] at hown3; have HO3 := Lib.hid hown3; have HE3 : Hid (Below w.heap.size w w3) := HEA.out.grown hgr3 HEA.out.size (fun q h => (HOA.out.lt q h).1); obtain ⟨a3, c3, hv3⟩ := own_slice hown3; subst hv3; clear hown3 hgr3)
                | fail)
              go_roundw
              case rel => exact ⟨i2, m + 1, by have := HI.out; omega, by first | rfl | go_num, by have := HI.out; have := him.out; show _ = _; omega, a3, c3, B ++ [y], rfl, HO3.out, HPX2.out, HE3.out⟩
              case measure => simp [intOf]; have := HI.out; omega
        · have hd : decide ((i : Int) < (n : Int)) = false := by simp; omega
          have dl : ¬ (i : Int) < (n : Int) := by omega
          have HX : Hid (hexW x = some B) := by
            show _ = _
            rw [HWP.out, hpx.out, List.drop_of_length_le (by rw [hlx]; omega)]
            show some (B ++ []) = some B
            rw [List.append_nil]
          have HR : Hid (hexR x = B) := by show _ = _; unfold hexR; rw [HX.out]; rfl
          have hBl : B.length = m := by have := hown.out.1; simpa [bA] using this
          have HBL := Lib.hid hBl
          clear hpx hBl hi
          go_wp2
          go_ret2
          exact ⟨⟨_, by rw [HX.out]; rfl, by rw [HR.out, HBL.out]; exact hown.out⟩, hbel.out⟩
set_option maxRecDepth 100000 in
set_option maxHeartbeats 4000000 in
theorem lbytes_c (lb : Nat) (ws : List (List UInt8)) (bad : Bool) (x : List UInt8) (hxl : x.length ≤ 1000000) (w : World) (h : LineIs w lb ws bad) :
    Calls Tryd.prog 56 #[.pointer (some ⟨lb, 0, none⟩), sV x] w fun e w' => (∃ v, e = .returned v ∧ w'.ownsRow w.heap.size 5 1 v (hexR x).length (bA (hexR x)).toList) ∧ LineIs w' lb ws (bad || (hexW x).isNone) ∧ Save lb lb w w' := by
  have HF := Lib.hid (fail_c lb ws bad w h)
  have HH := Lib.hid h
  have HLT := Lib.hid h.lt
  clear h
  have HXL := Lib.hid hxl
  obtain ⟨n, hn⟩ : ∃ n, n = x.length := ⟨_, rfl⟩
  have HN := Lib.hid hn
  have hlx : x.length = n := hn.symm
  clear hn hxl
  by_cases h45 : x = [45]
  · have d45 : decide (x = [45]) = true := by simpa using h45
    have HW : Hid (hexW x = some []) := by show _ = _; rw [h45]; rfl
    have HR : Hid (hexR x = []) := by show _ = _; unfold hexR; rw [HW.out]; rfl
    clear h45 hlx
    go_enter Tryd.func56, Tryd.ntmps56
    go_wp2
    go_ret
    exact ⟨⟨_, rfl, by rw [HR.out]; exact slice_nil_own _ _⟩, by rw [HW.out]; cases bad <;> exact HH.out, Save.refl _ _ _⟩
  · have d45 : decide (x = [45]) = false := by simpa using h45
    have H45 := Lib.hid h45
    by_cases hbad : n = 0 ∨ n % 2 = 1
    · have HW : Hid (hexW x = none) := by
        show _ = _
        rcases hbad with h | h
        · have hx0 : x = [] := List.length_eq_zero_iff.1 (by rw [hlx]; exact h)
          rw [hx0]; rfl
        · exact hexW_odd h45 (by rw [hlx]; exact h)
      have HR : Hid (hexR x = []) := by show _ = _; unfold hexR; rw [HW.out]; rfl
      by_cases h0 : n = 0
      · have hxe : x = [] := List.length_eq_zero_iff.1 (by rw [hlx]; exact h0)
        have dxe : decide (x = []) = true := by simpa using hxe
        have i0 : (n : Int) = 0 := by omega
        have b0 : ((n : Int) == 0) = true := by simp; omega
        have r0 : ((n : Int) % 2 == 1) = false := by rw [i0]; rfl
        clear hbad h45
        go_enter Tryd.func56, Tryd.ntmps56
        go_wp2_with fail
        refine HF.out.mono ?_
        rintro e w1 ⟨rfl, hl1, hs1⟩
        have HL1 := Lib.hid hl1
        have HS1 := Lib.hid hs1
        clear hl1 hs1
        go_wp2
        go_ret
        exact ⟨⟨_, rfl, by rw [HR.out]; exact slice_nil_own _ _⟩, by rw [HW.out]; cases bad <;> exact HL1.out, HS1.out⟩
      · have hxe : x ≠ [] := fun h => h0 (by rw [← hlx, h]; rfl)
        have dxe : decide (x = []) = false := by simpa using hxe
        have i0 : ¬ (n : Int) = 0 := by omega
        have b0 : ((n : Int) == 0) = false := by simp; omega
        have r1 : (n : Int) % 2 = 1 := by omega
        have r0 : ((n : Int) % 2 == 1) = true := by rw [r1]; rfl
        clear r1
        clear hbad h45
        go_enter Tryd.func56, Tryd.ntmps56
        go_wp2_with fail
        refine HF.out.mono ?_
        rintro e w1 ⟨rfl, hl1, hs1⟩
        have HL1 := Lib.hid hl1
        have HS1 := Lib.hid hs1
        clear hl1 hs1
        go_wp2
        go_ret
        exact ⟨⟨_, rfl, by rw [HR.out]; exact slice_nil_own _ _⟩, by rw [HW.out]; cases bad <;> exact HL1.out, HS1.out⟩
    · have hxe : x ≠ [] := fun h => hbad (Or.inl (by rw [← hlx, h]; rfl))
      have dxe : decide (x = []) = false := by simpa using hxe
      have i0 : ¬ (n : Int) = 0 := by omega
      have b0 : ((n : Int) == 0) = false := by simp; omega
      have r1 : (n : Int) % 2 = 0 := by omega
      have r0 : ((n : Int) % 2 == 1) = false := by rw [r1]; rfl
      clear r1
      have HEV : Hid (n % 2 = 0 ∧ n ≠ 0) := ⟨by omega, by omega⟩
      have HWP : Hid (hexW x = hexP x) := hexW_of h45 hxe
      have HNL : Hid (n ≤ 1000000) := by show _ ≤ _; rw [← hlx]; exact HXL.out
      clear hbad h45
      go_enter Tryd.func56, Tryd.ntmps56
      go_wp2
      go_loopw [5, 6] (fun vo vi wr => ∃ i m : Nat, i ≤ n ∧ vi = .int .i64 (i : Int) ∧ Hid (i = 2 * m) ∧ ∃ a c B, vo = .slice a m c ∧ Hid (wr.ownsRow w.heap.size 5 1 (.slice a m c) m (bA B).toList) ∧ Hid (hexP x = (hexP (x.drop i)).map (fun r => B ++ r)) ∧ Hid (Below w.heap.size w wr)) (fun _ vi _ => n - (intOf vi).toNat)
      case atStart => exact ⟨0, 0, by omega, rfl, rfl, none, 0, [], rfl, World.ownsRow_nil _ _ _ _, by show _ = _; rw [List.drop_zero]; cases hexP x <;> rfl, Below.refl _ _⟩
      case round =>
        obtain ⟨i, m, hi, rfl, him, a, c, B, rfl, hown, hpx, hbel⟩ := hrel
        by_cases hlt : i < n
        · have hd : decide ((i : Int) < (n : Int)) = true := by simp; omega
          have dl : (i : Int) < (n : Int) := by omega
          have hlt1 : i + 1 < n := by have := HEV.out; have := him.out; omega
          obtain ⟨i1, hi1⟩ : ∃ j, j = i + 1 := ⟨_, rfl⟩
          have hlt2 : i1 < n := by omega
          have ei1 : IntKind.i64.wrap ((i : Int) + 1) = (i1 : Int) := by have := HNL.out; rw [IntWalk.i64_in _ (by omega)]; omega
          obtain ⟨i2, hi2⟩ : ∃ j, j = i + 2 := ⟨_, rfl⟩
          have ei2 : IntKind.i64.wrap ((i : Int) + 2) = (i2 : Int) := by have := HNL.out; rw [IntWalk.i64_in _ (by omega)]; omega
          have HI : Hid (i1 = i + 1 ∧ i2 = i + 2 ∧ i + 1 < n) := ⟨hi1, hi2, hlt1⟩
          have hix := fun w : World => run_index_sV w 9 x i Tryd.underlying9 (by rw [hlx]; exact hlt)
          have hix1 := fun w : World => run_index_sV w 9 x i1 Tryd.underlying9 (by rw [hlx]; exact hlt2)
          obtain ⟨p, hp⟩ : ∃ p, p = (x.getD i 0).toNat := ⟨_, rfl⟩
          obtain ⟨q, hq⟩ : ∃ q, q = (x.getD i1 0).toNat := ⟨_, rfl⟩
          rw [← hp] at hix
          rw [← hq] at hix1
          have HPQ : Hid (p < 256 ∧ q < 256) := ⟨by rw [hp]; exact UInt8.toNat_lt _, by rw [hq]; exact UInt8.toNat_lt _⟩
          have HBAD : Hid (hexN p = none ∨ hexN q = none → hexP x = none) := fun h => by
            rw [hpx.out, hexP_bad (x := x) (i := i) (by rw [hlx]; exact hlt1) (by rw [← hp, ← hi1, ← hq]; exact h)]; rfl
          have HSTEP : Hid (∀ u v, hexN p = some u → hexN q = some v → hexP x = (hexP (x.drop i2)).map (fun r => (B ++ [16 * u + v]) ++ r)) := fun u v hu hv => by
            rw [hpx.out, hexP_step (x := x) (i := i) (u := u) (v := v) (by rw [hlx]; exact hlt1) (by rw [← hp]; exact hu) (by rw [← hi1, ← hq]; exact hv), ← hi2, Option.map_map]
            congr 1
            funext r
            simp
          clear hp hq hi1 hi2 hlt1 hlt hlt2
          go_wp2_with fail
          refine wp_region_held_drew (S := fun w' => Below wr.heap.size wr w') (by kernel_rfl) (Below.refl _ _).drew ?_
          intro hS
          generalize wr.drew = WD at hS ⊢
          change wpAnyH _ _ _ _ _ 11 #[false, false, false, false, false, false, false, false, false, false, false] _ _
          refine wpAnyH_take (i := 0) (v := ?_) rfl (by kernel_rfl) (by kernel_rfl) (by kernel_rfl) (fun _ _ _ h => h) (Or.inl ⟨by rfl, ?hy⟩) hS ?_
          case hy => intro w' hSw; go_simp; try with_reducible rfl
          simp only [List.getElem_toArray, List.getElem_cons_succ, List.getElem_cons_zero, Act.put, List.setIfInBounds_toArray, List.set_cons_zero, List.set_cons_succ]
          change wpAnyH _ _ _ _ _ 10 #[true, false, false, false, false, false, false, false, false, false, false] _ _
          refine wpAnyH_take (i := 1) (v := ?_) rfl (by kernel_rfl) (by kernel_rfl) (by kernel_rfl) (fun _ _ _ h => h) (Or.inl ⟨by rfl, ?hy⟩) hS ?_
          case hy => intro w' hSw; go_simp; try with_reducible rfl
          simp only [List.getElem_toArray, List.getElem_cons_succ, List.getElem_cons_zero, Act.put, List.setIfInBounds_toArray, List.set_cons_zero, List.set_cons_succ]
          change wpAnyH _ _ _ _ _ 9 #[true, true, false, false, false, false, false, false, false, false, false] _ _
          refine wpAnyH_take (i := 2) (v := ?_) rfl (by kernel_rfl) (by kernel_rfl) (by kernel_rfl) (fun _ _ _ h => h) (Or.inl ⟨by rfl, ?hy⟩) hS ?_
          case hy => intro w' hSw; go_simp; try with_reducible rfl
          simp only [List.getElem_toArray, List.getElem_cons_succ, List.getElem_cons_zero, Act.put, List.setIfInBounds_toArray, List.set_cons_zero, List.set_cons_succ]
          change wpAnyH _ _ _ _ _ 8 #[true, true, true, false, false, false, false, false, false, false, false] _ _
          refine wpAnyH_take (i := 4) (v := ?_) rfl (by kernel_rfl) (by kernel_rfl) (by kernel_rfl) (fun _ _ _ h => h) (Or.inl ⟨by rfl, ?hy⟩) hS ?_
          case hy => intro w' hSw; go_simp; try with_reducible rfl
          simp only [List.getElem_toArray, List.getElem_cons_succ, List.getElem_cons_zero, Act.put, List.setIfInBounds_toArray, List.set_cons_zero, List.set_cons_succ]
          change wpAnyH _ _ _ _ _ 7 #[true, true, true, false, true, false, false, false, false, false, false] _ _
          refine wpAnyH_take (i := 5) (v := ?_) rfl (by kernel_rfl) (by kernel_rfl) (by kernel_rfl) (fun _ _ _ h => h) (Or.inl ⟨by rfl, ?hy⟩) hS ?_
          case hy => intro w' hSw; go_simp; try with_reducible rfl
          simp only [List.getElem_toArray, List.getElem_cons_succ, List.getElem_cons_zero, Act.put, List.setIfInBounds_toArray, List.set_cons_zero, List.set_cons_succ]
          change wpAnyH _ _ _ _ _ 6 #[true, true, true, false, true, true, false, false, false, false, false] _ _
          refine wpAnyH_take (i := 6) (v := ?_) rfl (by kernel_rfl) (by kernel_rfl) (by kernel_rfl) (fun _ _ _ h => h) (Or.inl ⟨by rfl, ?hy⟩) hS ?_
          case hy => intro w' hSw; go_simp; try with_reducible rfl
          simp only [List.getElem_toArray, List.getElem_cons_succ, List.getElem_cons_zero, Act.put, List.setIfInBounds_toArray, List.set_cons_zero, List.set_cons_succ]
          change wpAnyH _ _ _ _ _ 5 #[true, true, true, false, true, true, true, false, false, false, false] _ _
          refine wpAnyH_take (i := 7) (v := ?_) rfl (by kernel_rfl) (by kernel_rfl) (by kernel_rfl) (fun _ _ _ h => h) (Or.inl ⟨by rfl, ?hy⟩) hS ?_
          case hy => intro w' hSw; go_simp; try with_reducible rfl
          simp only [List.getElem_toArray, List.getElem_cons_succ, List.getElem_cons_zero, Act.put, List.setIfInBounds_toArray, List.set_cons_zero, List.set_cons_succ]
          change wpAnyH _ _ _ _ _ 4 #[true, true, true, false, true, true, true, true, false, false, false] _ _
          refine wpAnyH_ready (rs := [3]) (by kernel_rfl) (by simp) ?_
          refine AllReadyH.cons rfl (fun K hK => ?_) AllReadyH.nil
          rw [if_pos (by rfl)]
          go_simp
          refine (ib_c p HPQ.out.1 WD).mono ?_
          rintro e wx ⟨rfl, rfl⟩
          refine hK.out _ _ (hS) (fun hSa => ?_)
          clear hK K
          simp only [List.getElem_toArray, List.getElem_cons_succ, List.getElem_cons_zero, Act.put, List.setIfInBounds_toArray, List.set_cons_zero, List.set_cons_succ]
          change wpAnyH _ _ _ _ _ 3 #[true, true, true, true, true, true, true, true, false, false, false] _ _
          refine wpAnyH_ready (rs := [8]) (by kernel_rfl) (by simp) ?_
          refine AllReadyH.cons rfl (fun K hK => ?_) AllReadyH.nil
          rw [if_pos (by rfl)]
          go_simp
          refine (ib_c q HPQ.out.2 WD).mono ?_
          rintro e wx ⟨rfl, rfl⟩
          refine hK.out _ _ (hSa) (fun hSb => ?_)
          clear hK K
          simp only [List.getElem_toArray, List.getElem_cons_succ, List.getElem_cons_zero, Act.put, List.setIfInBounds_toArray, List.set_cons_zero, List.set_cons_succ]
          change wpAnyH _ _ _ _ _ 2 #[true, true, true, true, true, true, true, true, true, false, false] _ _
          refine wpAnyH_take (i := 9) (v := ?_) rfl (by kernel_rfl) (by kernel_rfl) (by kernel_rfl) (fun _ _ _ h => h) (Or.inl ⟨by rfl, ?hy⟩) hSb ?_
          case hy => intro w' hSw; go_simp; try with_reducible rfl
          simp only [List.getElem_toArray, List.getElem_cons_succ, List.getElem_cons_zero, Act.put, List.setIfInBounds_toArray, List.set_cons_zero, List.set_cons_succ]
          change wpAnyH _ _ _ _ _ 1 #[true, true, true, true, true, true, true, true, true, true, false] _ _
          refine wpAnyH_take (i := 10) (v := ?_) rfl (by kernel_rfl) (by kernel_rfl) (by kernel_rfl) (fun _ _ _ h => h) (Or.inl ⟨by rfl, ?hy⟩) hSb ?_
          case hy => intro w' hSw; go_simp; try with_reducible rfl
          simp only [List.getElem_toArray, List.getElem_cons_succ, List.getElem_cons_zero, Act.put, List.setIfInBounds_toArray, List.set_cons_zero, List.set_cons_succ]
          change wpAnyH _ _ _ _ _ 0 #[true, true, true, true, true, true, true, true, true, true, true] _ _
          refine wpAnyH_done (by kernel_rfl) ?_ _
          have HO1 := Lib.hid (own_up hown.out hSb)
          have HE1 : Hid (Below w.heap.size w WD) := hbel.out.trans (hSb.mono hbel.out.size)
          clear hS hSa hSb hown hbel hpx
          cases hu : hexN p with
          | none =>
            have dn : dig none = -1 := rfl
            rw [dn]
            have HW : Hid (hexW x = none) := HWP.out.trans (HBAD.out (by exact Or.inl hu))
            have HR : Hid (hexR x = []) := by show _ = _; unfold hexR; rw [HW.out]; rfl
            go_wp2_with fail
            have hli : LineIs WD lb ws bad := HH.out.far (HE1.out.mono HLT.out)
            refine (fail_c lb ws bad WD hli).mono ?_
            rintro e w1 ⟨rfl, hl1, hs1⟩
            have HL1 := Lib.hid hl1
            have HS1 : Hid (Save lb lb w w1) := (Save.of_below HE1.out (Nat.le_of_lt HLT.out)).trans hs1
            clear hl1 hs1 hli
            go_wp2
            go_ret
            exact ⟨⟨_, rfl, by rw [HR.out]; exact slice_nil_own _ _⟩, by rw [HW.out]; cases bad <;> exact HL1.out, HS1.out⟩
          | some u =>
            have du : dig (some u) = (u : Int) := rfl
            have hneg : decide ((u : Int) < 0) = false := by simp
            rw [du]
            cases hv : hexN q with
            | none =>
              have dn : dig none = -1 := rfl
              rw [dn]
              have HW : Hid (hexW x = none) := HWP.out.trans (HBAD.out (by exact Or.inr hv))
              have HR : Hid (hexR x = []) := by show _ = _; unfold hexR; rw [HW.out]; rfl
              go_wp2_with fail
              have hli : LineIs WD lb ws bad := HH.out.far (HE1.out.mono HLT.out)
              refine (fail_c lb ws bad WD hli).mono ?_
              rintro e w1 ⟨rfl, hl1, hs1⟩
              have HL1 := Lib.hid hl1
              have HS1 : Hid (Save lb lb w w1) := (Save.of_below HE1.out (Nat.le_of_lt HLT.out)).trans hs1
              clear hl1 hs1 hli
              go_wp2
              go_ret
              exact ⟨⟨_, rfl, by rw [HR.out]; exact slice_nil_own _ _⟩, by rw [HW.out]; cases bad <;> exact HL1.out, HS1.out⟩
            | some v =>
              have dv : dig (some v) = (v : Int) := rfl
              have hnegv : decide ((v : Int) < 0) = false := by simp
              rw [dv]
              have hul := hexN_lt hu
              have hvl := hexN_lt hv
              obtain ⟨y, hy⟩ : ∃ y, y = 16 * u + v := ⟨_, rfl⟩
              have HY : Hid (y < 256) := by show _ < _; omega
              have HPX2 : Hid (hexP x = (hexP (x.drop i2)).map (fun r => (B ++ [y]) ++ r)) := by show _ = _; rw [hy]; exact HSTEP.out u v hu hv
              have eo : bits BinOp.or IntKind.i64 ((u : Int) * 16) (v : Int) = (y : Int) := by rw [hy, show ((u : Int) * 16) = ((16 * u : Nat) : Int) by omega]; exact or16 u hul v hvl
              have es : IntKind.i64.wrap ((u : Int) * 16) = (u : Int) * 16 := IntWalk.i64_in _ (by omega)
              have ey : IntKind.u8.wrap (y : Int) = (y : Int) := by rw [IntKind.wrap_u8]; omega
              have HBS : Hid (BytesAt (WD.alloc (.cells #[.int .u8 (y : Int)] 5)) (some ⟨WD.heap.size, 0, none⟩) 1 [y]) := bytesAt_block (l := [y]) (by simp; exact HY.out) (heap_new' _ _)
              have HOA : Hid ((WD.alloc (.cells #[.int .u8 (y : Int)] 5)).ownsRow w.heap.size 5 1 (.slice a m c) m (bA B).toList) := World.ownsRow.alloc HO1.out _
              have HEA : Hid (Below w.heap.size w (WD.alloc (.cells #[.int .u8 (y : Int)] 5))) := HE1.out.alloc HE1.out.size _
              have HML : Hid (m ≤ 999999) := by have := him.out; have := HNL.out; have := HI.out; show _ ≤ _; omega
              clear hy hul hvl hu hv
              go_wp2_with (first
                | (refine wpList_append_bytes (v := .slice a m c) (base := w.heap.size) (n := m) (m := 1) (l := [y]) rfl (.tmp 45) (.tmp 51) rfl rfl HOA.out rfl rfl HBS.out (fun h => by cases h) (by have := HML.out; omega) HEA.out.size ?_; intro v3 w3 hown3 hgr3; rw [bA_app] at hown3; have HO3 := Lib.hid hown3; have HE3 : Hid (Below w.heap.size w w3) := HEA.out.grown hgr3 HEA.out.size (fun q h => (HOA.out.lt q h).1); obtain ⟨a3, c3, hv3⟩ := own_slice hown3; subst hv3; clear hown3 hgr3)
                | fail)
              go_roundw
              case rel => exact ⟨i2, m + 1, by have := HI.out; omega, by first | rfl | go_num, by have := HI.out; have := him.out; show _ = _; omega, a3, c3, B ++ [y], rfl, HO3.out, HPX2.out, HE3.out⟩
              case measure => simp [intOf]; have := HI.out; omega
        · have hd : decide ((i : Int) < (n : Int)) = false := by simp; omega
          have dl : ¬ (i : Int) < (n : Int) := by omega
          have HX : Hid (hexW x = some B) := by
            show _ = _
            rw [HWP.out, hpx.out, List.drop_of_length_le (by rw [hlx]; omega)]
            show some (B ++ []) = some B
            rw [List.append_nil]
          have HR : Hid (hexR x = B) := by show _ = _; unfold hexR; rw [HX.out]; rfl
          have hBl : B.length = m := by have := hown.out.1; simpa [bA] using this
          have HBL := Lib.hid hBl
          clear hpx hBl hi
          go_wp2
          go_ret
          exact ⟨⟨_, rfl, by rw [HR.out, HBL.out]; exact hown.out⟩, by rw [HX.out]; cases bad <;> exact HH.out.far (hbel.out.mono HLT.out), Save.of_below hbel.out (Nat.le_of_lt HLT.out)⟩
end Go.Proofs.YteennbdakjjcfaaDoor
