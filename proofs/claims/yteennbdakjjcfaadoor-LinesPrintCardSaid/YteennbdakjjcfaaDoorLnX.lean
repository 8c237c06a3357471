/- The law's Cut, and awake. Printed by gen_lnx.py. -/
import Derived.Test.YteennbdakjjcfaaDoorLnOpen
set_option linter.unusedVariables false
set_option linter.unusedSimpArgs false
namespace Go.Proofs.YteennbdakjjcfaaDoor
open Go Go.RowKit Go.Lib
def cutB (a : AN) : AN := { a with b := a.b.take 1030 }
def cutA (most : Nat) (L : List AN) : List AN := (L.take most).map cutB
theorem cut_succ {L : List AN} {i most : Nat} {a : AN} (hx : L[i]? = some a) (hm : i < most) : cutA most (L.take (i + 1)) = cutA most (L.take i) ++ [cutB a] := by
  obtain ⟨hi, rfl⟩ := List.getElem?_eq_some_iff.1 hx
  unfold cutA
  rw [List.take_take, List.take_take, Nat.min_eq_right (by omega), Nat.min_eq_right (by omega), List.take_succ_eq_append_getElem hi, List.map_append]
  rfl
theorem cut_le (L : List AN) (i most : Nat) : (cutA most (L.take i)).length ≤ i ∧ (cutA most (L.take i)).length ≤ most := by
  unfold cutA
  rw [List.length_map, List.length_take, List.length_take]
  omega
set_option maxRecDepth 100000 in
set_option maxHeartbeats 8000000 in
theorem lcuta_c (most : Nat) (hmost : most ≤ 100) (s1 : Option Addr) (n d1 : Nat) (L : List AN) (w : World) (h1 : ActsIn w s1 n d1 L) :
    Calls Tryd.prog 6 #[.slice s1 n d1, .int .i64 (most : Int)] w fun e w' => (∃ v, e = .returned v ∧ ActsAt w' w.heap.size 27 v (cutA most L)) ∧ Below w.heap.size w w' := by
  obtain ⟨hn, hcap, hmax, hget⟩ := h1
  have HGET := Lib.hid hget
  have HMO := Lib.hid hmost
  have HNE := Lib.hid hn
  clear hget hmost hn
  unfold maxLen at hmax
  have hn63 : n ≤ 9223372036854775807 := by omega
  clear hcap hmax
  go_enter Tryd.func6, Tryd.ntmps6
  go_wp2
  go_loopw [5, 10] (fun vo vi wr => ∃ i : Nat, i ≤ n ∧ i ≤ most ∧ vi = .int .i64 (i : Int) ∧ Hid (ActsAt wr w.heap.size 27 vo (cutA most (L.take i))) ∧ Hid (Below w.heap.size w wr)) (fun _ vi _ => n - (intOf vi).toNat)
  case atStart => exact ⟨0, Nat.zero_le _, Nat.zero_le _, rfl, by rw [List.take_zero, show cutA most [] = [] by unfold cutA; simp]; exact actsAt_nil _ _ _, Below.refl _ _⟩
  case round =>
    obtain ⟨i, hi, him, rfl, hacts, hbel⟩ := hrel
    obtain ⟨oa, oc, ho⟩ := hacts.out.len
    subst ho
    by_cases hlt : i < n
    · have hd : decide ((i : Int) < (n : Int)) = true := by simp; omega
      have dl : (i : Int) < (n : Int) := by omega
      have dk0 : ¬ (i : Int) < 0 := by omega
      obtain ⟨a, hx⟩ : ∃ x, L[i]? = some x := ⟨_, List.getElem?_eq_getElem (by rw [HNE.out]; exact hlt)⟩
      obtain ⟨g1, o1, va, vc, hs1, hg1, hr1, hy1, hlc, hcm, hnil⟩ := HGET.out i a hx
      obtain ⟨un, hun⟩ : ∃ m, m = a.b.length := ⟨_, rfl⟩
      rw [← hun] at hr1 hlc
      subst hs1
      have HR1 : Hid (wr.rangeAt g1 (o1 + i * 7) (rowA (a, .slice va un vc))) := range_up hr1 hbel.out hg1
      have ek : IntKind.i64.wrap ((i : Int) + 1) = (i : Int) + 1 := by have := HMO.out; exact IntWalk.i64_in _ (by omega)
      have HI := Lib.hid hlt
      have HUN := Lib.hid hun
      have HY := Lib.hid hy1
      have HNI := Lib.hid hnil
      have HCAP : Hid (un ≤ vc ∧ vc ≤ maxLen) := ⟨hlc, hcm⟩
      have HX := Lib.hid hx
      clear hr1 hy1 hnil hun hx hg1 hi hlt hlc hcm
      go_upto_region 5 with (first
        | (refine wpList_load_mid rfl 27 (.tmp 13) rfl g1 (o1 + i * 7) rfl (rowA (a, .slice va un vc)) _ HR1.out Tryd.underlying27 rfl (by rw [act27]; rfl) ?_)
        | (refine wpList_store_row rfl 27 (.tmp 7) (.tmp 14) rfl wr.heap.size (actA a (.slice va un vc)) rfl rfl 27 _ (heap_new' _ _) (by rw [act27]; rfl) (by rfl) (actA_one _ _ _ _) ?_)
        | fail)
      have HC5 : Hid (((wr.alloc (.cells #[.int .i64 0, .bool false, .int .i64 0, .int .i64 0, .int .i64 0, .int .i64 0, .slice none 0 0] 27)).setRow wr.heap.size (actA a (.slice va un vc))).heap[wr.heap.size]? = some (.cells (actA a (.slice va un vc)) 27 (0, 0))) := setRow_heap _ _ _ _ _ _ (heap_new' _ _)
      have HB5 : Hid (Below wr.heap.size wr ((wr.alloc (.cells #[.int .i64 0, .bool false, .int .i64 0, .int .i64 0, .int .i64 0, .int .i64 0, .slice none 0 0] 27)).setRow wr.heap.size (actA a (.slice va un vc)))) := below_setRow ((Below.refl _ _).alloc (Nat.le_refl _) _) (Nat.le_refl _) _
      generalize (wr.alloc (.cells #[.int .i64 0, .bool false, .int .i64 0, .int .i64 0, .int .i64 0, .int .i64 0, .slice none 0 0] 27)).setRow wr.heap.size (actA a (.slice va un vc)) = w5 at *
      have HBF5 : Hid (Below w.heap.size w w5) := hbel.out.trans (HB5.out.mono hbel.out.size)
      have HUP : Hid (∀ w', Below wr.heap.size wr w' → ActsAt w' w.heap.size 27 (.slice oa (cutA most (L.take i)).length oc) (cutA most (L.take i))) := fun w' h => hacts.out.up h
      have HA50 : Hid (ActsAt w5 w.heap.size 27 (.slice oa (cutA most (L.take i)).length oc) (cutA most (L.take i))) := hacts.out.up HB5.out
      obtain ⟨m, hm⟩ : ∃ m, m = (cutA most (L.take i)).length := ⟨_, rfl⟩
      have HMI : Hid ((cutA most (L.take i)).length = m ∧ m ≤ most) := ⟨hm.symm, by rw [hm]; exact (cut_le L i most).2⟩
      rw [← hm] at HA50 HUP
      rw [← hm]
      have HABW : Hid (w.heap.size ≤ wr.heap.size) := hbel.out.size
      clear hm hacts hbel HR1
      generalize wr.heap.size = ab at *
      have c6 := (cells_at HC5.out 6).trans (show _ = some (Value.slice va un vc) from rfl)
      by_cases hmm : i < most
      · have dm : decide ((i : Int) ≥ (most : Int)) = false := by simp; omega
        have im : ¬ (most : Int) ≤ (i : Int) := by omega
        have HTK : Hid (cutA most (L.take (i + 1)) = cutA most (L.take i) ++ [cutB a]) := cut_succ HX.out hmm
        have HIM := Lib.hid hmm
        clear hmm him
        by_cases h1030 : un > 1030
        · have d9 : decide ((un : Int) > 1030) = true := by simp; omega
          have i9 : (1030 : Int) < (un : Int) := by omega
          have HLC : Hid ((cutB a).b.length = 1030) := by show (a.b.take 1030).length = _; rw [List.length_take]; have := HUN.out; omega
          have HBYC : Hid (Byt w none (cutB a) (.slice va 1030 vc)) := ⟨va, vc, by rw [HLC.out], bytes_takeM HY.out 1030, HNI.out, fun _ _ _ _ _ h => by cases h⟩
          obtain ⟨gv, ov, hva⟩ : ∃ g o, va = some ⟨g, o, none⟩ := by
            obtain ⟨g, o, h, _⟩ := HY.out.2 (by have := HUN.out; omega)
            exact ⟨g, o, h⟩
          subst hva
          have s1 : (1030 : Int) ≤ (vc : Int) := by have := HCAP.out; omega
          have fz := free_at HC5.out 6
          have HC7 : Hid ((w5.setCell ⟨ab, 6, none⟩ (.slice (some ⟨gv, ov, none⟩) 1030 vc)).heap[ab]? = some (.cells (actA (cutB a) (.slice (some ⟨gv, ov, none⟩) 1030 vc)) 27 (0, 0))) := by show _ = _; rw [block_at HC5.out 6]; simp [actA, cutB]
          have HBF7 : Hid (Below w.heap.size w (w5.setCell ⟨ab, 6, none⟩ (.slice (some ⟨gv, ov, none⟩) 1030 vc))) := HBF5.out.setCell HABW.out _
          have HA70 : Hid (ActsAt (w5.setCell ⟨ab, 6, none⟩ (.slice (some ⟨gv, ov, none⟩) 1030 vc)) w.heap.size 27 (.slice oa m oc) (cutA most (L.take i))) := HUP.out _ (HB5.out.setCell (Nat.le_refl _) _)
          clear h1030
          go_upto_region 8 with fail
          generalize w5.setCell ⟨ab, 6, none⟩ (.slice (some ⟨gv, ov, none⟩) 1030 vc) = w7 at *
          clear HA50 HBF5 HC5 HB5 c6 fz
          have HA5 : Hid (ActsAt w7 w.heap.size 27 (.slice oa m oc) (cutA most (L.take i))) := HA70.out
          have HA6 : Hid (ActsAt (w7.alloc (.cells (actA (cutB a) (.slice (some ⟨gv, ov, none⟩) 1030 vc)) 27)) w.heap.size 27 (.slice oa m oc) (cutA most (L.take i))) := HA5.out.up ((Below.refl _ _).alloc (Nat.le_refl _) _)
          have HBF6 : Hid (Below w.heap.size w (w7.alloc (.cells (actA (cutB a) (.slice (some ⟨gv, ov, none⟩) 1030 vc)) 27))) := HBF7.out.alloc HBF7.out.size _
          have HBX6 : Hid (Byt (w7.alloc (.cells (actA (cutB a) (.slice (some ⟨gv, ov, none⟩) 1030 vc)) 27)) (Value.slice oa m oc).ownBlock (cutB a) (.slice (some ⟨gv, ov, none⟩) 1030 vc)) := HBYC.out.fresh HBF6.out (fun k hk => HA6.out.own k hk)
          have HC6 : Hid ((w7.alloc (.cells (actA (cutB a) (.slice (some ⟨gv, ov, none⟩) 1030 vc)) 27)).heap[w7.heap.size]? = some (.cells (actA (cutB a) (.slice (some ⟨gv, ov, none⟩) 1030 vc)) 27 (0, 0))) := heap_new' _ _
          go_wp2_with (first
            | (refine wpList_load_row rfl 27 (.tmp 7) rfl ab rfl _ _ _ _ HC7.out Tryd.underlying27 rfl (by rw [act27]; rfl) ?_)
            | (refine wpList_build_act rfl 22 27 (.tmp 27) rfl Tryd.underlying22 ginfo (a := (cutB a)) (u := .slice (some ⟨gv, ov, none⟩) 1030 vc) rfl ?_)
            | (refine wpList_append_act rfl 22 27 (.tmp 26) (.tmp 28) rfl Tryd.underlying22 ginfo (v := .slice oa m oc) (L := cutA most (L.take i)) (base := w.heap.size) (a := (cutB a)) (u := .slice (some ⟨gv, ov, none⟩) 1030 vc) rfl HA6.out rfl HC6.out HBX6.out (by have := HMI.out; have := HMO.out; omega) HBF6.out.size ?_; intro v6 w6 hacts6 hgr6 hown6; have HA9 := Lib.hid hacts6; have HBF9 : Hid (Below w.heap.size w w6) := HBF6.out.grown hgr6 HBF6.out.size (fun k hk => HA6.out.own k hk); clear hacts6 hgr6 hown6)
            | fail)
          go_roundw
          case rel => exact ⟨i + 1, by have := HI.out; omega, by have := HIM.out; omega, by go_num, by rw [HTK.out]; exact HA9.out, HBF9.out⟩
          case measure => simp [intOf]; have := HI.out; omega
        · have d9 : decide ((un : Int) > 1030) = false := by simp; omega
          have i9 : ¬ (1030 : Int) < (un : Int) := by omega
          have HEQ : Hid (cutB a = a) := by
            show _ = _
            unfold cutB
            rw [List.take_of_length_le (by have := HUN.out; omega)]
          have HBYC : Hid (Byt w none a (.slice va un vc)) := ⟨va, vc, by rw [HUN.out], HY.out, HNI.out, fun _ _ _ _ _ h => by cases h⟩
          rw [HEQ.out] at HTK
          clear h1030
          have HA5 : Hid (ActsAt w5 w.heap.size 27 (.slice oa m oc) (cutA most (L.take i))) := HA50.out
          have HA6 : Hid (ActsAt (w5.alloc (.cells (actA a (.slice va un vc)) 27)) w.heap.size 27 (.slice oa m oc) (cutA most (L.take i))) := HA5.out.up ((Below.refl _ _).alloc (Nat.le_refl _) _)
          have HBF6 : Hid (Below w.heap.size w (w5.alloc (.cells (actA a (.slice va un vc)) 27))) := HBF5.out.alloc HBF5.out.size _
          have HBX6 : Hid (Byt (w5.alloc (.cells (actA a (.slice va un vc)) 27)) (Value.slice oa m oc).ownBlock a (.slice va un vc)) := HBYC.out.fresh HBF6.out (fun k hk => HA6.out.own k hk)
          have HC6 : Hid ((w5.alloc (.cells (actA a (.slice va un vc)) 27)).heap[w5.heap.size]? = some (.cells (actA a (.slice va un vc)) 27 (0, 0))) := heap_new' _ _
          go_wp2_with (first
            | (refine wpList_load_row rfl 27 (.tmp 7) rfl ab rfl _ _ _ _ HC5.out Tryd.underlying27 rfl (by rw [act27]; rfl) ?_)
            | (refine wpList_build_act rfl 22 27 (.tmp 27) rfl Tryd.underlying22 ginfo (a := a) (u := .slice va un vc) rfl ?_)
            | (refine wpList_append_act rfl 22 27 (.tmp 26) (.tmp 28) rfl Tryd.underlying22 ginfo (v := .slice oa m oc) (L := cutA most (L.take i)) (base := w.heap.size) (a := a) (u := .slice va un vc) rfl HA6.out rfl HC6.out HBX6.out (by have := HMI.out; have := HMO.out; omega) HBF6.out.size ?_; intro v6 w6 hacts6 hgr6 hown6; have HA9 := Lib.hid hacts6; have HBF9 : Hid (Below w.heap.size w w6) := HBF6.out.grown hgr6 HBF6.out.size (fun k hk => HA6.out.own k hk); clear hacts6 hgr6 hown6)
            | fail)
          go_roundw
          case rel => exact ⟨i + 1, by have := HI.out; omega, by have := HIM.out; omega, by go_num, by rw [HTK.out]; exact HA9.out, HBF9.out⟩
          case measure => simp [intOf]; have := HI.out; omega
      · have dm : decide ((i : Int) ≥ (most : Int)) = true := by simp; omega
        have im : (most : Int) ≤ (i : Int) := by omega
        have htk : cutA most (L.take i) = cutA most L := by
          unfold cutA
          rw [List.take_take, Nat.min_eq_left (by omega)]
        rw [htk] at HA50
        clear htk hmm him
        go_wp2
        go_ret
        exact ⟨⟨_, rfl, HA50.out⟩, HBF5.out⟩
    · have hd : decide ((i : Int) < (n : Int)) = false := by simp; omega
      have dl : ¬ (i : Int) < (n : Int) := by omega
      have htk : cutA most (L.take i) = cutA most L := by rw [List.take_of_length_le (by rw [HNE.out]; omega)]
      rw [htk] at hacts
      rw [htk]
      obtain ⟨m, hm⟩ : ∃ m, m = (cutA most L).length := ⟨_, rfl⟩
      rw [← hm] at hacts
      rw [← hm]
      clear htk hm
      go_wp2
      go_ret
      exact ⟨⟨_, rfl, hacts.out⟩, hbel.out⟩
def awS : List UInt8 := [111, 112, 101, 110, 32, 119, 114, 105, 116, 101, 32, 35, 32, 103, 111, 10, 119, 114, 105, 116, 101, 32, 48, 32, 51, 32, 54, 56, 54, 57]
def awA1 : AN := ⟨1, true, 0, 0, 0, 0, []⟩
def awA2 : AN := ⟨9, false, 0, 0, 0, 3, [104, 105]⟩
theorem awake_parse : parsN awS = ([awA1, awA2], 0) := by kernel_rfl
set_option maxRecDepth 100000 in
set_option maxHeartbeats 4000000 in
theorem lawake_c (w : World) : Calls Tryd.prog 11 #[] w fun e w' => e = .returned (.bool true) ∧ Below w.heap.size w w' := by
  have HP := Lib.hid (lparse_c awS (by decide) w)
  rw [awake_parse] at HP
  go_enter Tryd.func11, Tryd.ntmps11
  go_wp2_with fail
  refine HP.out.mono ?_
  rintro e w1 ⟨v, rfl, hacts, hbel⟩
  have HB1 := Lib.hid hbel
  obtain ⟨g, c, u1, hv, hg, _, hr1, hy1⟩ := hacts.get 0 (by decide)
  obtain ⟨g2, c2, u2, hv2, _, _, hr2, hy2⟩ := hacts.get 1 (by decide)
  rw [hv] at hv2
  injection hv2 with hv2 _ _
  injection hv2 with hv2
  injection hv2 with hv2 _ _
  subst hv2
  subst hv
  have c0 := hr1 0 _ (show _ = some (Value.int .i64 1) from rfl)
  have c1 := hr1 1 _ (show _ = some (Value.bool true) from rfl)
  have c5 := hr2 5 _ (show _ = some (Value.int .i64 3) from rfl)
  have c6 := hr2 6 _ (show _ = some u2 from rfl)
  obtain ⟨va, vc, rfl, hB, hnil, _⟩ := hy2
  have HY := Lib.hid hB
  clear hacts hbel hr1 hr2 hy1 hB hnil HP hg
  change World.cell? w1 ⟨g, 0, none⟩ = _ at c0
  change World.cell? w1 ⟨g, 1, none⟩ = _ at c1
  change World.cell? w1 ⟨g, 12, none⟩ = _ at c5
  change World.cell? w1 ⟨g, 13, none⟩ = some (.slice va 2 vc) at c6
  go_wp2_with (first
    | (refine wpList_conv_g (by rfl) (.tmp 44) (l := [104, 105]) rfl HY.out rfl rfl ?_)
    | (refine wpList_eqs1_g (by rfl) (.tmp 45) (.const (.string ⟨#[104, 105]⟩)) 9 [104, 105] HY.out.1 rfl rfl rfl ?_)
    | fail)
  go_ret
  exact ⟨rfl, HB1.out⟩
end Go.Proofs.YteennbdakjjcfaaDoor
