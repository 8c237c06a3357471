/- The walk of LinesBlank. Printed by gen_lnlb.py. -/
import Derived.Test.YteennbdakjjcfaaDoorLnLR
set_option linter.unusedVariables false
set_option linter.unusedSimpArgs false
namespace Go.Proofs.YteennbdakjjcfaaDoor
open Go Go.RowKit Go.Lib
set_option maxRecDepth 100000 in
set_option maxHeartbeats 16000000 in
theorem walkLinesBlank (W : World) (a1 : Option Addr) (n1 c1 : Nat) (L1 : List AN) (h1 : ActsIn W a1 n1 c1 L1) (a2 : Option Addr) (n2 c2 : Nat) (z2 : List Int) (h2 : IsRow .i64 W a2 n2 c2 z2) :
    Calls Tryd.prog 4 #[.slice a1 n1 c1, .slice a2 n2 c2] W fun e W' => e = .returned (.bool true) ∧ Below W.heap.size W W' := by
  have HCUT := Lib.hid (lcuta_c 8 (by decide) a1 n1 c1 L1 W h1)
  have hn2 : n2 ≤ 9223372036854775807 := Nat.le_trans (row_cap h2).1 (row_cap h2).2
  have H2 := Lib.hid h2
  clear h1 h2
  go_enter Tryd.func4, Tryd.ntmps4
  go_wp2_with fail
  refine HCUT.out.mono ?_
  rintro e w1 ⟨⟨v, rfl, hacts⟩, hb1⟩
  obtain ⟨n, hn⟩ : ∃ n, n = (cutA 8 L1).length := ⟨_, rfl⟩
  obtain ⟨va, vc, hv⟩ := hacts.len
  rw [← hn] at hv
  subst hv
  have HN := Lib.hid hn
  have HN8 : Hid (n ≤ 8) := by show _ ≤ _; rw [hn]; unfold cutA; rw [List.length_map, List.length_take]; omega
  have HACT := Lib.hid hacts
  have HB1 := Lib.hid hb1
  clear hn hacts hb1 HCUT
  go_wp2
  go_loopw [5, 6, 16] (fun vo vs vi wr => ∃ (i : Nat) (S : List UInt8) (M : List AN), i ≤ n ∧ vi = .int .i64 (i : Int) ∧ vs = sV S ∧ Hid (ActsAt wr w1.heap.size 27 vo M) ∧ Hid (M.length ≤ i) ∧ Hid (Txt S M) ∧ Hid (S.length ≤ i * 10000) ∧ Hid (Below w1.heap.size w1 wr)) (fun _ _ vi _ => n - (intOf vi).toNat)
  case atStart => exact ⟨0, [], [], by omega, rfl, rfl, actsAt_nil _ _ _, Nat.le_refl _, txt_nil, Nat.zero_le _, Below.refl _ _⟩
  case round =>
    obtain ⟨i, S, M, hi, rfl, rfl, hacc, hml, htx, hsl, hbel⟩ := hrel
    obtain ⟨oa, oc, ho⟩ := hacc.out.len
    subst ho
    by_cases hlt : i < n
    · have hd : decide ((i : Int) < (n : Int)) = true := by simp; omega
      have dl : (i : Int) < (n : Int) := by omega
      have dk0 : ¬ (i : Int) < 0 := by omega
      obtain ⟨a, hx⟩ : ∃ x, (cutA 8 L1)[i]? = some x := ⟨_, List.getElem?_eq_getElem (by rw [← HN.out]; exact hlt)⟩
      obtain ⟨hi9, hxe⟩ := List.getElem?_eq_some_iff.1 hx
      obtain ⟨g1, cc, u1, hv1, hg1, _, hr1, hy1⟩ := HACT.out.get i hi9
      rw [hxe] at hr1 hy1
      injection hv1 with hv1 hx_ hy_
      clear hx_ hy_
      subst hv1
      have HBYT := Lib.hid hy1
      obtain ⟨ba, bc, hu, hB, hnil, _⟩ := hy1
      obtain ⟨un, hun⟩ : ∃ m, m = a.b.length := ⟨_, rfl⟩
      rw [← hun] at hu
      subst hu
      have HR1 : Hid (wr.rangeAt g1 (i * 7) (rowA (a, .slice ba un bc))) := range_up hr1 hbel.out hg1
      have HUN : Hid (a.b.length = un) := hun.symm
      have HBL : Hid (un ≤ 1030) := by
        show _ ≤ _
        rw [hun]
        have hmem := List.mem_of_getElem? hx
        unfold cutA at hmem
        rw [List.mem_map] at hmem
        obtain ⟨y, _, rfl⟩ := hmem
        show (y.b.take 1030).length ≤ _
        rw [List.length_take]; omega
      have ek : IntKind.i64.wrap ((i : Int) + 1) = (i : Int) + 1 := by have := HN8.out; exact IntWalk.i64_in _ (by omega)
      have HI := Lib.hid hlt
      have HNB : Hid (Byt w1 none a (.slice ba un bc)) := by
        obtain ⟨p1, p2, p3, p4, p5, p6⟩ := HBYT.out
        exact ⟨p1, p2, p3, p4, p5, fun _ _ _ _ _ h => by cases h⟩
      clear hx hi9 hxe hg1 hr1 hB hnil hun hi hlt HBYT
      go_upto_region 6 with (first
        | (refine wpList_load_mid rfl 27 (.tmp 19) rfl g1 (i * 7) rfl (rowA (a, .slice ba un bc)) _ HR1.out Tryd.underlying27 rfl (by rw [act27]; rfl) ?_)
        | (refine wpList_store_row rfl 27 (.tmp 8) (.tmp 20) rfl wr.heap.size (actA a (.slice ba un bc)) rfl rfl 27 _ (heap_new' _ _) (by rw [act27]; rfl) (by rfl) (actA_one _ _ _ _) ?_)
        | fail)
      have HC5 : Hid (((wr.alloc (.cells #[.int .i64 0, .bool false, .int .i64 0, .int .i64 0, .int .i64 0, .int .i64 0, .slice none 0 0] 27)).setRow wr.heap.size (actA a (.slice ba un bc))).heap[wr.heap.size]? = some (.cells (actA a (.slice ba un bc)) 27 (0, 0))) := setRow_heap _ _ _ _ _ _ (heap_new' _ _)
      have HB5 : Hid (Below wr.heap.size wr ((wr.alloc (.cells #[.int .i64 0, .bool false, .int .i64 0, .int .i64 0, .int .i64 0, .int .i64 0, .slice none 0 0] 27)).setRow wr.heap.size (actA a (.slice ba un bc)))) := below_setRow ((Below.refl _ _).alloc (Nat.le_refl _) _) (Nat.le_refl _) _
      generalize (wr.alloc (.cells #[.int .i64 0, .bool false, .int .i64 0, .int .i64 0, .int .i64 0, .int .i64 0, .slice none 0 0] 27)).setRow wr.heap.size (actA a (.slice ba un bc)) = w5 at *
      have HBF5 : Hid (Below w1.heap.size w1 w5) := hbel.out.trans (HB5.out.mono hbel.out.size)
      have HA5 : Hid (ActsAt w5 w1.heap.size 27 (.slice oa M.length oc) M) := hacc.out.up HB5.out
      have HOL : Hid (∀ k, (Value.slice oa M.length oc).ownBlock = some k → k < wr.heap.size) := fun k hk => by obtain ⟨xs, _, h6, _⟩ := hacc.out; exact (h6.lt k hk).2
      clear hbel HB5 HR1 hacc
      generalize wr.heap.size = ab at *
      simp only [Act.put]
      go_wp2_with (first
        | (refine wpList_load_row rfl 27 (.tmp 8) rfl ab rfl _ _ _ _ HC5.out Tryd.underlying27 rfl (by rw [act27]; rfl) ?_)
        | fail)
      refine (lmay_c a ba un bc HUN.out w5).mono ?_
      rintro e w6 ⟨rfl, hb6⟩
      have HC6 : Hid (w6.heap[ab]? = some (.cells (actA a (.slice ba un bc)) 27 (0, 0))) := (hb6.block _ (lt_of_block HC5.out)).trans HC5.out
      have HBF6 : Hid (Below w1.heap.size w1 w6) := HBF5.out.trans (hb6.mono HBF5.out.size)
      have HA6 : Hid (ActsAt w6 w1.heap.size 27 (.slice oa M.length oc) M) := HA5.out.up hb6
      obtain ⟨mb, hmb⟩ : ∃ b, b = mayL a := ⟨_, rfl⟩
      rw [← hmb]
      have HMB := Lib.hid hmb
      clear hmb hb6 HC5 HBF5 HA5
      cases mb with
      | false =>
        go_wp2
        go_roundw
        case rel => exact ⟨i + 1, S, M, by have := HI.out; omega, by go_num, rfl, HA6.out, by have := hml.out; show _ ≤ _; omega, htx.out, by have := hsl.out; show _ ≤ _; omega, HBF6.out⟩
        case measure => simp [intOf]; have := HI.out; omega
      | true =>
        go_upto_if 27 with fail
        go_cut [9] from 27 to 32 (fun vk wx => w6 = wx ∧ ∃ k : Nat, vk = .int .i64 (k : Int) ∧ k < 4)
        case first =>
          by_cases hw : i < n2
          · have dw : decide ((i : Int) < (n2 : Int)) = true := by simp; omega
            have iw : (i : Int) < (n2 : Int) := by omega
            rcases H2.out with ⟨_, h0, _⟩ | ⟨p, hp, hl2, _, hz2, hcz, _⟩
            · omega
            · subst hp
              have hci := hcz i (by omega)
              obtain ⟨zi, hzi⟩ : ∃ z, z = z2.getD i 0 := ⟨_, rfl⟩
              rw [← hzi] at hci
              have hci6 : w6.cell? (p.add i) = some (.int .i64 zi) := (HBF6.out.cell (p := p.add i) (Nat.lt_of_lt_of_le (cell_lt hci) HB1.out.size)).trans ((HB1.out.cell (p := p.add i) (cell_lt hci)).trans hci)
              clear hci hcz hzi hw
              obtain ⟨kq, hkq, hkl⟩ := and_three zi
              go_wp2_with fail
              go_meet
              exact ⟨rfl, kq, rfl, hkl⟩
          · have dw : decide ((i : Int) < (n2 : Int)) = false := by simp; omega
            have iw : ¬ (i : Int) < (n2 : Int) := by omega
            clear hw
            go_wp2_with fail
            go_meet
            exact ⟨rfl, 0, rfl, by omega⟩
        case rest =>
          obtain ⟨rfl, q, rfl, hq⟩ := hcut
          obtain ⟨m, hm⟩ : ∃ m, m = M.length := ⟨_, rfl⟩
          rw [← hm] at HA6 HOL
          rw [← hm]
          have HMI := Lib.hid hm
          clear hm
          have HA8 : Hid (ActsAt (w6.alloc (.cells (actA a (.slice ba un bc)) 27)) w1.heap.size 27 (.slice oa m oc) M) := HA6.out.up ((Below.refl _ _).alloc (Nat.le_refl _) _)
          have HBF8 : Hid (Below w1.heap.size w1 (w6.alloc (.cells (actA a (.slice ba un bc)) 27))) := HBF6.out.alloc HBF6.out.size _
          have HBX8 : Hid (Byt (w6.alloc (.cells (actA a (.slice ba un bc)) 27)) (Value.slice oa m oc).ownBlock a (.slice ba un bc)) := HNB.out.fresh HBF8.out (fun k hk => HA8.out.own k hk)
          have HC8 : Hid ((w6.alloc (.cells (actA a (.slice ba un bc)) 27)).heap[w6.heap.size]? = some (.cells (actA a (.slice ba un bc)) 27 (0, 0))) := heap_new' _ _
          have HC81 : Hid ((w6.alloc (.cells (actA a (.slice ba un bc)) 27)).heap[ab]? = some (.cells (actA a (.slice ba un bc)) 27 (0, 0))) := (heap_old' _ _ _ (lt_of_block HC6.out)).trans HC6.out
          go_upto_region 11 with (first
            | (refine wpList_load_row rfl 27 (.tmp 8) rfl ab rfl _ _ _ _ HC6.out Tryd.underlying27 rfl (by rw [act27]; rfl) ?_)
            | (refine wpList_build_act rfl 22 27 (.tmp 34) rfl Tryd.underlying22 ginfo (a := a) (u := .slice ba un bc) rfl ?_)
            | (refine wpList_append_act rfl 22 27 (.tmp 33) (.tmp 35) rfl Tryd.underlying22 ginfo (v := .slice oa m oc) (L := M) (base := w1.heap.size) (a := a) (u := .slice ba un bc) rfl HA8.out rfl HC8.out HBX8.out (by have := hml.out; have := HI.out; have := HN8.out; omega) HBF8.out.size ?_; intro v9 w9 hacts9 hgr9 hown9; have HA9 := Lib.hid hacts9; have HBF9 : Hid (Below w1.heap.size w1 w9) := HBF8.out.grown hgr9 HBF8.out.size (fun k hk => HA8.out.own k hk); have HC9 : Hid (w9.heap[ab]? = some (.cells (actA a (.slice ba un bc)) 27 (0, 0))) := (hgr9.block ab (lt_of_block HC81.out) (fun e => by have := HOL.out ab e.symm; omega)).trans HC81.out; clear hacts9 hgr9 hown9)
            | fail)
          clear HA8 HBF8 HBX8 HC8 HC81 HA6 HBF6 HC6 HOL HMI
          have HMAY := Lib.hid (mayL_num HMB.out.symm)
          obtain ⟨k, hk⟩ : ∃ k : Nat, a.kind = (k : Int) := ⟨a.kind.toNat, by have := HMAY.out.1; omega⟩
          have HAK := Lib.hid hk
          have HK20 : Hid (k < 20) := by have := HMAY.out.1; show _ < _; omega
          have HNUM := Lib.hid HMAY.out.2
          have HUL : Hid (un ≤ 100000) := by have := HBL.out; show _ ≤ _; omega
          have HY9 : Hid (BytesAt w9 ba bc a.b) := by
            obtain ⟨p1, p2, hpe, p4, _⟩ := HNB.out
            injection hpe with e1 _ e2
            subst e1 e2
            exact p4.up HBF9.out (Nat.le_refl _)
          have HBB : Hid (∀ x ∈ a.b, x < 256) := HY9.out.1
          have HTX : Hid (Txt (S ++ (preT q ++ lineA k a ++ midT q ++ [10] ++ posT q)) (M ++ [a])) := htx.out.app (txt_blank a k HK20.out hk HMB.out.symm HBB.out q hq)
          have HQ1 : Hid (tb1[q]? = some (sV (preT q))) := by rcases (by omega : q = 0 ∨ q = 1 ∨ q = 2 ∨ q = 3) with rfl | rfl | rfl | rfl <;> rfl
          have HQ9 : Hid (tb9[q]? = some (sV (midT q))) := by rcases (by omega : q = 0 ∨ q = 1 ∨ q = 2 ∨ q = 3) with rfl | rfl | rfl | rfl <;> rfl
          have HQ15 : Hid (tb15[q]? = some (sV (posT q))) := by rcases (by omega : q = 0 ∨ q = 1 ∨ q = 2 ∨ q = 3) with rfl | rfl | rfl | rfl <;> rfl
          have hle : (preT q).length ≤ 4 ∧ (midT q).length ≤ 4 ∧ (posT q).length ≤ 4 := by rcases (by omega : q = 0 ∨ q = 1 ∨ q = 2 ∨ q = 3) with rfl | rfl | rfl | rfl <;> decide
          have hll := line_len k a
          rw [HUN.out] at hll
          obtain ⟨P, hP⟩ : ∃ P, P = preT q := ⟨_, rfl⟩
          obtain ⟨Mi, hMi⟩ : ∃ P, P = midT q := ⟨_, rfl⟩
          obtain ⟨Po, hPo⟩ : ∃ P, P = posT q := ⟨_, rfl⟩
          obtain ⟨Y, hY⟩ : ∃ P, P = lineA k a := ⟨_, rfl⟩
          rw [← hP, ← hMi, ← hPo] at hle
          rw [← hP] at HQ1
          rw [← hMi] at HQ9
          rw [← hPo] at HQ15
          rw [← hP, ← hMi, ← hPo, ← hY] at HTX
          rw [← hY] at hll
          have HYE := Lib.hid hY
          have HSUM : Hid ((S ++ P ++ Y ++ Mi ++ [10] ++ Po).length ≤ (i + 1) * 10000) := by
            have := hsl.out
            have := HBL.out
            show _ ≤ _
            simp only [List.length_append, List.length_cons, List.length_nil]
            omega
          have HLEN : Hid (S.length + P.length + Y.length + Mi.length + 1 + Po.length ≤ 1000000) := by
            have := hsl.out
            have := HBL.out
            have := HI.out
            have := HN8.out
            show _ ≤ _
            omega
          have HTX2 : Hid (Txt (S ++ P ++ Y ++ Mi ++ [10] ++ Po) (M ++ [a])) := by
            have h := HTX.out
            rw [← List.append_assoc, ← List.append_assoc, ← List.append_assoc, ← List.append_assoc] at h
            exact h
          have dq0 : ¬ (q : Int) < 0 := by omega
          have dq4 : (q : Int) < 4 := by omega
          have HMN : Hid ((M ++ [a]).length ≤ i + 1) := by have := hml.out; show _ ≤ _; rw [List.length_append, List.length_singleton]; omega
          obtain ⟨M2, hM2⟩ : ∃ M2, M2 = M ++ [a] := ⟨_, rfl⟩
          rw [← hM2] at HA9 HTX2 HMN
          clear hk hle hll hP hMi hPo hY hq HTX hsl htx hml hM2
          obtain ⟨S2, hS2⟩ : ∃ S2, S2 = S ++ P ++ Y ++ Mi ++ [10] ++ Po := ⟨_, rfl⟩
          rw [← hS2] at HTX2 HSUM
          obtain ⟨U1, hU1⟩ : ∃ U, U = S ++ P := ⟨_, rfl⟩
          obtain ⟨U2, hU2⟩ : ∃ U, U = U1 ++ Y := ⟨_, rfl⟩
          obtain ⟨U3, hU3⟩ : ∃ U, U = U2 ++ Mi := ⟨_, rfl⟩
          obtain ⟨U4, hU4⟩ : ∃ U, U = U3 ++ [10] := ⟨_, rfl⟩
          have hS2' : S2 = U4 ++ Po := by rw [hS2, hU4, hU3, hU2, hU1]
          have hlm := HLEN.out
          have HU5 : Hid (U1 = S ++ P ∧ S.length + P.length ≤ 9223372036854775807) := ⟨hU1, by omega⟩
          have l1 : U1.length = S.length + P.length := by rw [hU1, List.length_append]
          have HU8 : Hid (U2 = U1 ++ Y ∧ U1.length + Y.length ≤ 9223372036854775807) := ⟨hU2, by omega⟩
          have l2 : U2.length = U1.length + Y.length := by rw [hU2, List.length_append]
          have HU13 : Hid (U3 = U2 ++ Mi ∧ U2.length + Mi.length ≤ 9223372036854775807) := ⟨hU3, by omega⟩
          have l3 : U3.length = U2.length + Mi.length := by rw [hU3, List.length_append]
          have HU14 : Hid (U4 = U3 ++ [10] ∧ U3.length + 1 ≤ 9223372036854775807) := ⟨hU4, by omega⟩
          have l4 : U4.length = U3.length + 1 := by rw [hU4, List.length_append]; rfl
          have HU19 : Hid (S2 = U4 ++ Po ∧ U4.length + Po.length ≤ 9223372036854775807) := ⟨hS2', by omega⟩
          have HQ4 : Hid (q < 4) := by show _ < _; omega
          clear hS2 hS2' hU1 hU2 hU3 hU4 l1 l2 l3 l4 hlm
          refine region_cut (region11 (F := ⟨HQ4.out, HK20.out, HAK.out, HUN.out, HUL.out, HNUM.out, HYE.out, HQ1.out, HQ9.out, HQ15.out, HU5.out, HU8.out, HU13.out, HU14.out, HU19.out⟩) HC9.out HY9.out) ?_
          rintro a9 w10 ⟨hb10, g1_, g9_, g15_, rfl⟩
          have HA10 : Hid (ActsAt w10 w1.heap.size 27 v9 M2) := HA9.out.up hb10
          have HB10 : Hid (Below w1.heap.size w1 w10) := HBF9.out.trans (hb10.mono HBF9.out.size)
          clear hb10
          go_wp2
          go_roundw
          case rel => exact ⟨i + 1, S2, M2, by have := HI.out; omega, by go_num, rfl, HA10.out, HMN.out, HTX2.out, HSUM.out, HB10.out⟩
          case measure => simp [intOf]; have := HI.out; omega
    · have hd : decide ((i : Int) < (n : Int)) = false := by simp; omega
      have dl : ¬ (i : Int) < (n : Int) := by omega
      have HSL : Hid (S.length ≤ 100000) := by have := hsl.out; have := HN8.out; show _ ≤ _; omega
      have HML : Hid (M.length ≤ 100) := by have := hml.out; have := HN8.out; show _ ≤ _; omega
      have HBW : Hid (Below W.heap.size W wr) := HB1.out.trans (hbel.out.mono HB1.out.size)
      have HL := Lib.hid (lparse_c S HSL.out wr)
      rw [htx.out.parse] at HL
      dsimp only at HL
      rw [show errOf 0 = 0 from rfl] at HL
      clear hsl hi hlt HACT HB1 H2 htx hml
      go_wp2_with fail
      refine HL.out.mono ?_
      rintro e w3 ⟨v1, rfl, hp1, hb3⟩
      have HP1 := Lib.hid hp1
      have HP2 : Hid (ActsAt w3 w1.heap.size 27 (.slice oa M.length oc) M) := hacc.out.up hb3
      have HB3 : Hid (Below W.heap.size W w3) := HBW.out.trans (hb3.mono HBW.out.size)
      clear hp1 hb3 HL hacc hbel
      obtain ⟨v2, hv2⟩ : ∃ v, v = Value.slice oa M.length oc := ⟨_, rfl⟩
      rw [← hv2] at HP2 ⊢
      clear hv2
      go_wp2_with fail
      refine (lplain_c M (by have := HML.out; omega) _ v1 w3 HP1.out).mono ?_
      rintro e w5 ⟨v5, rfl, ha5, hb5⟩
      have HA5 := Lib.hid ha5
      have HA25 : Hid (ActsAt w5 w1.heap.size 27 v2 M) := HP2.out.up hb5
      have HB5 : Hid (Below W.heap.size W w5) := HB3.out.trans (hb5.mono HB3.out.size)
      clear ha5 hb5
      go_wp2_with fail
      refine (lall_c M (by have := HML.out; omega) _ _ v5 v2 w5 HA5.out HA25.out).mono ?_
      rintro e w6 ⟨rfl, hb6⟩
      have HB6 : Hid (Below W.heap.size W w6) := HB5.out.trans (hb6.mono HB5.out.size)
      clear hb6
      go_wp2_with fail
      refine (lawake_c w6).mono ?_
      rintro e w7 ⟨rfl, hb7⟩
      have HB7 : Hid (Below W.heap.size W w7) := HB6.out.trans (hb7.mono HB6.out.size)
      clear hb7
      go_wp2
      go_ret
      exact ⟨rfl, HB7.out⟩
end Go.Proofs.YteennbdakjjcfaaDoor
