/- The walk of LinesParse. Printed by gen_lnlp.py. -/
import Derived.Test.YteennbdakjjcfaaDoorLnX
set_option linter.unusedVariables false
set_option linter.unusedSimpArgs false
namespace Go.Proofs.YteennbdakjjcfaaDoor
open Go Go.RowKit Go.Lib
theorem run_slice_sVh {P : Program} (w : World) (t : TypeId) (l : List UInt8) (j : Nat) (h : P.underlying t = some .string) (hj : j ≤ l.length) :
    (Instr.slice t (sV l) none (some (.int .i64 (j : Int))) none).run P w = .ok (sV (l.take j)) w := by
  unfold sV
  rw [run_slice_string_h (ht := h) (h0 := by omega) (h2 := by rw [size_sV]; omega), Int.toNat_natCast, ByteArray.extract_mk]
  simp
theorem parsK_bad : ∀ (ls : List (List UInt8)) (k : Nat) (acc : List AN), 1 ≤ k → (parsK ls k acc).2 = 0 ∨ (parsK ls k acc).1 = []
  | [], k, acc, hk => Or.inl rfl
  | l :: ls, k, acc, hk => by
    by_cases h : wordsL l = []
    · rw [parsK_skip h]; exact parsK_bad ls (k + 1) acc (by omega)
    · cases ha : actN (wordsL l) with
      | none => rw [parsK_none h ha]; exact Or.inr rfl
      | some a => rw [parsK_some h ha]; exact parsK_bad ls (k + 1) _ (by omega)
theorem parsK_len : ∀ (ls : List (List UInt8)) (k : Nat) (acc : List AN), (parsK ls k acc).1.length ≤ acc.length + ls.length
  | [], k, acc => by unfold parsK; simp
  | l :: ls, k, acc => by
    by_cases h : wordsL l = []
    · rw [parsK_skip h]; have := parsK_len ls (k + 1) acc; simp; omega
    · cases ha : actN (wordsL l) with
      | none => rw [parsK_none h ha]; simp
      | some a => rw [parsK_some h ha]; have := parsK_len ls (k + 1) (acc ++ [a]); simp at this ⊢; omega
theorem parsN_len (s : List UInt8) : (parsN s).1.length ≤ s.length + 1 := by
  have h1 := parsK_len (linesL s) 1 []
  have h2 := linesL_len s
  have h3 : s.count 10 ≤ s.length := List.count_le_length
  unfold parsN
  simp at h1
  omega
theorem line_len (k : Nat) (a : AN) : (lineA k a).length ≤ 25 + 6 * a.b.length := by
  have h1 := name_len k
  have h2 := lineF_len a (orderK k)
  have h3 := order_len k
  have h4 : (orderK k).length * (6 + 2 * a.b.length) ≤ 3 * (6 + 2 * a.b.length) := Nat.mul_le_mul_right _ h3
  unfold lineA
  rw [List.length_append]
  omega
theorem mayL_num {a : AN} (h : mayL a = true) : (0 ≤ a.kind ∧ a.kind ≤ 19) ∧ ((0 ≤ a.which ∧ a.which ≤ 65535) ∧ (0 ≤ a.k ∧ a.k ≤ 65535) ∧ (0 ≤ a.n ∧ a.n ≤ 65535) ∧ (0 ≤ a.at_ ∧ a.at_ ≤ 65535)) := by
  unfold mayL mayA at h
  simp only [Bool.and_eq_true, decide_eq_true_eq] at h
  obtain ⟨⟨hk, _, hm⟩, _⟩ := h
  rw [may_lack _ _ _ rfl] at hm
  simp only [Bool.and_eq_true] at hm
  unfold numIn at hm
  simp only [decide_eq_true_eq] at hm
  exact ⟨hk, hm.1, hm.2.1, hm.2.2.1, hm.2.2.2.1⟩
set_option maxRecDepth 100000 in
set_option maxHeartbeats 16000000 in
theorem walkLinesParse (W : World) (s0 : ByteArray) (hs0 : s0.size ≤ maxLen) (a1 : Option Addr) (n1 c1 : Nat) (L1 : List AN) (h1 : ActsIn W a1 n1 c1 L1) (a2 : Option Addr) (n2 c2 : Nat) (L2 : List (List UInt8)) (h2 : StrsIn W a2 n2 c2 L2) :
    Calls Tryd.prog 3 #[.string s0, .slice a1 n1 c1, .slice a2 n2 c2] W fun e W' => e = .returned (.bool true) ∧ Below W.heap.size W W' := by
  rw [sV_eq]
  obtain ⟨s, hs⟩ : ∃ s, s = s0.data.toList := ⟨_, rfl⟩
  obtain ⟨m, hm⟩ : ∃ m, m = s.length := ⟨_, rfl⟩
  have hlx : s.length = m := hm.symm
  rw [← hs]
  have HCUT := Lib.hid (lcuta_c 6 (by decide) a1 n1 c1 L1 W h1)
  have H2 := Lib.hid h2
  have hn2 : n2 ≤ 9223372036854775807 := by have := h2.2.1; have := h2.2.2.1; unfold maxLen at *; omega
  have HM := Lib.hid hm
  clear hs hm h1 h2 hs0
  go_enter Tryd.func3, Tryd.ntmps3
  go_upto_if 16 with fail
  go_cut [0] from 16 to 18 (fun vs wx => W = wx ∧ ∃ S : List UInt8, vs = sV S ∧ S.length ≤ 400)
  case first =>
    by_cases h400 : m > 400
    · have d4 : decide ((m : Int) > 400) = true := by simp; omega
      have i4 : (400 : Int) < (m : Int) := by omega
      have hsl : ∀ w : World, (Instr.slice 9 (sV s) none (some (.int .i64 400)) none).run Tryd.prog w = .ok (sV (s.take 400)) w := fun w => run_slice_sVh (P := Tryd.prog) w 9 s 400 Tryd.underlying9 (by rw [hlx]; omega)
      have HT : Hid ((s.take 400).length ≤ 400) := by show _ ≤ _; rw [List.length_take]; omega
      obtain ⟨Y, hY⟩ : ∃ Y, Y = s.take 400 := ⟨_, rfl⟩
      rw [← hY] at hsl HT
      clear hY
      go_wp2_with fail
      go_meet
      exact ⟨rfl, Y, rfl, HT.out⟩
    · have d4 : decide ((m : Int) > 400) = false := by simp; omega
      have i4 : ¬ (400 : Int) < (m : Int) := by omega
      go_wp2_with fail
      go_meet
      exact ⟨rfl, s, rfl, by omega⟩
  case rest =>
    obtain ⟨rfl, S, rfl, hS⟩ := hcut
    have HS := Lib.hid hS
    clear hS hlx HM
    go_wp2_with fail
    refine HCUT.out.mono ?_
    rintro e w1 ⟨⟨v, rfl, hacts⟩, hb1⟩
    obtain ⟨n, hn⟩ : ∃ n, n = (cutA 6 L1).length := ⟨_, rfl⟩
    obtain ⟨va, vc, hv⟩ := hacts.len
    rw [← hn] at hv
    subst hv
    have HN := Lib.hid hn
    have HN6 : Hid (n ≤ 6) := by show _ ≤ _; rw [hn]; unfold cutA; rw [List.length_map, List.length_take]; omega
    have HACT := Lib.hid hacts
    have HB1 := Lib.hid hb1
    clear hn hacts hb1 HCUT
    go_wp2
    go_loopw [0, 22] (fun vs vi wr => ∃ (i : Nat) (S : List UInt8), i ≤ n ∧ vi = .int .i64 (i : Int) ∧ vs = sV S ∧ Hid (S.length ≤ 400 + i * 1000) ∧ Hid (Below w1.heap.size w1 wr)) (fun _ vi _ => n - (intOf vi).toNat)
    case atStart => exact ⟨0, S, by omega, rfl, rfl, by have := HS.out; show _ ≤ _; omega, Below.refl _ _⟩
    case round =>
      clear HS
      obtain ⟨i, S, hi, rfl, rfl, hsl, hbel⟩ := hrel
      by_cases hlt : i < n
      · have hd : decide ((i : Int) < (n : Int)) = true := by simp; omega
        have dl : (i : Int) < (n : Int) := by omega
        have dk0 : ¬ (i : Int) < 0 := by omega
        obtain ⟨a, hx⟩ : ∃ x, (cutA 6 L1)[i]? = some x := ⟨_, List.getElem?_eq_getElem (by rw [← HN.out]; exact hlt)⟩
        obtain ⟨hi9, hxe⟩ := List.getElem?_eq_some_iff.1 hx
        obtain ⟨g1, cc, u1, hv1, hg1, _, hr1, hy1⟩ := HACT.out.get i hi9
        rw [hxe] at hr1 hy1
        injection hv1 with hv1 hx_ hy_
        clear hx_ hy_
        subst hv1
        obtain ⟨ba, bc, hu, hB, hnil, _⟩ := hy1
        obtain ⟨un, hun⟩ : ∃ m, m = a.b.length := ⟨_, rfl⟩
        rw [← hun] at hu
        subst hu
        have HR1 : Hid (wr.rangeAt g1 (i * 7) (rowA (a, .slice ba un bc))) := range_up hr1 hbel.out hg1
        have HBY : Hid (BytesAt wr ba bc a.b) := hB.up hbel.out (Nat.le_refl _)
        have HUN : Hid (a.b.length = un) := hun.symm
        have ek : IntKind.i64.wrap ((i : Int) + 1) = (i : Int) + 1 := by have := HN6.out; exact IntWalk.i64_in _ (by omega)
        have HI := Lib.hid hlt
        clear hx hi9 hxe hg1 hr1 hB hnil hun hi hlt
        go_upto_region 6 with (first
          | (refine wpList_load_mid rfl 27 (.tmp 25) rfl g1 (i * 7) rfl (rowA (a, .slice ba un bc)) _ HR1.out Tryd.underlying27 rfl (by rw [act27]; rfl) ?_)
          | (refine wpList_store_row rfl 27 (.tmp 8) (.tmp 26) rfl wr.heap.size (actA a (.slice ba un bc)) rfl rfl 27 _ (heap_new' _ _) (by rw [act27]; rfl) (by rfl) (actA_one _ _ _ _) ?_)
          | fail)
        have HC5 : Hid (((wr.alloc (.cells #[.int .i64 0, .bool false, .int .i64 0, .int .i64 0, .int .i64 0, .int .i64 0, .slice none 0 0] 27)).setRow wr.heap.size (actA a (.slice ba un bc))).heap[wr.heap.size]? = some (.cells (actA a (.slice ba un bc)) 27 (0, 0))) := setRow_heap _ _ _ _ _ _ (heap_new' _ _)
        have HB5 : Hid (Below wr.heap.size wr ((wr.alloc (.cells #[.int .i64 0, .bool false, .int .i64 0, .int .i64 0, .int .i64 0, .int .i64 0, .slice none 0 0] 27)).setRow wr.heap.size (actA a (.slice ba un bc)))) := below_setRow ((Below.refl _ _).alloc (Nat.le_refl _) _) (Nat.le_refl _) _
        generalize (wr.alloc (.cells #[.int .i64 0, .bool false, .int .i64 0, .int .i64 0, .int .i64 0, .int .i64 0, .slice none 0 0] 27)).setRow wr.heap.size (actA a (.slice ba un bc)) = w5 at *
        have HBF5 : Hid (Below w1.heap.size w1 w5) := hbel.out.trans (HB5.out.mono hbel.out.size)
        have HY5 : Hid (BytesAt w5 ba bc a.b) := HBY.out.up HB5.out (Nat.le_refl _)
        clear hbel HB5 HR1 HBY
        generalize wr.heap.size = ab at *
        simp only [Act.put]
        go_cut [34] from 27 to 33 (fun vs wx => ∃ b : Bool, vs = .bool b ∧ Hid (b = true → mayL a = true ∧ un < 40) ∧ Hid (Below w5.heap.size w5 wx))
        case first =>
          have c6 := (cells_at HC5.out 6).trans (show _ = some (Value.slice ba un bc) from rfl)
          go_wp2_with (first
            | (refine wpList_load_row rfl 27 (.tmp 8) rfl ab rfl _ _ _ _ HC5.out Tryd.underlying27 rfl (by rw [act27]; rfl) ?_)
            | fail)
          refine (lmay_c a ba un bc HUN.out w5).mono ?_
          rintro e w6 ⟨rfl, hb6⟩
          have HC6 : Hid (w6.heap[ab]? = some (.cells (actA a (.slice ba un bc)) 27 (0, 0))) := (hb6.block _ (lt_of_block HC5.out)).trans HC5.out
          have c6' := (cells_at HC6.out 6).trans (show _ = some (Value.slice ba un bc) from rfl)
          have HB6 := Lib.hid hb6
          obtain ⟨mb, hmb⟩ : ∃ b, b = mayL a := ⟨_, rfl⟩
          rw [← hmb]
          have HMB := Lib.hid hmb
          clear hb6 hmb c6
          cases mb with
          | false =>
            go_wp2_with fail
            go_meet
            exact ⟨false, rfl, (fun h => by cases h), HB6.out⟩
          | true =>
            by_cases h40 : un < 40
            · have d40 : decide ((un : Int) < 40) = true := by simp; omega
              have i40 : (un : Int) < 40 := by omega
              have H40 := Lib.hid h40
              clear h40
              go_wp2_with fail
              go_meet
              exact ⟨true, rfl, (fun _ => ⟨HMB.out.symm, H40.out⟩), HB6.out⟩
            · have d40 : decide ((un : Int) < 40) = false := by simp; omega
              have i40 : ¬ (un : Int) < 40 := by omega
              clear h40
              go_wp2_with fail
              go_meet
              exact ⟨false, rfl, (fun h => by cases h), HB6.out⟩
        case rest =>
          obtain ⟨b, rfl, hbt, hb6⟩ := hcut
          have HC6 : Hid (wc.heap[ab]? = some (.cells (actA a (.slice ba un bc)) 27 (0, 0))) := (hb6.out.block _ (lt_of_block HC5.out)).trans HC5.out
          have HY6 : Hid (BytesAt wc ba bc a.b) := HY5.out.up hb6.out (Nat.le_refl _)
          have HBF6 : Hid (Below w1.heap.size w1 wc) := HBF5.out.trans (hb6.out.mono HBF5.out.size)
          clear HC5 HY5 HBF5 hb6
          generalize wc = w6 at *
          go_upto_if 34 with fail
          go_cut [0] from 35 to 38 (fun vs wx => ∃ S2 : List UInt8, vs = sV S2 ∧ Hid (S2.length ≤ S.length + 300) ∧ Hid (Below w6.heap.size w6 wx))
          case first =>
            cases b with
            | false =>
              go_wp2_with fail
              go_meet
              exact ⟨S, rfl, by show _ ≤ _; omega, Below.refl _ _⟩
            | true =>
              have hxl : S.length + 300 ≤ 9223372036854775807 := by have := hsl.out; have := HI.out; have := HN6.out; omega
              have HMAY := Lib.hid (mayL_num (hbt.out rfl).1)
              have HL40 : Hid (un < 40) := (hbt.out rfl).2
              obtain ⟨k, hk⟩ : ∃ k : Nat, a.kind = (k : Int) := ⟨a.kind.toNat, by have := HMAY.out.1; omega⟩
              have HKK := Lib.hid hk
              have HLL : Hid ((lineA k a).length ≤ 300) := by have := line_len k a; have := HUN.out; have := HL40.out; show _ ≤ _; omega
              clear hk
              go_wp2_with (first
                | (refine wpList_load_row rfl 27 (.tmp 8) rfl ab rfl _ _ _ _ HC6.out Tryd.underlying27 rfl (by rw [act27]; rfl) ?_)
                | fail)
              refine (rline_c k (by have := HMAY.out.1; have := HKK.out; omega) a HKK.out ba un bc HUN.out (by have := HL40.out; omega) HMAY.out.2 w6 HY6.out).mono ?_
              rintro e w7 ⟨rfl, hb7⟩
              have HB7 := Lib.hid hb7
              obtain ⟨Y, hY⟩ : ∃ Y, Y = lineA k a := ⟨_, rfl⟩
              rw [← hY] at HLL ⊢
              have hyl : S.length + Y.length ≤ 9223372036854775807 := by have := HLL.out; omega
              clear hb7 hY
              go_wp2_with fail
              go_meet
              exact ⟨S ++ Y, rfl, by have := HLL.out; show _ ≤ _; rw [List.length_append]; omega, HB7.out⟩
          case rest =>
          obtain ⟨S2, rfl, hs2, hb6⟩ := hcut
          have HBF6 : Hid (Below w1.heap.size w1 wc) := HBF6.out.trans (hb6.out.mono HBF6.out.size)
          clear hb6 HC6 HY6 hbt
          generalize wc = w6 at *
          go_upto_region 8 with fail
          go_cut [50] from 39 to 49 (fun vs wx => w6 = wx ∧ ∃ b : Bool, vs = .bool b ∧ Hid (b = true → i < n2 ∧ ∃ y, L2[i]? = some y ∧ y.length < 20))
          case first =>
            by_cases hw : i < n2
            · have dw : decide ((i : Int) < (n2 : Int)) = true := by simp; omega
              have iw : (i : Int) < (n2 : Int) := by omega
              obtain ⟨y, hy⟩ : ∃ y, L2[i]? = some y := ⟨_, List.getElem?_eq_getElem (by rw [H2.out.1]; exact hw)⟩
              obtain ⟨g2, o2, hag, hg2, hc2⟩ := H2.out.2.2.2 i y hy
              subst hag
              have cy : w6.cell? ⟨g2, o2 + i, none⟩ = some (sV y) := (HBF6.out.cell (p := ⟨g2, o2 + i, none⟩) (Nat.lt_of_lt_of_le hg2 HB1.out.size)).trans ((HB1.out.cell (p := ⟨g2, o2 + i, none⟩) hg2).trans hc2)
              obtain ⟨q, hq⟩ : ∃ q, q = y.length := ⟨_, rfl⟩
              have hql : y.length = q := hq.symm
              have HY := Lib.hid hy
              have HQ := Lib.hid hq
              have HW := Lib.hid hw
              clear hy hg2 hc2 hw hq
              by_cases h20 : q < 20
              · have d20 : decide ((q : Int) < 20) = true := by simp; omega
                have i20 : (q : Int) < 20 := by omega
                have H20 := Lib.hid h20
                clear h20
                go_wp2_with fail
                go_meet
                exact ⟨rfl, true, rfl, fun _ => ⟨HW.out, y, HY.out, by have := HQ.out; have := H20.out; omega⟩⟩
              · have d20 : decide ((q : Int) < 20) = false := by simp; omega
                have i20 : ¬ (q : Int) < 20 := by omega
                clear h20
                go_wp2_with fail
                go_meet
                exact ⟨rfl, false, rfl, fun h => by cases h⟩
            · have dw : decide ((i : Int) < (n2 : Int)) = false := by simp; omega
              have iw : ¬ (i : Int) < (n2 : Int) := by omega
              clear hw
              go_wp2_with fail
              go_meet
              exact ⟨rfl, false, rfl, fun h => by cases h⟩
          case rest =>
          obtain ⟨rfl, b, rfl, hbt⟩ := hcut
          go_upto_if 50 with fail
          go_cut [0] from 51 to 56 (fun vs wx => w6 = wx ∧ ∃ S3 : List UInt8, vs = sV S3 ∧ Hid (S3.length ≤ S2.length + 20))
          case first =>
            cases b with
            | false =>
              go_wp2_with fail
              go_meet
              exact ⟨rfl, S2, rfl, by show _ ≤ _; omega⟩
            | true =>
              obtain ⟨hw, y, hy, h20⟩ := hbt.out rfl
              have iw : (i : Int) < (n2 : Int) := by omega
              obtain ⟨g2, o2, hag, hg2, hc2⟩ := H2.out.2.2.2 i y hy
              subst hag
              have cy : w6.cell? ⟨g2, o2 + i, none⟩ = some (sV y) := (HBF6.out.cell (p := ⟨g2, o2 + i, none⟩) (Nat.lt_of_lt_of_le hg2 HB1.out.size)).trans ((HB1.out.cell (p := ⟨g2, o2 + i, none⟩) hg2).trans hc2)
              have hyl : S2.length + y.length ≤ 9223372036854775807 := by have := hs2.out; have := hsl.out; have := HI.out; have := HN6.out; omega
              have HYL := Lib.hid h20
              clear hy hg2 hc2 hw h20
              go_wp2_with fail
              go_meet
              exact ⟨rfl, S2 ++ y, rfl, by have := HYL.out; show _ ≤ _; rw [List.length_append]; omega⟩
          case rest =>
            obtain ⟨rfl, S3, rfl, hs3⟩ := hcut
            have hx3 : S3.length + 1 ≤ 9223372036854775807 := by have := hs3.out; have := hs2.out; have := hsl.out; have := HI.out; have := HN6.out; omega
            have hx4 : S3.length ≤ 9223372036854775806 := by omega
            go_wp2
            go_roundw
            case rel => exact ⟨i + 1, S3 ++ [10], by have := HI.out; omega, by go_num, rfl, by have := hs3.out; have := hs2.out; have := hsl.out; show _ ≤ _; rw [List.length_append, List.length_singleton]; omega, HBF6.out⟩
            case measure => simp [intOf]; have := HI.out; omega
      · have hd : decide ((i : Int) < (n : Int)) = false := by simp; omega
        have dl : ¬ (i : Int) < (n : Int) := by omega
        have HSL : Hid (S.length ≤ 6400) := by have := hsl.out; have := HN6.out; show _ ≤ _; omega
        have HBW : Hid (Below W.heap.size W wr) := HB1.out.trans (hbel.out.mono HB1.out.size)
        clear hsl hbel hi hlt HACT HB1 H2
        have HPN := Lib.hid (parsN_len S)
        have HPB := Lib.hid (parsK_bad (linesL S) 1 [] (Nat.le_refl _))
        have HL := Lib.hid (lparse_c S (by have := HSL.out; omega) wr)
        have HR := Lib.hid (fun w => rparse_c S (by have := HSL.out; omega) w)
        change Hid ((parsN S).2 = 0 ∨ (parsN S).1 = []) at HPB
        obtain ⟨⟨RL, K⟩, hR⟩ : ∃ R, R = parsN S := ⟨_, rfl⟩
        rw [← hR] at HL HR HPN HPB
        clear hR
        dsimp only at HL HR HPN HPB
        go_wp2_with fail
        refine HL.out.mono ?_
        rintro e w3 ⟨v1, rfl, hp1, hb3⟩
        have HP1 := Lib.hid hp1
        have HB3 := Lib.hid hb3
        clear hp1 hb3 HL
        go_wp2_with fail
        refine (HR.out w3).mono ?_
        rintro e w4 ⟨v2, rfl, hp2, hb4⟩
        have HP14 : Hid (ActsAt w4 wr.heap.size 44 v1 RL) := HP1.out.up hb4
        have HP2 := Lib.hid hp2
        have HB4 : Hid (Below W.heap.size W w4) := HBW.out.trans ((HB3.out.trans (hb4.mono HB3.out.size)).mono HBW.out.size)
        clear hp2 hb4 HR HP1 HB3 HBW
        by_cases hk : K = 0
        · have dk : decide ((K : Int) > 0) = false := by simp; omega
          have ik : ¬ (0 : Int) < (K : Int) := by omega
          have ik0 : (K : Int) = 0 := by omega
          have bk0 : ((K : Int) == 0) = true := by simp; omega
          have he : errOf K = 0 := by unfold errOf; rw [if_pos hk]
          clear hk HPB
          rw [he]
          clear he
          go_wp2_with fail
          refine (lplain_c RL (by have h : RL.length ≤ S.length + 1 := HPN.out; have := HSL.out; omega) _ v1 w4 HP14.out).mono ?_
          rintro e w5 ⟨v5, rfl, ha5, hb5⟩
          have HA5 := Lib.hid ha5
          have HA25 : Hid (ActsAt w5 w3.heap.size 27 v2 RL) := HP2.out.up hb5
          have HB5 : Hid (Below W.heap.size W w5) := HB4.out.trans (hb5.mono HB4.out.size)
          clear ha5 hb5
          go_wp2_with fail
          refine (lall_c RL (by have h : RL.length ≤ S.length + 1 := HPN.out; have := HSL.out; omega) _ _ v5 v2 w5 HA5.out HA25.out).mono ?_
          rintro e w6 ⟨rfl, hb6⟩
          have HB6 : Hid (Below W.heap.size W w6) := HB5.out.trans (hb6.mono HB5.out.size)
          clear hb6
          go_wp2_with fail
          refine (lawake_c w6).mono ?_
          rintro e w7 ⟨rfl, hb7⟩
          have HB7 : Hid (Below W.heap.size W w7) := HB6.out.trans (hb7.mono HB6.out.size)
          clear hb7
          go_wp2
          go_ret
          exact ⟨rfl, HB7.out⟩
        · have dk : decide ((K : Int) > 0) = true := by simp; omega
          have ik : (0 : Int) < (K : Int) := by omega
          have he : errOf K = 4 := by unfold errOf; rw [if_neg hk]
          have hRL : RL = [] := by
            rcases HPB.out with h | h
            · exact absurd h hk
            · exact h
          subst hRL
          obtain ⟨xa, xc, hx1⟩ := HP14.out.len
          change v1 = .slice xa 0 xc at hx1
          subst hx1
          have HKE : Hid (K ≠ 0) := hk
          clear hk HPB
          rw [he]
          clear he
          go_wp2_with fail
          refine (lawake_c w4).mono ?_
          rintro e w7 ⟨rfl, hb7⟩
          have HB7 : Hid (Below W.heap.size W w7) := HB4.out.trans (hb7.mono HB4.out.size)
          clear hb7
          go_wp2
          go_ret
          exact ⟨rfl, HB7.out⟩
end Go.Proofs.YteennbdakjjcfaaDoor
