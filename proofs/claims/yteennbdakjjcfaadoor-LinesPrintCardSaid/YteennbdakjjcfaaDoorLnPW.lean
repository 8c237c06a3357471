/- The walk of LinesPrint. Printed by gen_lnpw.py. -/
import Derived.Test.YteennbdakjjcfaaDoorLnPt
set_option linter.unusedVariables false
set_option linter.unusedSimpArgs false
namespace Go.Proofs.YteennbdakjjcfaaDoor
open Go Go.RowKit Go.Lib
theorem actsAt_single {w : World} {base g : Nat} {t : TypeId} {a : AN} {u : Value} (hb : base ≤ g) (hg : w.heap[g]? = some (.cells (actA a u) t (0, 0))) (hB : Byt w (some g) a u) : ActsAt w base t (.slice (some ⟨g, 0, none⟩) 1 1) [a] :=
  ⟨[(a, u)], rfl, ⟨rfl, .inr ⟨g, 1, actA a u, rfl, hb, hg, Nat.le_refl _, by decide, rfl, rfl⟩⟩, fun p hp => by rw [List.mem_singleton] at hp; subst hp; exact hB⟩
theorem run_nes0 (s : List UInt8) (E : Operand → Value) (x y : Operand) (t : TypeId) (o : Oper) (ho : o.op = .binOp .neq 9 x y t) (hx : E x = sV s) (hy : E y = sV s) (w : World) :
    (execOp E o).run Tryd.prog w = .ok (.value (.bool false)) w := by
  unfold execOp
  simp only [ho, hx, hy]
  go_simp
theorem run_eqs0 (s : List UInt8) (E : Operand → Value) (x y : Operand) (t : TypeId) (o : Oper) (ho : o.op = .binOp .eql 9 x y t) (hx : E x = sV s) (hy : E y = sV s) (w : World) :
    (execOp E o).run Tryd.prog w = .ok (.value (.bool true)) w := by
  unfold execOp
  simp only [ho, hx, hy]
  go_simp
theorem wpList_nes0 {w : World} {ops : Array Oper} {rest : List Oper} {o : Oper} {A : Act} {Q : Exit → Act → World → Prop} (hw : Region.wanted o (yielded ops A.tmps) = true) (x y : Operand) (t : TypeId) (s : List UInt8) (ho : o.op = .binOp .neq 9 x y t)
    (hx : A.eval x = sV s) (hy : A.eval y = sV s) (hK : wpList Tryd.prog ops Q rest (A.put o.dst (.bool false)) w) : wpList Tryd.prog ops Q (o :: rest) A w :=
  wpList_met hw fun _ hk => by
    unfold Oper.wp
    rw [run_nes0 s A.eval x y t o ho hx hy w]
    exact hk _ _ hK
theorem wpList_eqs0 {w : World} {ops : Array Oper} {rest : List Oper} {o : Oper} {A : Act} {Q : Exit → Act → World → Prop} (hw : Region.wanted o (yielded ops A.tmps) = true) (x y : Operand) (t : TypeId) (s : List UInt8) (ho : o.op = .binOp .eql 9 x y t)
    (hx : A.eval x = sV s) (hy : A.eval y = sV s) (hK : wpList Tryd.prog ops Q rest (A.put o.dst (.bool true)) w) : wpList Tryd.prog ops Q (o :: rest) A w :=
  wpList_met hw fun _ hk => by
    unfold Oper.wp
    rw [run_eqs0 s A.eval x y t o ho hx hy w]
    exact hk _ _ hK
set_option maxRecDepth 100000 in
set_option maxHeartbeats 16000000 in
theorem walkLinesPrint (W : World) (a1 : Option Addr) (n1 c1 : Nat) (L1 : List AN) (h1 : ActsIn W a1 n1 c1 L1) :
    Calls Tryd.prog 5 #[.slice a1 n1 c1] W fun e W' => e = .returned (.bool true) ∧ Below W.heap.size W W' := by
  have HCUT := Lib.hid (lcuta_c 10 (by decide) a1 n1 c1 L1 W h1)
  clear h1
  obtain ⟨M, hM⟩ : ∃ M, M = cutA 10 L1 := ⟨_, rfl⟩
  have HML : Hid (M.length ≤ 10) := by show _ ≤ _; rw [hM]; unfold cutA; rw [List.length_map, List.length_take]; omega
  have HMB : Hid (∀ a ∈ M, a.b.length ≤ 1030) := fun a ha => by
    rw [hM] at ha
    unfold cutA at ha
    rw [List.mem_map] at ha
    obtain ⟨y, _, rfl⟩ := ha
    show (y.b.take 1030).length ≤ _
    rw [List.length_take]; omega
  rw [← hM] at HCUT
  clear hM
  go_enter Tryd.func5, Tryd.ntmps5
  go_wp2_with fail
  refine HCUT.out.mono ?_
  rintro e w1 ⟨⟨v, rfl, hacts⟩, hb1⟩
  obtain ⟨n, hn⟩ : ∃ n, n = M.length := ⟨_, rfl⟩
  obtain ⟨va, vc, hv⟩ := hacts.len
  rw [← hn] at hv
  subst hv
  have HN := Lib.hid hn
  have HN10 : Hid (n ≤ 10) := by show _ ≤ _; rw [hn]; exact HML.out
  have HACT := Lib.hid hacts
  have HB1 := Lib.hid hb1
  have H256 : Hid (∀ a ∈ M, ∀ x ∈ a.b, x < 256) := fun a ha => by
    obtain ⟨j, hj, rfl⟩ := List.mem_iff_getElem.1 ha
    obtain ⟨_, _, _, _, _, _, _, hy⟩ := HACT.out.get j hj
    obtain ⟨_, _, _, h2, _⟩ := hy
    exact h2.1
  clear hn hacts hb1 HCUT
  go_wp2
  go_loopw [3, 4, 18] (fun vs vk vi wr => ∃ (i : Nat) (S : List UInt8) (b : Bool), i ≤ n ∧ vi = .int .i64 (i : Int) ∧ vs = sV S ∧ vk = .bool b ∧ Hid (b = (M.take i).all mayL) ∧ Hid (b = true → S = textL (M.take i)) ∧ Hid (S.length ≤ i * 6301) ∧ Hid (Below w1.heap.size w1 wr)) (fun _ _ vi _ => n - (intOf vi).toNat)
  case atStart => exact ⟨0, [], true, by omega, rfl, rfl, rfl, by rw [List.take_zero]; rfl, (fun _ => by rw [List.take_zero]; rfl), Nat.zero_le _, Below.refl _ _⟩
  case round =>
    obtain ⟨i, S, b, hi, rfl, rfl, rfl, hall, htx, hsl, hbel⟩ := hrel
    by_cases hlt : i < n
    · have hd : decide ((i : Int) < (n : Int)) = true := by simp; omega
      have dl : (i : Int) < (n : Int) := by omega
      have dk0 : ¬ (i : Int) < 0 := by omega
      have hiL : i < M.length := by rw [← HN.out]; exact hlt
      obtain ⟨a, hx⟩ : ∃ x, M[i]? = some x := ⟨_, List.getElem?_eq_getElem hiL⟩
      obtain ⟨hi9, hxe⟩ := List.getElem?_eq_some_iff.1 hx
      obtain ⟨g1, cc, u1, hv1, hg1, _, hr1, hy1⟩ := HACT.out.get i hi9
      rw [hxe] at hr1 hy1
      injection hv1 with hv1 hx_ hy_
      clear hx_ hy_
      subst hv1
      have htk : M.take (i + 1) = M.take i ++ [a] := by rw [List.take_succ_eq_append_getElem hiL, hxe]
      have HMEM : Hid (a ∈ M) := List.mem_of_getElem? hx
      obtain ⟨ba, bc, hu, hB, hnil, _⟩ := id hy1
      obtain ⟨un, hun⟩ : ∃ m, m = a.b.length := ⟨_, rfl⟩
      rw [← hun] at hu
      subst hu
      have HR1 : Hid (wr.rangeAt g1 (i * 7) (rowA (a, .slice ba un bc))) := range_up hr1 hbel.out hg1
      have HUN : Hid (a.b.length = un) := hun.symm
      have HBL : Hid (un ≤ 1030) := by show _ ≤ _; rw [hun]; exact HMB.out a HMEM.out
      have ek : IntKind.i64.wrap ((i : Int) + 1) = (i : Int) + 1 := by have := HN10.out; exact IntWalk.i64_in _ (by omega)
      have HI := Lib.hid hlt
      have HTK := Lib.hid htk
      have HNB : Hid (Byt w1 none a (.slice ba un bc)) := by
        obtain ⟨p1, p2, p3, p4, p5, p6⟩ := hy1
        exact ⟨p1, p2, p3, p4, p5, fun _ _ _ _ _ h => by cases h⟩
      clear hx hi9 hxe hg1 hr1 hy1 hB hnil hun hi hlt htk hiL
      go_upto_region 7 with (first
        | (refine wpList_load_mid rfl 27 (.tmp 20) rfl g1 (i * 7) rfl (rowA (a, .slice ba un bc)) _ HR1.out Tryd.underlying27 rfl (by rw [act27]; rfl) ?_)
        | (refine wpList_store_row rfl 27 (.tmp 6) (.tmp 21) rfl wr.heap.size (actA a (.slice ba un bc)) rfl rfl 27 _ (heap_new' _ _) (by rw [act27]; rfl) (by rfl) (actA_one _ _ _ _) ?_)
        | fail)
      have HC5 : Hid (((wr.alloc (.cells #[.int .i64 0, .bool false, .int .i64 0, .int .i64 0, .int .i64 0, .int .i64 0, .slice none 0 0] 27)).setRow wr.heap.size (actA a (.slice ba un bc))).heap[wr.heap.size]? = some (.cells (actA a (.slice ba un bc)) 27 (0, 0))) := setRow_heap _ _ _ _ _ _ (heap_new' _ _)
      have HB5 : Hid (Below wr.heap.size wr ((wr.alloc (.cells #[.int .i64 0, .bool false, .int .i64 0, .int .i64 0, .int .i64 0, .int .i64 0, .slice none 0 0] 27)).setRow wr.heap.size (actA a (.slice ba un bc)))) := below_setRow ((Below.refl _ _).alloc (Nat.le_refl _) _) (Nat.le_refl _) _
      generalize (wr.alloc (.cells #[.int .i64 0, .bool false, .int .i64 0, .int .i64 0, .int .i64 0, .int .i64 0, .slice none 0 0] 27)).setRow wr.heap.size (actA a (.slice ba un bc)) = w5 at *
      have HBF5 : Hid (Below w1.heap.size w1 w5) := hbel.out.trans (HB5.out.mono hbel.out.size)
      clear hbel HB5 HR1
      generalize wr.heap.size = ab at *
      have HBF6 : Hid (Below w1.heap.size w1 (w5.alloc (.cells (actA a (.slice ba un bc)) 27))) := HBF5.out.alloc HBF5.out.size _
      have HAO : Hid (ActsAt (w5.alloc (.cells (actA a (.slice ba un bc)) 27)) w5.heap.size 27 (.slice (some ⟨w5.heap.size, 0, none⟩) 1 1) [a]) := actsAt_single (Nat.le_refl _) (heap_new' _ _) (HNB.out.fresh HBF6.out (fun k hk => by cases hk; exact HBF5.out.size))
      have HC6 : Hid ((w5.alloc (.cells (actA a (.slice ba un bc)) 27)).heap[ab]? = some (.cells (actA a (.slice ba un bc)) 27 (0, 0))) := (heap_old' _ _ _ (lt_of_block HC5.out)).trans HC5.out
      simp only [Act.put]
      go_wp2_with (first
        | (refine wpList_load_row rfl 27 (.tmp 6) rfl ab rfl _ _ _ _ HC5.out Tryd.underlying27 rfl (by rw [act27]; rfl) ?_)
        | (refine wpList_build_act rfl 22 27 (.tmp 23) rfl Tryd.underlying22 ginfo (a := a) (u := .slice ba un bc) rfl ?_)
        | fail)
      refine (lours_c [a] (by show 1 ≤ 900000; omega) (fun x hx => by rw [List.mem_singleton] at hx; subst hx; rw [HUN.out]; have := HBL.out; omega) _ _ _ HAO.out).mono ?_
      rintro e w6 ⟨v6, rfl, ha6, hb6⟩
      obtain ⟨g2, c2, u2, hv2, hg2, _, hr2, hy2⟩ := ha6.get 0 (by show 0 < 1; omega)
      change v6 = .slice (some ⟨g2, 0, none⟩) 1 c2 at hv2
      subst hv2
      change w6.rangeAt g2 0 (rowA (a, u2)) at hr2
      change Byt w6 _ a u2 at hy2
      obtain ⟨ba2, bc2, hu2, hB2, hn2, _⟩ := hy2
      rw [HUN.out] at hu2
      subst hu2
      have HR2 := Lib.hid hr2
      have HY2 := Lib.hid hB2
      have HN2 := Lib.hid hn2
      have HC7 : Hid (w6.heap[ab]? = some (.cells (actA a (.slice ba un bc)) 27 (0, 0))) := (hb6.block _ (lt_of_block HC6.out)).trans HC6.out
      have HBF7 : Hid (Below w1.heap.size w1 w6) := HBF6.out.trans (hb6.mono HBF6.out.size)
      clear ha6 hr2 hB2 hn2 hg2 hb6 HC6 HBF6 HAO HC5 HBF5
      go_wp2_with (first
        | (refine wpList_load_mid rfl 44 (.tmp 26) rfl g2 0 rfl (rowA (a, .slice ba2 un bc2)) _ HR2.out Tryd.underlying44 rfl (by rw [act44]; rfl) ?_)
        | fail)
      obtain ⟨mb, hmb⟩ : ∃ b, b = mayL a := ⟨_, rfl⟩
      have HMM := Lib.hid hmb
      have HAL : Hid ((M.take (i + 1)).all mayL = (b && mb)) := by show _ = _; rw [HTK.out, List.all_append, ← hall.out, hmb]; simp
      clear hmb hall
      have HUL : Hid (un ≤ 100000) := by have := HBL.out; show _ ≤ _; omega
      cases mb with
      | true =>
        obtain ⟨k, hk⟩ : ∃ k, k = a.kind.toNat := ⟨_, rfl⟩
        have hmay := mayL_num HMM.out.symm
        have HK20 : Hid (k < 20) := by show _ < _; omega
        have HAK : Hid (a.kind = (k : Int)) := by show _ = _; omega
        have HNUM := Lib.hid hmay.2
        have HTX : Hid (textL (M.take (i + 1)) = textL (M.take i) ++ (lineA k a ++ [10])) := by show _ = _; rw [HTK.out, textL_snoc, ← hk]
        obtain ⟨Y, hY⟩ : ∃ Y, Y = lineA k a := ⟨_, rfl⟩
        rw [← hY] at HTX
        have HYL : Hid (Y.length ≤ 6300) := by
          have h9 := line_len k a
          rw [← hY, HUN.out] at h9
          have := HBL.out
          show _ ≤ _
          omega
        have HYE := Lib.hid hY
        clear hk hmay hY
        refine (lline_c k HK20.out a HAK.out ba2 un bc2 HUN.out HUL.out HN2.out HMM.out.symm w6 HY2.out).mono ?_
        rintro e w7 ⟨rfl, hb7⟩
        rw [← HYE.out]
        have HC8 : Hid (w7.heap[ab]? = some (.cells (actA a (.slice ba un bc)) 27 (0, 0))) := (hb7.block _ (lt_of_block HC7.out)).trans HC7.out
        have HBF8 : Hid (Below w1.heap.size w1 w7) := HBF7.out.trans (hb7.mono HBF7.out.size)
        clear hb7 HC7 HBF7 HR2 HY2
        go_wp2_with (first
          | (refine wpList_load_row rfl 27 (.tmp 6) rfl ab rfl _ _ _ _ HC8.out Tryd.underlying27 rfl (by rw [act27]; rfl) ?_)
          | fail)
        refine (lmay_c a ba un bc HUN.out w7).mono ?_
        rintro e w8 ⟨rfl, hb8⟩
        rw [← HMM.out]
        have HC9 : Hid (w8.heap[ab]? = some (.cells (actA a (.slice ba un bc)) 27 (0, 0))) := (hb8.block _ (lt_of_block HC8.out)).trans HC8.out
        have HBF9 : Hid (Below w1.heap.size w1 w8) := HBF8.out.trans (hb8.mono HBF8.out.size)
        clear hb8 HC8 HBF8
        go_wp2_with (first
          | (refine wpList_load_row_g (by rfl) 27 (.tmp 6) rfl ab rfl _ HC9.out Tryd.underlying27 rfl (by rw [act27]; rfl) ?_)
          | fail)
        have HY9 : Hid (BytesAt w8 ba bc a.b) := by
          obtain ⟨p1, p2, hpe, p4, _⟩ := HNB.out
          injection hpe with e1 _ e2
          subst e1 e2
          exact p4.up HBF9.out (Nat.le_refl _)
        refine (rline_c k HK20.out a HAK.out ba un bc HUN.out HUL.out HNUM.out w8 HY9.out).mono ?_
        rintro e w9 ⟨rfl, hb9⟩
        rw [← HYE.out]
        have HBFA : Hid (Below w1.heap.size w1 w9) := HBF9.out.trans (hb9.mono HBF9.out.size)
        clear hb9 HC9 HBF9 HY9 HYE
        have l1 : S.length + Y.length ≤ 9223372036854775807 := by have := hsl.out; have := HYL.out; have := HI.out; have := HN10.out; omega
        have l2 : S.length + Y.length + 1 ≤ 9223372036854775807 := by have := hsl.out; have := HYL.out; have := HI.out; have := HN10.out; omega
        have l3 : S.length + (Y.length + 1) ≤ 9223372036854775807 := by omega
        have l4 : S.length + Y.length ≤ 9223372036854775806 := by omega
        go_wp2_with (first
          | (refine wpList_nes0 (by rfl) (.tmp 43) (.tmp 45) 9 Y rfl rfl rfl ?_)
          | fail)
        go_roundw
        case rel => exact ⟨i + 1, S ++ (Y ++ [10]), b, by have := HI.out; omega, by go_num, rfl, rfl, (by show _ = _; rw [HAL.out, Bool.and_true]), (fun h => by rw [HTX.out, ← htx.out h]), by have := hsl.out; have := HYL.out; show _ ≤ _; rw [List.length_append, List.length_append, List.length_singleton]; omega, HBFA.out⟩
        case measure => simp [intOf]; have := HI.out; omega
      | false =>
        refine (lline_no a ba2 un bc2 HUN.out HN2.out HMM.out.symm w6).mono ?_
        rintro e w7 ⟨rfl, hb7⟩
        have HC8 : Hid (w7.heap[ab]? = some (.cells (actA a (.slice ba un bc)) 27 (0, 0))) := (hb7.block _ (lt_of_block HC7.out)).trans HC7.out
        have HBF8 : Hid (Below w1.heap.size w1 w7) := HBF7.out.trans (hb7.mono HBF7.out.size)
        clear hb7 HC7 HBF7 HR2 HY2
        go_wp2_with (first
          | (refine wpList_load_row rfl 27 (.tmp 6) rfl ab rfl _ _ _ _ HC8.out Tryd.underlying27 rfl (by rw [act27]; rfl) ?_)
          | fail)
        refine (lmay_c a ba un bc HUN.out w7).mono ?_
        rintro e w8 ⟨rfl, hb8⟩
        rw [← HMM.out]
        have HBF9 : Hid (Below w1.heap.size w1 w8) := HBF8.out.trans (hb8.mono HBF8.out.size)
        clear hb8 HC8 HBF8
        go_wp2_with (first
          | (refine wpList_nes0 (by rfl) (.tmp 37) (.const (.string ⟨#[]⟩)) 9 [] rfl rfl rfl ?_)
          | fail)
        go_roundw
        case rel => exact ⟨i + 1, S, false, by have := HI.out; omega, by go_num, rfl, rfl, (by show _ = _; rw [HAL.out, Bool.and_false]), (fun h => by cases h), by have := hsl.out; show _ ≤ _; omega, HBF9.out⟩
        case measure => simp [intOf]; have := HI.out; omega
    · have hd : decide ((i : Int) < (n : Int)) = false := by simp; omega
      have dl : ¬ (i : Int) < (n : Int) := by omega
      have htk : M.take i = M := List.take_of_length_le (by rw [← HN.out]; omega)
      rw [htk] at hall htx
      have HSL : Hid (S.length ≤ 100000) := by have := hsl.out; have := HN10.out; show _ ≤ _; omega
      have HBW : Hid (Below W.heap.size W wr) := HB1.out.trans (hbel.out.mono HB1.out.size)
      have HAR : Hid (ActsAt wr W.heap.size 27 (.slice va n vc) M) := HACT.out.up hbel.out
      obtain ⟨v0, hv0⟩ : ∃ v, v = Value.slice va n vc := ⟨_, rfl⟩
      rw [← hv0] at HAR ⊢
      clear htk hi hlt HACT HB1 hsl hbel hv0
      go_wp2_with fail
      refine (lours_c M (by have := HML.out; omega) (fun x hx => by have := HMB.out x hx; omega) _ v0 wr HAR.out).mono ?_
      rintro e w2 ⟨v2, rfl, ha2, hb2⟩
      have HA2 := Lib.hid ha2
      have HAR2 : Hid (ActsAt w2 W.heap.size 27 v0 M) := HAR.out.up hb2
      have HB2 : Hid (Below W.heap.size W w2) := HBW.out.trans (hb2.mono HBW.out.size)
      clear ha2 hb2 HAR HBW
      go_wp2_with fail
      refine (lprint_c M (by have := HML.out; omega) HMB.out _ v2 w2 HA2.out).mono ?_
      rintro e w3 ⟨rfl, hb3⟩
      have HAR3 : Hid (ActsAt w3 W.heap.size 27 v0 M) := HAR2.out.up hb3
      have HB3 : Hid (Below W.heap.size W w3) := HB2.out.trans (hb3.mono HB2.out.size)
      clear hb3 HAR2 HB2 HA2
      cases b with
      | false =>
        have hs1 : prS M = [] := by unfold prS; rw [← hall.out]; rfl
        have hs2 : prE M = 1 := by unfold prE; rw [← hall.out]; rfl
        rw [hs1, hs2]
        clear hs1 hs2
        go_wp2_with (first
          | (refine wpList_eqs0 (by rfl) (.tmp 64) (.const (.string ⟨#[]⟩)) 9 [] rfl rfl rfl ?_)
          | fail)
        refine (lawake_c w3).mono ?_
        rintro e w7 ⟨rfl, hb7⟩
        have HB7 : Hid (Below W.heap.size W w7) := HB3.out.trans (hb7.mono HB3.out.size)
        clear hb7
        go_wp2
        go_ret
        exact ⟨rfl, HB7.out⟩
      | true =>
        have hS := htx.out rfl
        have hT : Txt S M := by
          rw [hS]
          exact txt_textL M (fun a ha => by have h := hall.out.symm; rw [List.all_eq_true] at h; exact h a ha) H256.out
        have hs1 : prS M = S := by unfold prS; rw [← hall.out, hS]; rfl
        have hs2 : prE M = 0 := by unfold prE; rw [← hall.out]; rfl
        rw [hs1, hs2]
        have HL := Lib.hid (lparse_c S HSL.out w3)
        rw [hT.parse] at HL
        dsimp only at HL
        rw [show errOf 0 = 0 from rfl] at HL
        clear hs1 hs2 hS hT htx
        go_wp2_with fail
        refine HL.out.mono ?_
        rintro e w4 ⟨v4, rfl, hp4, hb4⟩
        have HP4 := Lib.hid hp4
        have HAR4 : Hid (ActsAt w4 W.heap.size 27 v0 M) := HAR3.out.up hb4
        have HB4 : Hid (Below W.heap.size W w4) := HB3.out.trans (hb4.mono HB3.out.size)
        clear hp4 hb4 HL HAR3 HB3
        go_wp2_with (first
          | (refine wpList_eqs0 (by rfl) (.tmp 79) (.tmp 80) 9 S rfl rfl rfl ?_)
          | fail)
        refine (lplain_c M (by have := HML.out; omega) _ v4 w4 HP4.out).mono ?_
        rintro e w5 ⟨v5, rfl, ha5, hb5⟩
        have HA5 := Lib.hid ha5
        have HA25 : Hid (ActsAt w5 W.heap.size 27 v0 M) := HAR4.out.up hb5
        have HB5 : Hid (Below W.heap.size W w5) := HB4.out.trans (hb5.mono HB4.out.size)
        clear ha5 hb5
        go_wp2_with fail
        refine (lall_c M (by have := HML.out; omega) _ _ v5 v0 w5 HA5.out HA25.out).mono ?_
        rintro e w6 ⟨rfl, hb6⟩
        have HB6 : Hid (Below W.heap.size W w6) := HB5.out.trans (hb6.mono HB5.out.size)
        clear hb6
        go_wp2_with fail
        refine (lawake_c w6).mono ?_
        rintro e w7 ⟨rfl, hb7⟩
        have HB7 : Hid (Below W.heap.size W w7) := HB6.out.trans (hb7.mono HB6.out.size)
        clear hb7
        go_wp2
        go_ret
        exact ⟨rfl, HB7.out⟩
end Go.Proofs.YteennbdakjjcfaaDoor
