/- The law's pieces: Same, All, Plain. Printed by gen_lnw.py. -/
import Derived.Test.YteennbdakjjcfaaDoorLnV
set_option linter.unusedVariables false
set_option linter.unusedSimpArgs false
namespace Go.Proofs.YteennbdakjjcfaaDoor
open Go Go.RowKit Go.Lib
theorem wpList_conv_g {w : World} {ops : Array Oper} {rest : List Oper} {o : Oper} {A : Act} {Q : Exit → Act → World → Prop} (hw : Region.wanted o (yielded ops A.tmps) = true) (x : Operand) {s : Option Addr} {cap n : Nat} {l : List Nat} (hl : l.length = n) (h : BytesAt w s cap l) (ho : o.op = .convert 25 9 x)
    (hx : A.eval x = .slice s n cap) (hK : wpList Tryd.prog ops Q rest (A.put o.dst (strV l)) w) : wpList Tryd.prog ops Q (o :: rest) A w :=
  wpList_met hw fun _ hk => wp_conv x hl h ho hx (hk _ _ hK)
theorem wpList_eqs1_g {w : World} {ops : Array Oper} {rest : List Oper} {o : Oper} {A : Act} {Q : Exit → Act → World → Prop} (hw : Region.wanted o (yielded ops A.tmps) = true) (x y : Operand) (t : TypeId) (l : List Nat) (hl : ∀ x ∈ l, x < 256) (ho : o.op = .binOp .eql 9 x y t)
    (hx : A.eval x = strV l) (hy : A.eval y = strV l) (hK : wpList Tryd.prog ops Q rest (A.put o.dst (.bool true)) w) : wpList Tryd.prog ops Q (o :: rest) A w :=
  wpList_met hw fun _ hk => by
    unfold Oper.wp
    rw [run_eqs1 l hl A.eval x y t o ho hx hy w]
    exact hk _ _ hK
set_option maxRecDepth 100000 in
set_option maxHeartbeats 8000000 in
theorem lsame_c (a : AN) (n : Nat) (va vb : Option Addr) (vc vd : Nat) (hn : a.b.length = n) (w : World) (h1 : BytesAt w va vc a.b) (h2 : BytesAt w vb vd a.b) :
    Calls Tryd.prog 29 #[.agg (actA a (.slice va n vc)), .agg (actA a (.slice vb n vd)), .bool false] w fun e w' => e = .returned (.bool true) ∧ Below w.heap.size w w' := by
  obtain ⟨H1, H2, H3⟩ := act_two (w := w) (A := actA a (.slice va n vc)) (B := actA a (.slice vb n vd)) (t := 27) (t' := 27)
  have HY1 : Hid (BytesAt ((w.alloc (.cells (actA a (.slice va n vc)) 27)).alloc (.cells (actA a (.slice vb n vd)) 27)) va vc a.b) := h1.up H3.out (Nat.le_refl _)
  have HY2 : Hid (BytesAt ((w.alloc (.cells (actA a (.slice va n vc)) 27)).alloc (.cells (actA a (.slice vb n vd)) 27)) vb vd a.b) := h2.up H3.out (Nat.le_refl _)
  have HN := Lib.hid hn
  obtain ⟨kd, ye, wh, kk, nn, aa, bb⟩ := a
  have a0 := (cells_at H1.out 0).trans (show _ = some (Value.int .i64 kd) from rfl)
  have a1 := (cells_at H1.out 1).trans (show _ = some (Value.bool ye) from rfl)
  have a2 := (cells_at H1.out 2).trans (show _ = some (Value.int .i64 wh) from rfl)
  have a3 := (cells_at H1.out 3).trans (show _ = some (Value.int .i64 kk) from rfl)
  have a4 := (cells_at H1.out 4).trans (show _ = some (Value.int .i64 nn) from rfl)
  have a5 := (cells_at H1.out 5).trans (show _ = some (Value.int .i64 aa) from rfl)
  have a6 := (cells_at H1.out 6).trans (show _ = some (Value.slice va n vc) from rfl)
  have b0 := (cells_at H2.out 0).trans (show _ = some (Value.int .i64 kd) from rfl)
  have b1 := (cells_at H2.out 1).trans (show _ = some (Value.bool ye) from rfl)
  have b2 := (cells_at H2.out 2).trans (show _ = some (Value.int .i64 wh) from rfl)
  have b3 := (cells_at H2.out 3).trans (show _ = some (Value.int .i64 kk) from rfl)
  have b4 := (cells_at H2.out 4).trans (show _ = some (Value.int .i64 nn) from rfl)
  have b5 := (cells_at H2.out 5).trans (show _ = some (Value.int .i64 aa) from rfl)
  have b6 := (cells_at H2.out 6).trans (show _ = some (Value.slice vb n vd) from rfl)
  clear hn h1 h2
  go_enter Tryd.func29, Tryd.ntmps29
  go_upto_region 1 with fail
  generalize (w.alloc (.cells (actA ⟨kd, ye, wh, kk, nn, aa, bb⟩ (.slice va n vc)) 27)).alloc (.cells (actA ⟨kd, ye, wh, kk, nn, aa, bb⟩ (.slice vb n vd)) 27) = w0 at *
  go_wp2_with (first
    | (refine wpList_conv_g (by rfl) (.tmp 64) HN.out HY1.out rfl rfl ?_)
    | (refine wpList_conv_g (by rfl) (.tmp 67) HN.out HY2.out rfl rfl ?_)
    | (refine wpList_eqs1_g (by rfl) (.tmp 65) (.tmp 68) 9 bb HY1.out.1 rfl rfl rfl ?_)
    | fail)
  go_ret
  exact ⟨rfl, H3.out⟩
theorem range_up {w w' : World} {g o : Nat} {cs : List Value} (h : w.rangeAt g o cs) {B : Nat} (hb : Below B w w') (hg : g < B) : w'.rangeAt g o cs := fun j v hv => (hb.cell (p := ⟨g, o + j, none⟩) hg).trans (h j v hv)
set_option maxRecDepth 100000 in
set_option maxHeartbeats 8000000 in
theorem lall_c (L : List AN) (hL : L.length ≤ 1000000) (p1 p2 : Nat) (v1 v2 : Value) (w : World) (h1 : ActsAt w p1 27 v1 L) (h2 : ActsAt w p2 27 v2 L) :
    Calls Tryd.prog 12 #[v1, v2, .bool false] w fun e w' => e = .returned (.bool true) ∧ Below w.heap.size w w' := by
  obtain ⟨s1, d1, e1⟩ := h1.len
  obtain ⟨s2, d2, e2⟩ := h2.len
  subst e1 e2
  obtain ⟨n, hn⟩ : ∃ n, n = L.length := ⟨_, rfl⟩
  have HGET : Hid (∀ i x, L[i]? = some x → ∃ g1 u1 g2 u2, s1 = some ⟨g1, 0, none⟩ ∧ s2 = some ⟨g2, 0, none⟩ ∧ g1 < w.heap.size ∧ g2 < w.heap.size ∧ w.rangeAt g1 (i * 7) (rowA (x, u1)) ∧ w.rangeAt g2 (i * 7) (rowA (x, u2)) ∧ Byt w none x u1 ∧ Byt w none x u2) := fun i x hx => by
    obtain ⟨hi', rfl⟩ := List.getElem?_eq_some_iff.1 hx
    obtain ⟨g1, c1, u1, q1, q2, q3, q4, q5⟩ := h1.get i hi'
    obtain ⟨g2, c2, u2, r1, r2, r3, r4, r5⟩ := h2.get i hi'
    injection q1 with q1 _ _
    injection r1 with r1 _ _
    obtain ⟨x1, x2, x3, x4, x5, x6⟩ := q5
    obtain ⟨y1, y2, y3, y4, y5, y6⟩ := r5
    exact ⟨g1, u1, g2, u2, q1, r1, q2, r2, q4, r4, ⟨x1, x2, x3, x4, x5, fun _ _ _ _ _ h => by cases h⟩, ⟨y1, y2, y3, y4, y5, fun _ _ _ _ _ h => by cases h⟩⟩
  have HNL : Hid (n ≤ 1000000) := by show _ ≤ _; rw [hn]; exact hL
  have HNE := Lib.hid hn
  rw [← hn]
  clear h1 h2 hL hn
  go_enter Tryd.func12, Tryd.ntmps12
  go_wp2
  go_loopw [15] (fun vi wr => ∃ i : Nat, i ≤ n ∧ vi = .int .i64 (i : Int) ∧ Hid (Below w.heap.size w wr)) (fun vi _ => n - (intOf vi).toNat)
  case atStart => exact ⟨0, Nat.zero_le _, rfl, Below.refl _ _⟩
  case round =>
    obtain ⟨i, hi, rfl, hbel⟩ := hrel
    by_cases hlt : i < n
    · have hd : decide ((i : Int) < (n : Int)) = true := by simp; omega
      have dl : (i : Int) < (n : Int) := by omega
      have dk0 : ¬ (i : Int) < 0 := by omega
      obtain ⟨x, hx⟩ : ∃ x, L[i]? = some x := ⟨_, List.getElem?_eq_getElem (by rw [← HNE.out]; exact hlt)⟩
      obtain ⟨g1, u1, g2, u2, hs1, hs2, hg1, hg2, hr1, hr2, hb1, hb2⟩ := HGET.out i x hx
      obtain ⟨ua, uc, rfl, hy1, _, _⟩ := hb1
      obtain ⟨ub, ud, rfl, hy2, _, _⟩ := hb2
      obtain ⟨un, hun⟩ : ∃ m, m = x.b.length := ⟨_, rfl⟩
      rw [← hun] at hr1 hr2
      subst hs1 hs2
      have HUN : Hid (x.b.length = un) := hun.symm
      have HR1 : Hid (∀ w', Below wr.heap.size wr w' → w'.rangeAt g1 (i * 7) (rowA (x, .slice ua un uc))) := fun w' h => range_up (range_up hr1 hbel.out hg1) h (Nat.lt_of_lt_of_le hg1 hbel.out.size)
      have HR2 : Hid (∀ w', Below wr.heap.size wr w' → w'.rangeAt g2 (i * 7) (rowA (x, .slice ub un ud))) := fun w' h => range_up (range_up hr2 hbel.out hg2) h (Nat.lt_of_lt_of_le hg2 hbel.out.size)
      have HY1 : Hid (BytesAt wr ua uc x.b) := hy1.up hbel.out (Nat.le_refl _)
      have HY2 : Hid (BytesAt wr ub ud x.b) := hy2.up hbel.out (Nat.le_refl _)
      have ek : IntKind.i64.wrap ((i : Int) + 1) = (i : Int) + 1 := by have := HNL.out; exact IntWalk.i64_in _ (by omega)
      have HI := Lib.hid hlt
      clear hr1 hr2 hy1 hy2 hun hx hg1 hg2 hi hlt
      go_upto_region 6 with fail
      refine wp_region_held_drew (S := fun w' => Below wr.heap.size wr w') (by kernel_rfl) (Below.refl _ _).drew ?_
      intro hS
      generalize wr.drew = WD at hS ⊢
      change wpAnyH _ _ _ _ _ 11 #[false, false, false, false, false, false, false, false, false, false, false] _ _
      refine wpAnyH_take (i := 0) (v := ?_) rfl (by kernel_rfl) (by kernel_rfl) (by kernel_rfl) (fun _ _ _ h => h) (Or.inl ⟨by rfl, ?hy⟩) hS ?_
      case hy => intro w' hSw; go_simp; try with_reducible rfl
      simp only [List.getElem_toArray, List.getElem_cons_succ, List.getElem_cons_zero, Act.put, List.setIfInBounds_toArray, List.set_cons_zero, List.set_cons_succ]
      change wpAnyH _ _ _ _ _ 10 #[true, false, false, false, false, false, false, false, false, false, false] _ _
      refine wpAnyH_take (i := 1) (v := ?_) rfl (by kernel_rfl) (by kernel_rfl) (by kernel_rfl) (fun _ _ _ h => h) (Or.inl ⟨by rfl, ?hy⟩) hS ?_
      case hy => intro w' hSw; go_simp; try with_reducible rfl
      simp only [List.getElem_toArray, List.getElem_cons_succ, List.getElem_cons_zero, Act.put, List.setIfInBounds_toArray, List.set_cons_zero, List.set_cons_succ]
      change wpAnyH _ _ _ _ _ 9 #[true, true, false, false, false, false, false, false, false, false, false] _ _
      refine wpAnyH_take (i := 2) (v := ?_) rfl (by kernel_rfl) (by kernel_rfl) (by kernel_rfl) (fun _ _ _ h => h) (Or.inl ⟨by rfl, ?hy⟩) hS ?_
      case hy => intro w' hSw; go_simp; try with_reducible rfl
      simp only [List.getElem_toArray, List.getElem_cons_succ, List.getElem_cons_zero, Act.put, List.setIfInBounds_toArray, List.set_cons_zero, List.set_cons_succ]
      change wpAnyH _ _ _ _ _ 8 #[true, true, true, false, false, false, false, false, false, false, false] _ _
      refine wpAnyH_take (i := 3) rfl (by kernel_rfl) (by kernel_rfl) (by kernel_rfl) (fun _ _ _ h => h) (yieldsIf_load_mid (by rfl) _ _ rfl g1 (i * 7) rfl (rowA (x, .slice ua un uc)) _ (fun w' h => HR1.out w' h) Tryd.underlying27 rfl (by rw [act27]; rfl)) hS ?_
      simp only [List.getElem_toArray, List.getElem_cons_succ, List.getElem_cons_zero, Act.put, List.setIfInBounds_toArray, List.set_cons_zero, List.set_cons_succ]
      change wpAnyH _ _ _ _ _ 7 #[true, true, true, true, false, false, false, false, false, false, false] _ _
      refine wpAnyH_take (i := 4) (v := ?_) rfl (by kernel_rfl) (by kernel_rfl) (by kernel_rfl) (fun _ _ _ h => h) (Or.inl ⟨by rfl, ?hy⟩) hS ?_
      case hy => intro w' hSw; go_simp; try with_reducible rfl
      simp only [List.getElem_toArray, List.getElem_cons_succ, List.getElem_cons_zero, Act.put, List.setIfInBounds_toArray, List.set_cons_zero, List.set_cons_succ]
      change wpAnyH _ _ _ _ _ 6 #[true, true, true, true, true, false, false, false, false, false, false] _ _
      refine wpAnyH_take (i := 5) (v := ?_) rfl (by kernel_rfl) (by kernel_rfl) (by kernel_rfl) (fun _ _ _ h => h) (Or.inl ⟨by rfl, ?hy⟩) hS ?_
      case hy => intro w' hSw; go_simp; try with_reducible rfl
      simp only [List.getElem_toArray, List.getElem_cons_succ, List.getElem_cons_zero, Act.put, List.setIfInBounds_toArray, List.set_cons_zero, List.set_cons_succ]
      change wpAnyH _ _ _ _ _ 5 #[true, true, true, true, true, true, false, false, false, false, false] _ _
      refine wpAnyH_take (i := 6) (v := ?_) rfl (by kernel_rfl) (by kernel_rfl) (by kernel_rfl) (fun _ _ _ h => h) (Or.inl ⟨by rfl, ?hy⟩) hS ?_
      case hy => intro w' hSw; go_simp; try with_reducible rfl
      simp only [List.getElem_toArray, List.getElem_cons_succ, List.getElem_cons_zero, Act.put, List.setIfInBounds_toArray, List.set_cons_zero, List.set_cons_succ]
      change wpAnyH _ _ _ _ _ 4 #[true, true, true, true, true, true, true, false, false, false, false] _ _
      refine wpAnyH_take (i := 7) rfl (by kernel_rfl) (by kernel_rfl) (by kernel_rfl) (fun _ _ _ h => h) (yieldsIf_load_mid (by rfl) _ _ rfl g2 (i * 7) rfl (rowA (x, .slice ub un ud)) _ (fun w' h => HR2.out w' h) Tryd.underlying27 rfl (by rw [act27]; rfl)) hS ?_
      simp only [List.getElem_toArray, List.getElem_cons_succ, List.getElem_cons_zero, Act.put, List.setIfInBounds_toArray, List.set_cons_zero, List.set_cons_succ]
      change wpAnyH _ _ _ _ _ 3 #[true, true, true, true, true, true, true, true, false, false, false] _ _
      refine wpAnyH_take (i := 8) (v := ?_) rfl (by kernel_rfl) (by kernel_rfl) (by kernel_rfl) (fun _ _ _ h => h) (Or.inl ⟨by rfl, ?hy⟩) hS ?_
      case hy => intro w' hSw; go_simp; try with_reducible rfl
      simp only [List.getElem_toArray, List.getElem_cons_succ, List.getElem_cons_zero, Act.put, List.setIfInBounds_toArray, List.set_cons_zero, List.set_cons_succ]
      change wpAnyH _ _ _ _ _ 2 #[true, true, true, true, true, true, true, true, true, false, false] _ _
      refine wpAnyH_ready (rs := [9]) (by kernel_rfl) (by simp) ?_
      refine AllReadyH.cons rfl (fun K hK => ?_) AllReadyH.nil
      rw [if_pos (by rfl)]
      go_simp
      refine (lsame_c x un ua ub uc ud HUN.out WD (HY1.out.up hS (Nat.le_refl _)) (HY2.out.up hS (Nat.le_refl _))).mono ?_
      rintro e wa ⟨rfl, hb10⟩
      refine hK.out _ _ (hS.trans (hb10.mono hS.size)) (fun hSa => ?_)
      clear hK K
      simp only [List.getElem_toArray, List.getElem_cons_succ, List.getElem_cons_zero, Act.put, List.setIfInBounds_toArray, List.set_cons_zero, List.set_cons_succ]
      change wpAnyH _ _ _ _ _ 1 #[true, true, true, true, true, true, true, true, true, true, false] _ _
      refine wpAnyH_take (i := 10) (v := ?_) rfl (by kernel_rfl) (by kernel_rfl) (by kernel_rfl) (fun _ _ _ h => h) (Or.inl ⟨by rfl, ?hy⟩) hSa ?_
      case hy => intro w' hSw; go_simp; try with_reducible rfl
      simp only [List.getElem_toArray, List.getElem_cons_succ, List.getElem_cons_zero, Act.put, List.setIfInBounds_toArray, List.set_cons_zero, List.set_cons_succ]
      change wpAnyH _ _ _ _ _ 0 #[true, true, true, true, true, true, true, true, true, true, true] _ _
      refine wpAnyH_done (by kernel_rfl) ?_ _
      have HBF : Hid (Below w.heap.size w wa) := hbel.out.trans (hSa.mono hbel.out.size)
      clear hS hSa hb10 hbel
      go_wp2
      go_roundw
      case rel => exact ⟨i + 1, by have := HI.out; omega, by go_num, HBF.out⟩
      case measure => simp [intOf]; have := HI.out; omega
    · have hd : decide ((i : Int) < (n : Int)) = false := by simp; omega
      have dl : ¬ (i : Int) < (n : Int) := by omega
      go_wp2
      go_ret
      exact ⟨rfl, hbel.out⟩
theorem Byt.fresh {w w' : World} {own own' : Option Nat} {a : AN} {u : Value} (h : Byt w own a u) (hb : Below w.heap.size w w') (ho : ∀ k, own' = some k → w.heap.size ≤ k) : Byt w' own' a u := by
  obtain ⟨va, vc, h1, h2, h3, h4⟩ := h
  refine ⟨va, vc, h1, h2.up hb (Nat.le_refl _), h3, fun h0 g o z hg e => ?_⟩
  obtain ⟨g', o', e1, _, e2, _⟩ := h2.2 h0
  rw [hg] at e1
  cases e1
  have := ho g e
  omega
theorem ActsAt.own {w : World} {base : Nat} {t : TypeId} {v : Value} {L : List AN} (h : ActsAt w base t v L) (k : Nat) (hk : v.ownBlock = some k) : base ≤ k := by
  obtain ⟨xs, _, h2, _⟩ := h
  exact (h2.lt k hk).1
set_option maxRecDepth 100000 in
set_option maxHeartbeats 8000000 in
theorem lplain_c (L : List AN) (hL : L.length ≤ 900000) (p1 : Nat) (v1 : Value) (w : World) (h1 : ActsAt w p1 44 v1 L) :
    Calls Tryd.prog 13 #[v1] w fun e w' => ∃ v, e = .returned v ∧ ActsAt w' w.heap.size 27 v L ∧ Below w.heap.size w w' := by
  obtain ⟨s1, d1, e1⟩ := h1.len
  subst e1
  obtain ⟨n, hn⟩ : ∃ n, n = L.length := ⟨_, rfl⟩
  have HGET : Hid (∀ i x, L[i]? = some x → ∃ g1 u1, s1 = some ⟨g1, 0, none⟩ ∧ g1 < w.heap.size ∧ w.rangeAt g1 (i * 7) (rowA (x, u1)) ∧ Byt w none x u1) := fun i x hx => by
    obtain ⟨hi', rfl⟩ := List.getElem?_eq_some_iff.1 hx
    obtain ⟨g1, c1, u1, q1, q2, q3, q4, q5⟩ := h1.get i hi'
    injection q1 with q1 _ _
    obtain ⟨x1, x2, x3, x4, x5, x6⟩ := q5
    exact ⟨g1, u1, q1, q2, q4, ⟨x1, x2, x3, x4, x5, fun _ _ _ _ _ h => by cases h⟩⟩
  have HNL : Hid (n ≤ 900000) := by show _ ≤ _; rw [hn]; exact hL
  have HNE := Lib.hid hn
  rw [← hn]
  clear h1 hL hn
  go_enter Tryd.func13, Tryd.ntmps13
  go_wp2
  go_loopw [3, 8] (fun vo vi wr => ∃ i : Nat, i ≤ n ∧ vi = .int .i64 (i : Int) ∧ Hid (ActsAt wr w.heap.size 27 vo (L.take i)) ∧ Hid (Below w.heap.size w wr)) (fun _ vi _ => n - (intOf vi).toNat)
  case atStart => exact ⟨0, Nat.zero_le _, rfl, by rw [List.take_zero]; exact actsAt_nil _ _ _, Below.refl _ _⟩
  case round =>
    obtain ⟨i, hi, rfl, hacts, hbel⟩ := hrel
    obtain ⟨oa, oc, ho⟩ := hacts.out.len
    subst ho
    by_cases hlt : i < n
    · have hd : decide ((i : Int) < (n : Int)) = true := by simp; omega
      have dl : (i : Int) < (n : Int) := by omega
      have dk0 : ¬ (i : Int) < 0 := by omega
      have hiL : i < L.length := by rw [← HNE.out]; exact hlt
      obtain ⟨a, hx⟩ : ∃ x, L[i]? = some x := ⟨_, List.getElem?_eq_getElem hiL⟩
      obtain ⟨g1, u1, hs1, hg1, hr1, hb1⟩ := HGET.out i a hx
      have HTK : Hid (L.take (i + 1) = L.take i ++ [a]) := by show _ = _; obtain ⟨_, h9⟩ := List.getElem?_eq_some_iff.1 hx; rw [List.take_succ_eq_append_getElem hiL, h9]
      obtain ⟨m, hm⟩ : ∃ m, m = (L.take i).length := ⟨_, rfl⟩
      have HMI : Hid (m ≤ i ∧ (L.take i).length = m) := ⟨by rw [hm, List.length_take]; omega, hm.symm⟩
      rw [← hm]
      have HBY0 := Lib.hid hb1
      obtain ⟨va, vc, hu1, hy1, hnil, _⟩ := hb1
      subst hu1
      obtain ⟨un, hun⟩ : ∃ m, m = a.b.length := ⟨_, rfl⟩
      rw [← hun] at hr1 HBY0
      subst hs1
      have HR1 : Hid (wr.rangeAt g1 (i * 7) (rowA (a, .slice va un vc))) := range_up hr1 hbel.out hg1
      have ek : IntKind.i64.wrap ((i : Int) + 1) = (i : Int) + 1 := by have := HNL.out; exact IntWalk.i64_in _ (by omega)
      have HI := Lib.hid hlt
      have HUN := Lib.hid hun
      clear hr1 hy1 hnil hun hx hg1 hi hlt hiL hm
      go_upto_region 5 with (first
        | (refine wpList_load_mid rfl 44 (.tmp 10) rfl g1 (i * 7) rfl (rowA (a, .slice va un vc)) _ HR1.out Tryd.underlying44 rfl (by rw [act44]; rfl) ?_)
        | (refine wpList_store_row rfl 44 (.tmp 5) (.tmp 11) rfl wr.heap.size (actA a (.slice va un vc)) rfl rfl 44 _ (heap_new' _ _) (by rw [act44]; rfl) (by rfl) (actA_one _ _ _ _) ?_)
        | fail)
      have HC5 : Hid (((wr.alloc (.cells #[.int .i64 0, .bool false, .int .i64 0, .int .i64 0, .int .i64 0, .int .i64 0, .slice none 0 0] 44)).setRow wr.heap.size (actA a (.slice va un vc))).heap[wr.heap.size]? = some (.cells (actA a (.slice va un vc)) 44 (0, 0))) := setRow_heap _ _ _ _ _ _ (heap_new' _ _)
      have HB5 : Hid (Below wr.heap.size wr ((wr.alloc (.cells #[.int .i64 0, .bool false, .int .i64 0, .int .i64 0, .int .i64 0, .int .i64 0, .slice none 0 0] 44)).setRow wr.heap.size (actA a (.slice va un vc)))) := below_setRow ((Below.refl _ _).alloc (Nat.le_refl _) _) (Nat.le_refl _) _
      generalize (wr.alloc (.cells #[.int .i64 0, .bool false, .int .i64 0, .int .i64 0, .int .i64 0, .int .i64 0, .slice none 0 0] 44)).setRow wr.heap.size (actA a (.slice va un vc)) = w5 at *
      have HA5 : Hid (ActsAt w5 w.heap.size 27 (.slice oa (L.take i).length oc) (L.take i)) := hacts.out.up HB5.out
      have HBF5 : Hid (Below w.heap.size w w5) := hbel.out.trans (HB5.out.mono hbel.out.size)
      generalize wr.heap.size = ab at *
      have c0 := (cells_at HC5.out 0).trans (show _ = some (Value.int .i64 a.kind) from rfl)
      have c1 := (cells_at HC5.out 1).trans (show _ = some (Value.bool a.yes) from rfl)
      have c2 := (cells_at HC5.out 2).trans (show _ = some (Value.int .i64 a.which) from rfl)
      have c3 := (cells_at HC5.out 3).trans (show _ = some (Value.int .i64 a.k) from rfl)
      have c4 := (cells_at HC5.out 4).trans (show _ = some (Value.int .i64 a.n) from rfl)
      have c5 := (cells_at HC5.out 5).trans (show _ = some (Value.int .i64 a.at_) from rfl)
      have c6 := (cells_at HC5.out 6).trans (show _ = some (Value.slice va un vc) from rfl)
      clear hacts hbel HB5 HR1
      have HA6 : Hid (ActsAt (w5.alloc (.cells (actA a (.slice va un vc)) 27)) w.heap.size 27 (.slice oa (L.take i).length oc) (L.take i)) := HA5.out.up ((Below.refl _ _).alloc (Nat.le_refl _) _)
      have HBF6 : Hid (Below w.heap.size w (w5.alloc (.cells (actA a (.slice va un vc)) 27))) := HBF5.out.alloc HBF5.out.size _
      have HBX6 : Hid (Byt (w5.alloc (.cells (actA a (.slice va un vc)) 27)) (Value.slice oa (L.take i).length oc).ownBlock a (.slice va un vc)) := HBY0.out.fresh HBF6.out (fun k hk => HA6.out.own k hk)
      have HC6 : Hid ((w5.alloc (.cells (actA a (.slice va un vc)) 27)).heap[w5.heap.size]? = some (.cells (actA a (.slice va un vc)) 27 (0, 0))) := heap_new' _ _
      rw [HMI.out.2] at HA6 HBX6
      go_wp2_with (first
        | (refine wpList_build_act rfl 22 27 (.tmp 27) rfl Tryd.underlying22 ginfo (a := a) (u := .slice va un vc) rfl ?_)
        | (refine wpList_append_act rfl 22 27 (.tmp 12) (.tmp 28) rfl Tryd.underlying22 ginfo (v := .slice oa m oc) (L := L.take i) (base := w.heap.size) (a := a) (u := .slice va un vc) rfl HA6.out rfl HC6.out HBX6.out (by have := HMI.out; have := HI.out; have := HNL.out; omega) HBF6.out.size ?_; intro v6 w6 hacts6 hgr6 hown6; have HA7 := Lib.hid hacts6; have HBF7 : Hid (Below w.heap.size w w6) := HBF6.out.grown hgr6 HBF6.out.size (fun k hk => HA6.out.own k hk); clear hacts6 hgr6 hown6)
        | fail)
      go_roundw
      case rel => exact ⟨i + 1, by have := HI.out; omega, by go_num, by rw [HTK.out]; exact HA7.out, HBF7.out⟩
      case measure => simp [intOf]; have := HI.out; omega
    · have hd : decide ((i : Int) < (n : Int)) = false := by simp; omega
      have dl : ¬ (i : Int) < (n : Int) := by omega
      have htk : L.take i = L := List.take_of_length_le (by rw [← HNE.out]; omega)
      rw [htk] at hacts
      rw [htk]
      obtain ⟨m, hm⟩ : ∃ m, m = L.length := ⟨_, rfl⟩
      rw [← hm] at hacts
      rw [← hm]
      clear htk hm
      go_wp2
      go_ret
      exact ⟨_, rfl, hacts.out, hbel.out⟩
end Go.Proofs.YteennbdakjjcfaaDoor
