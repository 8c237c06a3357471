/- The walk of the law CtrBack. Printed by gen_cback.py. -/
import Derived.Test.YtnmjkdmhfogeiaaApp
set_option linter.unusedVariables false
set_option linter.unusedSimpArgs false
namespace Go.Proofs.Ytnmjkdmhfogeiaa
open Go Go.RowKit GfM
theorem run_eqs (l m : List Nat) (hl : ∀ x ∈ l, x < 256) (hm : ∀ x ∈ m, x < 256) (E : Operand → Value) (x y : Operand) (t : TypeId) (o : Oper) (ho : o.op = .binOp .eql 9 x y t) (hx : E x = strV l) (hy : E y = strV m) (w : World) :
    (execOp E o).run Try.prog w = .ok (.value (.bool (decide (l = m)))) w := by
  have key : (l.map UInt8.ofNat == m.map UInt8.ofNat) = decide (l = m) := by
    by_cases h : l = m
    · subst h; simp
    · have hne : l.map UInt8.ofNat ≠ m.map UInt8.ofNat := fun h' => h (strV_inj hl hm h')
      simp [h, hne]
  unfold execOp
  simp only [ho, hx, hy]
  unfold strV
  go_simp
theorem run_eqs1 (l : List Nat) (hl : ∀ x ∈ l, x < 256) (E : Operand → Value) (x y : Operand) (t : TypeId) (o : Oper) (ho : o.op = .binOp .eql 9 x y t) (hx : E x = strV l) (hy : E y = strV l) (w : World) :
    (execOp E o).run Try.prog w = .ok (.value (.bool true)) w := by
  rw [run_eqs l l hl hl E x y t o ho hx hy w]; simp
theorem new_as16 (b g : Nat) (k : List Nat) (hk : k.length = 16) (hkb : ∀ x ∈ k, x < 256) (w : World) (hB : IsBox w b) (hg : w.heap[g]? = some (.cells (bA k) 44 (0, 0))) :
    Calls Try.prog 45 #[.pointer (some ⟨b, 0, none⟩), .slice (some ⟨g, 0, none⟩) 16 16] w fun e w' => ∃ c g' n cp, e = .returned (.tuple #[.pointer (some ⟨c, 0, none⟩), .int .i64 0]) ∧ Cip w' c b g' n cp (roundsK k) (wordsK k) ∧ Below w.heap.size w w' := by
  have h := new_c b g 0 16 k (Or.inl hk) hkb (by omega) w hB (lt_of_block hg) (fun j hj => by rw [Nat.zero_add, cells_at hg j]; exact bA_get k j hj)
  rw [hk] at h
  exact h.mono fun e w' ⟨c, g', n, cp, h1, h2, _, _, h3⟩ => ⟨c, g', n, cp, h1, h2, h3⟩
/-- the bytes of a slice that comes in, cut to m -/
theorem bytesAt_in {w : World} {a : Option Addr} {len cap : Nat} {zs : List Int} (h : IsRow .u8 w a len cap zs) (m : Nat) : ∃ l, l.length = min len m ∧ BytesAt w a cap l := by
  obtain ⟨l, hl, hR⟩ := rowIn h
  refine ⟨l.take m, by rw [List.length_take, hl]; omega, fun x hx => hR.1 x (List.mem_of_mem_take hx), fun h0 => ?_⟩
  have h0' : 0 < l.length := by rw [List.length_take] at h0; omega
  rcases hR.2 with ⟨h1, h2⟩ | ⟨g, o, cap', sp, h1, h2, h3, h4, h5⟩
  · rw [h2] at h0'; simp at h0'
  · obtain ⟨rfl, hg⟩ := h4 h0'
    cases h1
    refine ⟨g, o, rfl, by rw [List.length_take]; omega, hg, fun j hj => ?_⟩
    rw [List.length_take] at hj
    rw [h5 j (by omega), List.getD_eq_getElem?_getD, List.getD_eq_getElem?_getD, List.getElem?_take_of_lt (by omega)]
theorem row_cap {w : World} {a : Option Addr} {len cap : Nat} {zs : List Int} {k : IntKind} (hrow : IsRow k w a len cap zs) : len ≤ cap ∧ cap ≤ 9223372036854775807 := by
  rcases hrow with ⟨rfl, rfl, rfl, _⟩ | ⟨_, _, h1, h2, _⟩
  · exact ⟨Nat.le_refl _, Nat.zero_le _⟩
  · exact ⟨h1, h2⟩
set_option maxRecDepth 100000 in
set_option maxHeartbeats 8000000 in
theorem walkCtrBack (w : World) (k : List Nat) (hk : k.length = 16) (hkb : ∀ x ∈ k, x < 256) (e : Int) (we : (Lit.int .u64 e).wf = true) (b : Int) (wb : (Lit.int .u32 b).wf = true) (a : Option Addr) (len cap : Nat) (zs : List Int) (hrow : IsRow .u8 w a len cap zs) :
    Calls Try.prog 19 #[.agg (bA k), .int .u64 e, .int .u32 b, .slice a len cap] w fun e w' => e = .returned (.bool true) ∧ Below w.heap.size w w' := by
  obtain ⟨e, he, rfl⟩ := wf_nat64 we
  obtain ⟨b, hb, rfl⟩ := wf_nat32 wb
  obtain ⟨l, hl, hBA⟩ := bytesAt_in hrow 300
  obtain ⟨hcl, hcm⟩ := row_cap hrow
  have h0 := heap_new' w (.cells (bA k) 44)
  have hbl : Below w.heap.size w (w.alloc (.cells (bA k) 44)) := (Below.refl _ _).alloc (Nat.le_refl _) _
  have HE := Lib.hid he
  have HB := Lib.hid hb
  have HK := Lib.hid (And.intro hk hkb)
  have H0 := Lib.hid h0
  have HBL := Lib.hid hbl
  have HBA := Lib.hid hBA
  have HLL := Lib.hid hl
  have HSH := Lib.hid (fun w => short_c a len cap hcl hcm w)
  have hm300 : min len 300 ≤ 300 := by omega
  have HM3 := Lib.hid hm300
  generalize min len 300 = n at HLL HSH HM3
  clear hrow we wb hk hkb h0 hbl he hb hBA hl hcl hcm hm300
  generalize hW0 : (w.alloc (.cells (bA k) 44)) = W0 at *
  go_enter Try.func19, Try.ntmps19
  go_wp2_with fail
  refine (HSH.out _).mono ?_
  rintro e w' ⟨rfl, rfl⟩
  go_wp2
  clear hW0
  go_cut [9, 10] from 13 to 18 (fun s3 s4 wx => ∃ c b' g n cp, s3 = .pointer (some ⟨c, 0, none⟩) ∧ s4 = .int .i64 0 ∧ Cip wx c b' g n cp (roundsK k) (wordsK k) ∧ Below W0.heap.size W0 wx)
  case first =>
    refine wp_region_held_drew (S := fun w' => Below W0.heap.size W0 w') (by kernel_rfl) (Below.refl _ _).drew ?_
    intro hS
    generalize W0.drew = WD at hS ⊢
    change wpAnyH _ _ _ _ _ 8 #[false, false, false, false, false, false, false, false] _ _
    refine wpAnyH_take (i := 1) (v := ?_) rfl (by kernel_rfl) (by kernel_rfl) (by kernel_rfl) (fun _ _ _ h => h) (Or.inl ⟨by rfl, ?hy⟩) hS ?_
    case hy => intro w' hSw; go_simp; try with_reducible rfl
    simp only [List.getElem_toArray, List.getElem_cons_succ, List.getElem_cons_zero, Act.put, List.setIfInBounds_toArray, List.set_cons_zero, List.set_cons_succ]
    change wpAnyH _ _ _ _ _ 7 #[false, true, false, false, false, false, false, false] _ _
    refine wpAnyH_ready (rs := [0]) (by kernel_rfl) (by simp) ?_
    refine AllReadyH.cons rfl (fun K hK => ?_) AllReadyH.nil
    rw [if_pos (by rfl)]
    go_simp
    refine (newbox_c WD).mono ?_
    rintro e w1 ⟨rfl, hbx, hlt1, hb1⟩
    refine hK.out _ _ (hS.trans (hb1.mono hS.size)) (fun hS1 => ?_)
    clear hK K
    simp only [List.getElem_toArray, List.getElem_cons_succ, List.getElem_cons_zero, Act.put, List.setIfInBounds_toArray, List.set_cons_zero, List.set_cons_succ]
    change wpAnyH _ _ _ _ _ 6 #[true, true, false, false, false, false, false, false] _ _
    refine wpAnyH_ready (rs := [2]) (by kernel_rfl) (by simp) ?_
    refine AllReadyH.cons rfl (fun K hK => ?_) AllReadyH.nil
    rw [if_pos (by rfl)]
    go_simp
    refine (new_as16 WD.heap.size w.heap.size k HK.out.1 HK.out.2 w1 hbx ((hS1.block _ (lt_of_block H0.out)).trans H0.out)).mono ?_
    rintro e w3 ⟨c, g, n, cp, rfl, hC, hb3⟩
    refine hK.out _ _ (hS1.trans (hb3.mono hS1.size)) (fun hS3 => ?_)
    clear hK K
    simp only [List.getElem_toArray, List.getElem_cons_succ, List.getElem_cons_zero, Act.put, List.setIfInBounds_toArray, List.set_cons_zero, List.set_cons_succ]
    change wpAnyH _ _ _ _ _ 5 #[true, true, true, false, false, false, false, false] _ _
    refine wpAnyH_take (i := 3) (v := ?_) rfl (by kernel_rfl) (by kernel_rfl) (by kernel_rfl) (fun _ _ _ h => h) (Or.inl ⟨by rfl, ?hy⟩) hS3 ?_
    case hy => intro w' hSw; go_simp; try with_reducible rfl
    simp only [List.getElem_toArray, List.getElem_cons_succ, List.getElem_cons_zero, Act.put, List.setIfInBounds_toArray, List.set_cons_zero, List.set_cons_succ]
    change wpAnyH _ _ _ _ _ 4 #[true, true, true, true, false, false, false, false] _ _
    refine wpAnyH_take (i := 4) (v := ?_) rfl (by kernel_rfl) (by kernel_rfl) (by kernel_rfl) (fun _ _ _ h => h) (Or.inl ⟨by rfl, ?hy⟩) hS3 ?_
    case hy => intro w' hSw; go_simp; try with_reducible rfl
    simp only [List.getElem_toArray, List.getElem_cons_succ, List.getElem_cons_zero, Act.put, List.setIfInBounds_toArray, List.set_cons_zero, List.set_cons_succ]
    change wpAnyH _ _ _ _ _ 3 #[true, true, true, true, true, false, false, false] _ _
    refine wpAnyH_take (i := 5) (v := ?_) rfl (by kernel_rfl) (by kernel_rfl) (by kernel_rfl) (fun _ _ _ h => h) (Or.inl ⟨by rfl, ?hy⟩) hS3 ?_
    case hy => intro w' hSw; go_simp; try with_reducible rfl
    simp only [List.getElem_toArray, List.getElem_cons_succ, List.getElem_cons_zero, Act.put, List.setIfInBounds_toArray, List.set_cons_zero, List.set_cons_succ]
    change wpAnyH _ _ _ _ _ 2 #[true, true, true, true, true, true, false, false] _ _
    refine wpAnyH_take (i := 6) (v := ?_) rfl (by kernel_rfl) (by kernel_rfl) (by kernel_rfl) (fun _ _ _ h => h) (Or.inl ⟨by rfl, ?hy⟩) hS3 ?_
    case hy => intro w' hSw; go_simp; try with_reducible rfl
    simp only [List.getElem_toArray, List.getElem_cons_succ, List.getElem_cons_zero, Act.put, List.setIfInBounds_toArray, List.set_cons_zero, List.set_cons_succ]
    change wpAnyH _ _ _ _ _ 1 #[true, true, true, true, true, true, true, false] _ _
    refine wpAnyH_take (i := 7) (v := ?_) rfl (by kernel_rfl) (by kernel_rfl) (by kernel_rfl) (fun _ _ _ h => h) (Or.inl ⟨by rfl, ?hy⟩) hS3 ?_
    case hy => intro w' hSw; go_simp; try with_reducible rfl
    simp only [List.getElem_toArray, List.getElem_cons_succ, List.getElem_cons_zero, Act.put, List.setIfInBounds_toArray, List.set_cons_zero, List.set_cons_succ]
    change wpAnyH _ _ _ _ _ 0 #[true, true, true, true, true, true, true, true] _ _
    refine wpAnyH_done (by kernel_rfl) ?_ _
    go_wp2_with fail
    go_meet
    exact ⟨c, _, g, n, cp, rfl, rfl, hC, hS3⟩
  case rest =>
    obtain ⟨c, b', g, n0, cp, rfl, rfl, hC, hb0⟩ := hcut
    have hbw : Below w.heap.size w wc := HBL.out.trans (hb0.mono HBL.out.size)
    have HBW := Lib.hid hbw
    have HAP : Hid (∀ (l' : List Nat) (a' : Option Addr) (cap' : Nat) (w' : World), l'.length = n → BytesAt w' a' cap' l' → Below wc.heap.size wc w' → Calls Try.prog 56 #[.pointer (some ⟨c, 0, none⟩), .int .u64 (e : Int), .int .u32 (b : Int), .slice a' n cap'] w' fun r w'' => ∃ q, r = .returned (.slice (some ⟨q, 0, none⟩) n n) ∧ w'.heap.size ≤ q ∧ w''.heap[q]? = some (.cells (bA (xorL l' (strL k e b n))) 5 (0, 0)) ∧ Below w'.heap.size w' w'') :=
      fun l' a' cap' w' hl' hb' hbel => apply_c (Or.inl HK.out.1) e b HE.out HB.out a' cap' l' n hl' (by have := HM3.out; omega) w' (hC.up hbel (Nat.le_refl _)) hb'
    have HLT : Hid (∀ x ∈ strL k e b n, x < 256) := strL_lt (Or.inl HK.out.1) hC.fbyte e b n
    have HBI : Hid (∀ w', Below wc.heap.size wc w' → BytesAt w' a cap l) := fun w' h => HBA.out.up (hbw.trans (h.mono hbw.size)) (Nat.le_refl _)
    clear hC hb0 hbw
    go_wp2
    refine wp_region_held_drew (S := fun w' => Below wc.heap.size wc w') (by kernel_rfl) (Below.refl _ _).drew ?_
    intro hS
    generalize wc.drew = WD at hS ⊢
    change wpAnyH _ _ _ _ _ 21 #[false, false, false, false, false, false, false, false, false, false, false, false, false, false, false, false, false, false, false, false, false] _ _
    refine wpAnyH_take (i := 0) (v := ?_) rfl (by kernel_rfl) (by kernel_rfl) (by kernel_rfl) (fun _ _ _ h => h) (Or.inl ⟨by rfl, ?hy⟩) hS ?_
    case hy => intro w' hSw; go_simp; try with_reducible rfl
    simp only [List.getElem_toArray, List.getElem_cons_succ, List.getElem_cons_zero, Act.put, List.setIfInBounds_toArray, List.set_cons_zero, List.set_cons_succ]
    change wpAnyH _ _ _ _ _ 20 #[true, false, false, false, false, false, false, false, false, false, false, false, false, false, false, false, false, false, false, false, false] _ _
    refine wpAnyH_take (i := 1) (v := ?_) rfl (by kernel_rfl) (by kernel_rfl) (by kernel_rfl) (fun _ _ _ h => h) (Or.inl ⟨by rfl, ?hy⟩) hS ?_
    case hy => intro w' hSw; go_simp; try with_reducible rfl
    simp only [List.getElem_toArray, List.getElem_cons_succ, List.getElem_cons_zero, Act.put, List.setIfInBounds_toArray, List.set_cons_zero, List.set_cons_succ]
    change wpAnyH _ _ _ _ _ 19 #[true, true, false, false, false, false, false, false, false, false, false, false, false, false, false, false, false, false, false, false, false] _ _
    refine wpAnyH_take (i := 2) (v := ?_) rfl (by kernel_rfl) (by kernel_rfl) (by kernel_rfl) (fun _ _ _ h => h) (Or.inl ⟨by rfl, ?hy⟩) hS ?_
    case hy => intro w' hSw; go_simp; try with_reducible rfl
    simp only [List.getElem_toArray, List.getElem_cons_succ, List.getElem_cons_zero, Act.put, List.setIfInBounds_toArray, List.set_cons_zero, List.set_cons_succ]
    change wpAnyH _ _ _ _ _ 18 #[true, true, true, false, false, false, false, false, false, false, false, false, false, false, false, false, false, false, false, false, false] _ _
    refine wpAnyH_take (i := 3) (v := ?_) rfl (by kernel_rfl) (by kernel_rfl) (by kernel_rfl) (fun _ _ _ h => h) (Or.inl ⟨by rfl, ?hy⟩) hS ?_
    case hy => intro w' hSw; go_simp; try with_reducible rfl
    simp only [List.getElem_toArray, List.getElem_cons_succ, List.getElem_cons_zero, Act.put, List.setIfInBounds_toArray, List.set_cons_zero, List.set_cons_succ]
    change wpAnyH _ _ _ _ _ 17 #[true, true, true, true, false, false, false, false, false, false, false, false, false, false, false, false, false, false, false, false, false] _ _
    refine wpAnyH_take (i := 4) (v := ?_) rfl (by kernel_rfl) (by kernel_rfl) (by kernel_rfl) (fun _ _ _ h => h) (Or.inl ⟨by rfl, ?hy⟩) hS ?_
    case hy => intro w' hSw; go_simp; try with_reducible rfl
    simp only [List.getElem_toArray, List.getElem_cons_succ, List.getElem_cons_zero, Act.put, List.setIfInBounds_toArray, List.set_cons_zero, List.set_cons_succ]
    change wpAnyH _ _ _ _ _ 16 #[true, true, true, true, true, false, false, false, false, false, false, false, false, false, false, false, false, false, false, false, false] _ _
    refine wpAnyH_take (i := 5) (v := ?_) rfl (by kernel_rfl) (by kernel_rfl) (by kernel_rfl) (fun _ _ _ h => h) (Or.inl ⟨by rfl, ?hy⟩) hS ?_
    case hy => intro w' hSw; go_simp; try with_reducible rfl
    simp only [List.getElem_toArray, List.getElem_cons_succ, List.getElem_cons_zero, Act.put, List.setIfInBounds_toArray, List.set_cons_zero, List.set_cons_succ]
    change wpAnyH _ _ _ _ _ 15 #[true, true, true, true, true, true, false, false, false, false, false, false, false, false, false, false, false, false, false, false, false] _ _
    refine wpAnyH_take (i := 6) (v := ?_) rfl (by kernel_rfl) (by kernel_rfl) (by kernel_rfl) (fun _ _ _ h => h) (Or.inl ⟨by rfl, ?hy⟩) hS ?_
    case hy => intro w' hSw; go_simp; try with_reducible rfl
    simp only [List.getElem_toArray, List.getElem_cons_succ, List.getElem_cons_zero, Act.put, List.setIfInBounds_toArray, List.set_cons_zero, List.set_cons_succ]
    change wpAnyH _ _ _ _ _ 14 #[true, true, true, true, true, true, true, false, false, false, false, false, false, false, false, false, false, false, false, false, false] _ _
    refine wpAnyH_take (i := 7) (v := ?_) rfl (by kernel_rfl) (by kernel_rfl) (by kernel_rfl) (fun _ _ _ h => h) (Or.inl ⟨by rfl, ?hy⟩) hS ?_
    case hy => intro w' hSw; go_simp; try with_reducible rfl
    simp only [List.getElem_toArray, List.getElem_cons_succ, List.getElem_cons_zero, Act.put, List.setIfInBounds_toArray, List.set_cons_zero, List.set_cons_succ]
    change wpAnyH _ _ _ _ _ 13 #[true, true, true, true, true, true, true, true, false, false, false, false, false, false, false, false, false, false, false, false, false] _ _
    refine wpAnyH_take (i := 8) (v := ?_) rfl (by kernel_rfl) (by kernel_rfl) (by kernel_rfl) (fun _ _ _ h => h) (Or.inl ⟨by rfl, ?hy⟩) hS ?_
    case hy => intro w' hSw; go_simp; try with_reducible rfl
    simp only [List.getElem_toArray, List.getElem_cons_succ, List.getElem_cons_zero, Act.put, List.setIfInBounds_toArray, List.set_cons_zero, List.set_cons_succ]
    change wpAnyH _ _ _ _ _ 12 #[true, true, true, true, true, true, true, true, true, false, false, false, false, false, false, false, false, false, false, false, false] _ _
    refine wpAnyH_take (i := 9) (v := ?_) rfl (by kernel_rfl) (by kernel_rfl) (by kernel_rfl) (fun _ _ _ h => h) (Or.inl ⟨by rfl, ?hy⟩) hS ?_
    case hy => intro w' hSw; go_simp; try with_reducible rfl
    simp only [List.getElem_toArray, List.getElem_cons_succ, List.getElem_cons_zero, Act.put, List.setIfInBounds_toArray, List.set_cons_zero, List.set_cons_succ]
    change wpAnyH _ _ _ _ _ 11 #[true, true, true, true, true, true, true, true, true, true, false, false, false, false, false, false, false, false, false, false, false] _ _
    refine wpAnyH_take (i := 13) (v := ?_) rfl (by kernel_rfl) (by kernel_rfl) (by kernel_rfl) (fun _ _ _ h => h) (Or.inl ⟨by rfl, ?hy⟩) hS ?_
    case hy => intro w' hSw; go_simp; try with_reducible rfl
    simp only [List.getElem_toArray, List.getElem_cons_succ, List.getElem_cons_zero, Act.put, List.setIfInBounds_toArray, List.set_cons_zero, List.set_cons_succ]
    change wpAnyH _ _ _ _ _ 10 #[true, true, true, true, true, true, true, true, true, true, false, false, false, true, false, false, false, false, false, false, false] _ _
    refine wpAnyH_take (i := 14) rfl (by kernel_rfl) (by kernel_rfl) (by kernel_rfl) (fun _ _ _ h => h) (Or.inl ⟨by rfl, fun w' hSw => run_conv_op HLL.out (HBI.out w' hSw) _ (.tmp 32) _ rfl rfl⟩) hS ?_
    simp only [List.getElem_toArray, List.getElem_cons_succ, List.getElem_cons_zero, Act.put, List.setIfInBounds_toArray, List.set_cons_zero, List.set_cons_succ]
    change wpAnyH _ _ _ _ _ 9 #[true, true, true, true, true, true, true, true, true, true, false, false, false, true, true, false, false, false, false, false, false] _ _
    refine wpAnyH_ready (rs := [10]) (by kernel_rfl) (by simp) ?_
    refine AllReadyH.cons rfl (fun K hK => ?_) AllReadyH.nil
    rw [if_pos (by rfl)]
    go_simp
    refine (HAP.out l a cap WD HLL.out (HBI.out _ hS) hS).mono ?_
    rintro r w1 ⟨q1, rfl, hq1, hq1b, hb1⟩
    refine hK.out _ _ (hS.trans (hb1.mono hS.size)) (fun hS1 => ?_)
    clear hK K
    simp only [List.getElem_toArray, List.getElem_cons_succ, List.getElem_cons_zero, Act.put, List.setIfInBounds_toArray, List.set_cons_zero, List.set_cons_succ]
    change wpAnyH _ _ _ _ _ 8 #[true, true, true, true, true, true, true, true, true, true, true, false, false, true, true, false, false, false, false, false, false] _ _
    refine wpAnyH_ready (rs := [11]) (by kernel_rfl) (by simp) ?_
    refine AllReadyH.cons rfl (fun K hK => ?_) AllReadyH.nil
    rw [if_pos (by rfl)]
    go_simp
    have hx1 : ∀ x ∈ xorL l (strL k e b n), x < 256 := xorL_lt HBA.out.1 HLT.out
    have hba1 := bytesAt_block hx1 hq1b
    rw [xorL_len, HLL.out] at hba1
    refine (HAP.out (xorL l (strL k e b n)) _ n w1 (by rw [xorL_len]; exact HLL.out) hba1 hS1).mono ?_
    rintro r w2 ⟨q2, rfl, hq2, hq2b, hb2⟩
    rw [xorL_back] at hq2b
    refine hK.out _ _ (hS1.trans (hb2.mono hS1.size)) (fun hS2 => ?_)
    clear hK K
    simp only [List.getElem_toArray, List.getElem_cons_succ, List.getElem_cons_zero, Act.put, List.setIfInBounds_toArray, List.set_cons_zero, List.set_cons_succ]
    change wpAnyH _ _ _ _ _ 7 #[true, true, true, true, true, true, true, true, true, true, true, true, false, true, true, false, false, false, false, false, false] _ _
    have hba2 := bytesAt_block HBA.out.1 hq2b
    rw [HLL.out] at hba2
    refine wpAnyH_ready (rs := [12]) (by kernel_rfl) (by simp) ?_
    refine AllReadyH.cons rfl (fun K hK => ?_) AllReadyH.nil
    rw [if_pos (by rfl)]
    refine wp_conv (.tmp 30) HLL.out hba2 rfl rfl ?_
    refine hK.out _ _ (hS2) (fun hS3 => ?_)
    clear hK K
    simp only [List.getElem_toArray, List.getElem_cons_succ, List.getElem_cons_zero, Act.put, List.setIfInBounds_toArray, List.set_cons_zero, List.set_cons_succ]
    change wpAnyH _ _ _ _ _ 6 #[true, true, true, true, true, true, true, true, true, true, true, true, true, true, true, false, false, false, false, false, false] _ _
    refine wpAnyH_take (i := 15) rfl (by kernel_rfl) (by kernel_rfl) (by kernel_rfl) (fun _ _ _ h => h) (Or.inl ⟨by rfl, fun w' hSw => run_eqs1 l HBA.out.1 _ (.tmp 31) (.tmp 33) _ _ rfl rfl rfl w'⟩) hS3 ?_
    simp only [List.getElem_toArray, List.getElem_cons_succ, List.getElem_cons_zero, Act.put, List.setIfInBounds_toArray, List.set_cons_zero, List.set_cons_succ]
    change wpAnyH _ _ _ _ _ 5 #[true, true, true, true, true, true, true, true, true, true, true, true, true, true, true, true, false, false, false, false, false] _ _
    refine wpAnyH_take (i := 16) (v := ?_) rfl (by kernel_rfl) (by kernel_rfl) (by kernel_rfl) (fun _ _ _ h => h) (Or.inl ⟨by rfl, ?hy⟩) hS3 ?_
    case hy => intro w' hSw; go_simp; try with_reducible rfl
    simp only [List.getElem_toArray, List.getElem_cons_succ, List.getElem_cons_zero, Act.put, List.setIfInBounds_toArray, List.set_cons_zero, List.set_cons_succ]
    change wpAnyH _ _ _ _ _ 4 #[true, true, true, true, true, true, true, true, true, true, true, true, true, true, true, true, true, false, false, false, false] _ _
    refine wpAnyH_take (i := 17) (v := ?_) rfl (by kernel_rfl) (by kernel_rfl) (by kernel_rfl) (fun _ _ _ h => h) (Or.inl ⟨by rfl, ?hy⟩) hS3 ?_
    case hy => intro w' hSw; go_simp; try with_reducible rfl
    simp only [List.getElem_toArray, List.getElem_cons_succ, List.getElem_cons_zero, Act.put, List.setIfInBounds_toArray, List.set_cons_zero, List.set_cons_succ]
    change wpAnyH _ _ _ _ _ 3 #[true, true, true, true, true, true, true, true, true, true, true, true, true, true, true, true, true, true, false, false, false] _ _
    refine wpAnyH_ready (rs := [18]) (by kernel_rfl) (by simp) ?_
    refine AllReadyH.cons rfl (fun K hK => ?_) AllReadyH.nil
    rw [if_pos (by rfl)]
    go_simp
    refine (awake06_c w2).mono ?_
    rintro r w4 ⟨rfl, hb4⟩
    refine hK.out _ _ (hS3.trans (hb4.mono hS3.size)) (fun hS4 => ?_)
    clear hK K
    simp only [List.getElem_toArray, List.getElem_cons_succ, List.getElem_cons_zero, Act.put, List.setIfInBounds_toArray, List.set_cons_zero, List.set_cons_succ]
    change wpAnyH _ _ _ _ _ 2 #[true, true, true, true, true, true, true, true, true, true, true, true, true, true, true, true, true, true, true, false, false] _ _
    refine wpAnyH_take (i := 19) (v := ?_) rfl (by kernel_rfl) (by kernel_rfl) (by kernel_rfl) (fun _ _ _ h => h) (Or.inl ⟨by rfl, ?hy⟩) hS4 ?_
    case hy => intro w' hSw; go_simp; try with_reducible rfl
    simp only [List.getElem_toArray, List.getElem_cons_succ, List.getElem_cons_zero, Act.put, List.setIfInBounds_toArray, List.set_cons_zero, List.set_cons_succ]
    change wpAnyH _ _ _ _ _ 1 #[true, true, true, true, true, true, true, true, true, true, true, true, true, true, true, true, true, true, true, true, false] _ _
    refine wpAnyH_take (i := 20) (v := ?_) rfl (by kernel_rfl) (by kernel_rfl) (by kernel_rfl) (fun _ _ _ h => h) (Or.inl ⟨by rfl, ?hy⟩) hS4 ?_
    case hy => intro w' hSw; go_simp; try with_reducible rfl
    simp only [List.getElem_toArray, List.getElem_cons_succ, List.getElem_cons_zero, Act.put, List.setIfInBounds_toArray, List.set_cons_zero, List.set_cons_succ]
    change wpAnyH _ _ _ _ _ 0 #[true, true, true, true, true, true, true, true, true, true, true, true, true, true, true, true, true, true, true, true, true] _ _
    refine wpAnyH_done (by kernel_rfl) ?_ _
    go_wp2_with fail
    go_ret
    exact ⟨rfl, HBW.out.trans (hS4.mono HBW.out.size)⟩
end Go.Proofs.Ytnmjkdmhfogeiaa
