/- The walk of the law CtrApplies, with the walk of CtrBack, the reference's cipher of a key and its Apply. -/
import Derived.Test.YtnmjkdmhfogeiaaApp
import Derived.Test.YtnmjkdmhfogeiaaRefN
import Derived.Test.YtnmjkdmhfogeiaaAesZ
import Derived.Test.YtnmjkdmhfogeiaaCtrC
import Derived.Test.YtnmjkdmhfogeiaaRefE
set_option linter.unusedVariables false
set_option linter.unusedSimpArgs false
namespace Go.Proofs.Ytnmjkdmhfogeiaa
open Go Go.RowKit GfM
theorem run_eqs (l m : List Nat) (hl : ∀ x ∈ l, x < 256) (hm : ∀ x ∈ m, x < 256) (E : Operand → Value) (x y : Operand) (t : TypeId) (o : Oper) (ho : o.op = .binOp .eql 9 x y t) (hx : E x = strV l) (hy : E y = strV m) (w : World) :
    (execOp E o).run Try.prog w = .ok (.value (.bool (decide (l = m)))) w := by
  have key : (l.map UInt8.ofNat == m.map UInt8.ofNat) = decide (l = m) := by
    by_cases h : l = m
    · subst h; simp
    · have hne : l.map UInt8.ofNat ≠ m.map UInt8.ofNat := fun h' => h (strV_inj hl hm h')
      simp [h, hne]
  unfold execOp
  simp only [ho, hx, hy]
  unfold strV
  go_simp
theorem run_eqs1 (l : List Nat) (hl : ∀ x ∈ l, x < 256) (E : Operand → Value) (x y : Operand) (t : TypeId) (o : Oper) (ho : o.op = .binOp .eql 9 x y t) (hx : E x = strV l) (hy : E y = strV l) (w : World) :
    (execOp E o).run Try.prog w = .ok (.value (.bool true)) w := by
  rw [run_eqs l l hl hl E x y t o ho hx hy w]; simp
theorem new_as16 (b g : Nat) (k : List Nat) (hk : k.length = 16) (hkb : ∀ x ∈ k, x < 256) (w : World) (hB : IsBox w b) (hg : w.heap[g]? = some (.cells (bA k) 44 (0, 0))) :
    Calls Try.prog 45 #[.pointer (some ⟨b, 0, none⟩), .slice (some ⟨g, 0, none⟩) 16 16] w fun e w' => ∃ c g' n cp, e = .returned (.tuple #[.pointer (some ⟨c, 0, none⟩), .int .i64 0]) ∧ Cip w' c b g' n cp (roundsK k) (wordsK k) ∧ Below w.heap.size w w' := by
  have h := new_c b g 0 16 k (Or.inl hk) hkb (by omega) w hB (lt_of_block hg) (fun j hj => by rw [Nat.zero_add, cells_at hg j]; exact bA_get k j hj)
  rw [hk] at h
  exact h.mono fun e w' ⟨c, g', n, cp, h1, h2, _, _, h3⟩ => ⟨c, g', n, cp, h1, h2, h3⟩
/-- the bytes of a slice that comes in, cut to m -/
theorem bytesAt_in {w : World} {a : Option Addr} {len cap : Nat} {zs : List Int} (h : IsRow .u8 w a len cap zs) (m : Nat) : ∃ l, l.length = min len m ∧ BytesAt w a cap l := by
  obtain ⟨l, hl, hR⟩ := rowIn h
  refine ⟨l.take m, by rw [List.length_take, hl]; omega, fun x hx => hR.1 x (List.mem_of_mem_take hx), fun h0 => ?_⟩
  have h0' : 0 < l.length := by rw [List.length_take] at h0; omega
  rcases hR.2 with ⟨h1, h2⟩ | ⟨g, o, cap', sp, h1, h2, h3, h4, h5⟩
  · rw [h2] at h0'; simp at h0'
  · obtain ⟨rfl, hg⟩ := h4 h0'
    cases h1
    refine ⟨g, o, rfl, by rw [List.length_take]; omega, hg, fun j hj => ?_⟩
    rw [List.length_take] at hj
    rw [h5 j (by omega), List.getD_eq_getElem?_getD, List.getD_eq_getElem?_getD, List.getElem?_take_of_lt (by omega)]
theorem row_cap {w : World} {a : Option Addr} {len cap : Nat} {zs : List Int} {k : IntKind} (hrow : IsRow k w a len cap zs) : len ≤ cap ∧ cap ≤ 9223372036854775807 := by
  rcases hrow with ⟨rfl, rfl, rfl, _⟩ | ⟨_, _, h1, h2, _⟩
  · exact ⟨Nat.le_refl _, Nat.zero_le _⟩
  · exact ⟨h1, h2⟩
set_option maxRecDepth 100000 in
set_option maxHeartbeats 8000000 in
theorem walkCtrBack (w : World) (k : List Nat) (hk : k.length = 16) (hkb : ∀ x ∈ k, x < 256) (e : Int) (we : (Lit.int .u64 e).wf = true) (b : Int) (wb : (Lit.int .u32 b).wf = true) (a : Option Addr) (len cap : Nat) (zs : List Int) (hrow : IsRow .u8 w a len cap zs) :
    Calls Try.prog 19 #[.agg (bA k), .int .u64 e, .int .u32 b, .slice a len cap] w fun e w' => e = .returned (.bool true) ∧ Below w.heap.size w w' := by
  obtain ⟨e, he, rfl⟩ := wf_nat64 we
  obtain ⟨b, hb, rfl⟩ := wf_nat32 wb
  obtain ⟨l, hl, hBA⟩ := bytesAt_in hrow 300
  obtain ⟨hcl, hcm⟩ := row_cap hrow
  have h0 := heap_new' w (.cells (bA k) 44)
  have hbl : Below w.heap.size w (w.alloc (.cells (bA k) 44)) := (Below.refl _ _).alloc (Nat.le_refl _) _
  have HE := Lib.hid he
  have HB := Lib.hid hb
  have HK := Lib.hid (And.intro hk hkb)
  have H0 := Lib.hid h0
  have HBL := Lib.hid hbl
  have HBA := Lib.hid hBA
  have HLL := Lib.hid hl
  have HSH := Lib.hid (fun w => short_c a len cap hcl hcm w)
  have hm300 : min len 300 ≤ 300 := by omega
  have HM3 := Lib.hid hm300
  generalize min len 300 = n at HLL HSH HM3
  clear hrow we wb hk hkb h0 hbl he hb hBA hl hcl hcm hm300
  generalize hW0 : (w.alloc (.cells (bA k) 44)) = W0 at *
  go_enter Try.func19, Try.ntmps19
  go_wp2_with fail
  refine (HSH.out _).mono ?_
  rintro e w' ⟨rfl, rfl⟩
  go_wp2
  clear hW0
  go_cut [9, 10] from 13 to 18 (fun s3 s4 wx => ∃ c b' g n cp, s3 = .pointer (some ⟨c, 0, none⟩) ∧ s4 = .int .i64 0 ∧ Cip wx c b' g n cp (roundsK k) (wordsK k) ∧ Below W0.heap.size W0 wx)
  case first =>
    refine wp_region_held_drew (S := fun w' => Below W0.heap.size W0 w') (by kernel_rfl) (Below.refl _ _).drew ?_
    intro hS
    generalize W0.drew = WD at hS ⊢
    change wpAnyH _ _ _ _ _ 8 #[false, false, false, false, false, false, false, false] _ _
    refine wpAnyH_take (i := 1) (v := ?_) rfl (by kernel_rfl) (by kernel_rfl) (by kernel_rfl) (fun _ _ _ h => h) (Or.inl ⟨by rfl, ?hy⟩) hS ?_
    case hy => intro w' hSw; go_simp; try with_reducible rfl
    simp only [List.getElem_toArray, List.getElem_cons_succ, List.getElem_cons_zero, Act.put, List.setIfInBounds_toArray, List.set_cons_zero, List.set_cons_succ]
    change wpAnyH _ _ _ _ _ 7 #[false, true, false, false, false, false, false, false] _ _
    refine wpAnyH_ready (rs := [0]) (by kernel_rfl) (by simp) ?_
    refine AllReadyH.cons rfl (fun K hK => ?_) AllReadyH.nil
    rw [if_pos (by rfl)]
    go_simp
    refine (newbox_c WD).mono ?_
    rintro e w1 ⟨rfl, hbx, hlt1, hb1⟩
    refine hK.out _ _ (hS.trans (hb1.mono hS.size)) (fun hS1 => ?_)
    clear hK K
    simp only [List.getElem_toArray, List.getElem_cons_succ, List.getElem_cons_zero, Act.put, List.setIfInBounds_toArray, List.set_cons_zero, List.set_cons_succ]
    change wpAnyH _ _ _ _ _ 6 #[true, true, false, false, false, false, false, false] _ _
    refine wpAnyH_ready (rs := [2]) (by kernel_rfl) (by simp) ?_
    refine AllReadyH.cons rfl (fun K hK => ?_) AllReadyH.nil
    rw [if_pos (by rfl)]
    go_simp
    refine (new_as16 WD.heap.size w.heap.size k HK.out.1 HK.out.2 w1 hbx ((hS1.block _ (lt_of_block H0.out)).trans H0.out)).mono ?_
    rintro e w3 ⟨c, g, n, cp, rfl, hC, hb3⟩
    refine hK.out _ _ (hS1.trans (hb3.mono hS1.size)) (fun hS3 => ?_)
    clear hK K
    simp only [List.getElem_toArray, List.getElem_cons_succ, List.getElem_cons_zero, Act.put, List.setIfInBounds_toArray, List.set_cons_zero, List.set_cons_succ]
    change wpAnyH _ _ _ _ _ 5 #[true, true, true, false, false, false, false, false] _ _
    refine wpAnyH_take (i := 3) (v := ?_) rfl (by kernel_rfl) (by kernel_rfl) (by kernel_rfl) (fun _ _ _ h => h) (Or.inl ⟨by rfl, ?hy⟩) hS3 ?_
    case hy => intro w' hSw; go_simp; try with_reducible rfl
    simp only [List.getElem_toArray, List.getElem_cons_succ, List.getElem_cons_zero, Act.put, List.setIfInBounds_toArray, List.set_cons_zero, List.set_cons_succ]
    change wpAnyH _ _ _ _ _ 4 #[true, true, true, true, false, false, false, false] _ _
    refine wpAnyH_take (i := 4) (v := ?_) rfl (by kernel_rfl) (by kernel_rfl) (by kernel_rfl) (fun _ _ _ h => h) (Or.inl ⟨by rfl, ?hy⟩) hS3 ?_
    case hy => intro w' hSw; go_simp; try with_reducible rfl
    simp only [List.getElem_toArray, List.getElem_cons_succ, List.getElem_cons_zero, Act.put, List.setIfInBounds_toArray, List.set_cons_zero, List.set_cons_succ]
    change wpAnyH _ _ _ _ _ 3 #[true, true, true, true, true, false, false, false] _ _
    refine wpAnyH_take (i := 5) (v := ?_) rfl (by kernel_rfl) (by kernel_rfl) (by kernel_rfl) (fun _ _ _ h => h) (Or.inl ⟨by rfl, ?hy⟩) hS3 ?_
    case hy => intro w' hSw; go_simp; try with_reducible rfl
    simp only [List.getElem_toArray, List.getElem_cons_succ, List.getElem_cons_zero, Act.put, List.setIfInBounds_toArray, List.set_cons_zero, List.set_cons_succ]
    change wpAnyH _ _ _ _ _ 2 #[true, true, true, true, true, true, false, false] _ _
    refine wpAnyH_take (i := 6) (v := ?_) rfl (by kernel_rfl) (by kernel_rfl) (by kernel_rfl) (fun _ _ _ h => h) (Or.inl ⟨by rfl, ?hy⟩) hS3 ?_
    case hy => intro w' hSw; go_simp; try with_reducible rfl
    simp only [List.getElem_toArray, List.getElem_cons_succ, List.getElem_cons_zero, Act.put, List.setIfInBounds_toArray, List.set_cons_zero, List.set_cons_succ]
    change wpAnyH _ _ _ _ _ 1 #[true, true, true, true, true, true, true, false] _ _
    refine wpAnyH_take (i := 7) (v := ?_) rfl (by kernel_rfl) (by kernel_rfl) (by kernel_rfl) (fun _ _ _ h => h) (Or.inl ⟨by rfl, ?hy⟩) hS3 ?_
    case hy => intro w' hSw; go_simp; try with_reducible rfl
    simp only [List.getElem_toArray, List.getElem_cons_succ, List.getElem_cons_zero, Act.put, List.setIfInBounds_toArray, List.set_cons_zero, List.set_cons_succ]
    change wpAnyH _ _ _ _ _ 0 #[true, true, true, true, true, true, true, true] _ _
    refine wpAnyH_done (by kernel_rfl) ?_ _
    go_wp2_with fail
    go_meet
    exact ⟨c, _, g, n, cp, rfl, rfl, hC, hS3⟩
  case rest =>
    obtain ⟨c, b', g, n0, cp, rfl, rfl, hC, hb0⟩ := hcut
    have hbw : Below w.heap.size w wc := HBL.out.trans (hb0.mono HBL.out.size)
    have HBW := Lib.hid hbw
    have HAP : Hid (∀ (l' : List Nat) (a' : Option Addr) (cap' : Nat) (w' : World), l'.length = n → BytesAt w' a' cap' l' → Below wc.heap.size wc w' → Calls Try.prog 56 #[.pointer (some ⟨c, 0, none⟩), .int .u64 (e : Int), .int .u32 (b : Int), .slice a' n cap'] w' fun r w'' => ∃ q, r = .returned (.slice (some ⟨q, 0, none⟩) n n) ∧ w'.heap.size ≤ q ∧ w''.heap[q]? = some (.cells (bA (xorL l' (strL k e b n))) 5 (0, 0)) ∧ Below w'.heap.size w' w'') :=
      fun l' a' cap' w' hl' hb' hbel => apply_c (Or.inl HK.out.1) e b HE.out HB.out a' cap' l' n hl' (by have := HM3.out; omega) w' (hC.up hbel (Nat.le_refl _)) hb'
    have HLT : Hid (∀ x ∈ strL k e b n, x < 256) := strL_lt (Or.inl HK.out.1) hC.fbyte e b n
    have HBI : Hid (∀ w', Below wc.heap.size wc w' → BytesAt w' a cap l) := fun w' h => HBA.out.up (hbw.trans (h.mono hbw.size)) (Nat.le_refl _)
    clear hC hb0 hbw
    go_wp2
    refine wp_region_held_drew (S := fun w' => Below wc.heap.size wc w') (by kernel_rfl) (Below.refl _ _).drew ?_
    intro hS
    generalize wc.drew = WD at hS ⊢
    change wpAnyH _ _ _ _ _ 21 #[false, false, false, false, false, false, false, false, false, false, false, false, false, false, false, false, false, false, false, false, false] _ _
    refine wpAnyH_take (i := 0) (v := ?_) rfl (by kernel_rfl) (by kernel_rfl) (by kernel_rfl) (fun _ _ _ h => h) (Or.inl ⟨by rfl, ?hy⟩) hS ?_
    case hy => intro w' hSw; go_simp; try with_reducible rfl
    simp only [List.getElem_toArray, List.getElem_cons_succ, List.getElem_cons_zero, Act.put, List.setIfInBounds_toArray, List.set_cons_zero, List.set_cons_succ]
    change wpAnyH _ _ _ _ _ 20 #[true, false, false, false, false, false, false, false, false, false, false, false, false, false, false, false, false, false, false, false, false] _ _
    refine wpAnyH_take (i := 1) (v := ?_) rfl (by kernel_rfl) (by kernel_rfl) (by kernel_rfl) (fun _ _ _ h => h) (Or.inl ⟨by rfl, ?hy⟩) hS ?_
    case hy => intro w' hSw; go_simp; try with_reducible rfl
    simp only [List.getElem_toArray, List.getElem_cons_succ, List.getElem_cons_zero, Act.put, List.setIfInBounds_toArray, List.set_cons_zero, List.set_cons_succ]
    change wpAnyH _ _ _ _ _ 19 #[true, true, false, false, false, false, false, false, false, false, false, false, false, false, false, false, false, false, false, false, false] _ _
    refine wpAnyH_take (i := 2) (v := ?_) rfl (by kernel_rfl) (by kernel_rfl) (by kernel_rfl) (fun _ _ _ h => h) (Or.inl ⟨by rfl, ?hy⟩) hS ?_
    case hy => intro w' hSw; go_simp; try with_reducible rfl
    simp only [List.getElem_toArray, List.getElem_cons_succ, List.getElem_cons_zero, Act.put, List.setIfInBounds_toArray, List.set_cons_zero, List.set_cons_succ]
    change wpAnyH _ _ _ _ _ 18 #[true, true, true, false, false, false, false, false, false, false, false, false, false, false, false, false, false, false, false, false, false] _ _
    refine wpAnyH_take (i := 3) (v := ?_) rfl (by kernel_rfl) (by kernel_rfl) (by kernel_rfl) (fun _ _ _ h => h) (Or.inl ⟨by rfl, ?hy⟩) hS ?_
    case hy => intro w' hSw; go_simp; try with_reducible rfl
    simp only [List.getElem_toArray, List.getElem_cons_succ, List.getElem_cons_zero, Act.put, List.setIfInBounds_toArray, List.set_cons_zero, List.set_cons_succ]
    change wpAnyH _ _ _ _ _ 17 #[true, true, true, true, false, false, false, false, false, false, false, false, false, false, false, false, false, false, false, false, false] _ _
    refine wpAnyH_take (i := 4) (v := ?_) rfl (by kernel_rfl) (by kernel_rfl) (by kernel_rfl) (fun _ _ _ h => h) (Or.inl ⟨by rfl, ?hy⟩) hS ?_
    case hy => intro w' hSw; go_simp; try with_reducible rfl
    simp only [List.getElem_toArray, List.getElem_cons_succ, List.getElem_cons_zero, Act.put, List.setIfInBounds_toArray, List.set_cons_zero, List.set_cons_succ]
    change wpAnyH _ _ _ _ _ 16 #[true, true, true, true, true, false, false, false, false, false, false, false, false, false, false, false, false, false, false, false, false] _ _
    refine wpAnyH_take (i := 5) (v := ?_) rfl (by kernel_rfl) (by kernel_rfl) (by kernel_rfl) (fun _ _ _ h => h) (Or.inl ⟨by rfl, ?hy⟩) hS ?_
    case hy => intro w' hSw; go_simp; try with_reducible rfl
    simp only [List.getElem_toArray, List.getElem_cons_succ, List.getElem_cons_zero, Act.put, List.setIfInBounds_toArray, List.set_cons_zero, List.set_cons_succ]
    change wpAnyH _ _ _ _ _ 15 #[true, true, true, true, true, true, false, false, false, false, false, false, false, false, false, false, false, false, false, false, false] _ _
    refine wpAnyH_take (i := 6) (v := ?_) rfl (by kernel_rfl) (by kernel_rfl) (by kernel_rfl) (fun _ _ _ h => h) (Or.inl ⟨by rfl, ?hy⟩) hS ?_
    case hy => intro w' hSw; go_simp; try with_reducible rfl
    simp only [List.getElem_toArray, List.getElem_cons_succ, List.getElem_cons_zero, Act.put, List.setIfInBounds_toArray, List.set_cons_zero, List.set_cons_succ]
    change wpAnyH _ _ _ _ _ 14 #[true, true, true, true, true, true, true, false, false, false, false, false, false, false, false, false, false, false, false, false, false] _ _
    refine wpAnyH_take (i := 7) (v := ?_) rfl (by kernel_rfl) (by kernel_rfl) (by kernel_rfl) (fun _ _ _ h => h) (Or.inl ⟨by rfl, ?hy⟩) hS ?_
    case hy => intro w' hSw; go_simp; try with_reducible rfl
    simp only [List.getElem_toArray, List.getElem_cons_succ, List.getElem_cons_zero, Act.put, List.setIfInBounds_toArray, List.set_cons_zero, List.set_cons_succ]
    change wpAnyH _ _ _ _ _ 13 #[true, true, true, true, true, true, true, true, false, false, false, false, false, false, false, false, false, false, false, false, false] _ _
    refine wpAnyH_take (i := 8) (v := ?_) rfl (by kernel_rfl) (by kernel_rfl) (by kernel_rfl) (fun _ _ _ h => h) (Or.inl ⟨by rfl, ?hy⟩) hS ?_
    case hy => intro w' hSw; go_simp; try with_reducible rfl
    simp only [List.getElem_toArray, List.getElem_cons_succ, List.getElem_cons_zero, Act.put, List.setIfInBounds_toArray, List.set_cons_zero, List.set_cons_succ]
    change wpAnyH _ _ _ _ _ 12 #[true, true, true, true, true, true, true, true, true, false, false, false, false, false, false, false, false, false, false, false, false] _ _
    refine wpAnyH_take (i := 9) (v := ?_) rfl (by kernel_rfl) (by kernel_rfl) (by kernel_rfl) (fun _ _ _ h => h) (Or.inl ⟨by rfl, ?hy⟩) hS ?_
    case hy => intro w' hSw; go_simp; try with_reducible rfl
    simp only [List.getElem_toArray, List.getElem_cons_succ, List.getElem_cons_zero, Act.put, List.setIfInBounds_toArray, List.set_cons_zero, List.set_cons_succ]
    change wpAnyH _ _ _ _ _ 11 #[true, true, true, true, true, true, true, true, true, true, false, false, false, false, false, false, false, false, false, false, false] _ _
    refine wpAnyH_take (i := 13) (v := ?_) rfl (by kernel_rfl) (by kernel_rfl) (by kernel_rfl) (fun _ _ _ h => h) (Or.inl ⟨by rfl, ?hy⟩) hS ?_
    case hy => intro w' hSw; go_simp; try with_reducible rfl
    simp only [List.getElem_toArray, List.getElem_cons_succ, List.getElem_cons_zero, Act.put, List.setIfInBounds_toArray, List.set_cons_zero, List.set_cons_succ]
    change wpAnyH _ _ _ _ _ 10 #[true, true, true, true, true, true, true, true, true, true, false, false, false, true, false, false, false, false, false, false, false] _ _
    refine wpAnyH_take (i := 14) rfl (by kernel_rfl) (by kernel_rfl) (by kernel_rfl) (fun _ _ _ h => h) (Or.inl ⟨by rfl, fun w' hSw => run_conv_op HLL.out (HBI.out w' hSw) _ (.tmp 32) _ rfl rfl⟩) hS ?_
    simp only [List.getElem_toArray, List.getElem_cons_succ, List.getElem_cons_zero, Act.put, List.setIfInBounds_toArray, List.set_cons_zero, List.set_cons_succ]
    change wpAnyH _ _ _ _ _ 9 #[true, true, true, true, true, true, true, true, true, true, false, false, false, true, true, false, false, false, false, false, false] _ _
    refine wpAnyH_ready (rs := [10]) (by kernel_rfl) (by simp) ?_
    refine AllReadyH.cons rfl (fun K hK => ?_) AllReadyH.nil
    rw [if_pos (by rfl)]
    go_simp
    refine (HAP.out l a cap WD HLL.out (HBI.out _ hS) hS).mono ?_
    rintro r w1 ⟨q1, rfl, hq1, hq1b, hb1⟩
    refine hK.out _ _ (hS.trans (hb1.mono hS.size)) (fun hS1 => ?_)
    clear hK K
    simp only [List.getElem_toArray, List.getElem_cons_succ, List.getElem_cons_zero, Act.put, List.setIfInBounds_toArray, List.set_cons_zero, List.set_cons_succ]
    change wpAnyH _ _ _ _ _ 8 #[true, true, true, true, true, true, true, true, true, true, true, false, false, true, true, false, false, false, false, false, false] _ _
    refine wpAnyH_ready (rs := [11]) (by kernel_rfl) (by simp) ?_
    refine AllReadyH.cons rfl (fun K hK => ?_) AllReadyH.nil
    rw [if_pos (by rfl)]
    go_simp
    have hx1 : ∀ x ∈ xorL l (strL k e b n), x < 256 := xorL_lt HBA.out.1 HLT.out
    have hba1 := bytesAt_block hx1 hq1b
    rw [xorL_len, HLL.out] at hba1
    refine (HAP.out (xorL l (strL k e b n)) _ n w1 (by rw [xorL_len]; exact HLL.out) hba1 hS1).mono ?_
    rintro r w2 ⟨q2, rfl, hq2, hq2b, hb2⟩
    rw [xorL_back] at hq2b
    refine hK.out _ _ (hS1.trans (hb2.mono hS1.size)) (fun hS2 => ?_)
    clear hK K
    simp only [List.getElem_toArray, List.getElem_cons_succ, List.getElem_cons_zero, Act.put, List.setIfInBounds_toArray, List.set_cons_zero, List.set_cons_succ]
    change wpAnyH _ _ _ _ _ 7 #[true, true, true, true, true, true, true, true, true, true, true, true, false, true, true, false, false, false, false, false, false] _ _
    have hba2 := bytesAt_block HBA.out.1 hq2b
    rw [HLL.out] at hba2
    refine wpAnyH_ready (rs := [12]) (by kernel_rfl) (by simp) ?_
    refine AllReadyH.cons rfl (fun K hK => ?_) AllReadyH.nil
    rw [if_pos (by rfl)]
    refine wp_conv (.tmp 30) HLL.out hba2 rfl rfl ?_
    refine hK.out _ _ (hS2) (fun hS3 => ?_)
    clear hK K
    simp only [List.getElem_toArray, List.getElem_cons_succ, List.getElem_cons_zero, Act.put, List.setIfInBounds_toArray, List.set_cons_zero, List.set_cons_succ]
    change wpAnyH _ _ _ _ _ 6 #[true, true, true, true, true, true, true, true, true, true, true, true, true, true, true, false, false, false, false, false, false] _ _
    refine wpAnyH_take (i := 15) rfl (by kernel_rfl) (by kernel_rfl) (by kernel_rfl) (fun _ _ _ h => h) (Or.inl ⟨by rfl, fun w' hSw => run_eqs1 l HBA.out.1 _ (.tmp 31) (.tmp 33) _ _ rfl rfl rfl w'⟩) hS3 ?_
    simp only [List.getElem_toArray, List.getElem_cons_succ, List.getElem_cons_zero, Act.put, List.setIfInBounds_toArray, List.set_cons_zero, List.set_cons_succ]
    change wpAnyH _ _ _ _ _ 5 #[true, true, true, true, true, true, true, true, true, true, true, true, true, true, true, true, false, false, false, false, false] _ _
    refine wpAnyH_take (i := 16) (v := ?_) rfl (by kernel_rfl) (by kernel_rfl) (by kernel_rfl) (fun _ _ _ h => h) (Or.inl ⟨by rfl, ?hy⟩) hS3 ?_
    case hy => intro w' hSw; go_simp; try with_reducible rfl
    simp only [List.getElem_toArray, List.getElem_cons_succ, List.getElem_cons_zero, Act.put, List.setIfInBounds_toArray, List.set_cons_zero, List.set_cons_succ]
    change wpAnyH _ _ _ _ _ 4 #[true, true, true, true, true, true, true, true, true, true, true, true, true, true, true, true, true, false, false, false, false] _ _
    refine wpAnyH_take (i := 17) (v := ?_) rfl (by kernel_rfl) (by kernel_rfl) (by kernel_rfl) (fun _ _ _ h => h) (Or.inl ⟨by rfl, ?hy⟩) hS3 ?_
    case hy => intro w' hSw; go_simp; try with_reducible rfl
    simp only [List.getElem_toArray, List.getElem_cons_succ, List.getElem_cons_zero, Act.put, List.setIfInBounds_toArray, List.set_cons_zero, List.set_cons_succ]
    change wpAnyH _ _ _ _ _ 3 #[true, true, true, true, true, true, true, true, true, true, true, true, true, true, true, true, true, true, false, false, false] _ _
    refine wpAnyH_ready (rs := [18]) (by kernel_rfl) (by simp) ?_
    refine AllReadyH.cons rfl (fun K hK => ?_) AllReadyH.nil
    rw [if_pos (by rfl)]
    go_simp
    refine (awake06_c w2).mono ?_
    rintro r w4 ⟨rfl, hb4⟩
    refine hK.out _ _ (hS3.trans (hb4.mono hS3.size)) (fun hS4 => ?_)
    clear hK K
    simp only [List.getElem_toArray, List.getElem_cons_succ, List.getElem_cons_zero, Act.put, List.setIfInBounds_toArray, List.set_cons_zero, List.set_cons_succ]
    change wpAnyH _ _ _ _ _ 2 #[true, true, true, true, true, true, true, true, true, true, true, true, true, true, true, true, true, true, true, false, false] _ _
    refine wpAnyH_take (i := 19) (v := ?_) rfl (by kernel_rfl) (by kernel_rfl) (by kernel_rfl) (fun _ _ _ h => h) (Or.inl ⟨by rfl, ?hy⟩) hS4 ?_
    case hy => intro w' hSw; go_simp; try with_reducible rfl
    simp only [List.getElem_toArray, List.getElem_cons_succ, List.getElem_cons_zero, Act.put, List.setIfInBounds_toArray, List.set_cons_zero, List.set_cons_succ]
    change wpAnyH _ _ _ _ _ 1 #[true, true, true, true, true, true, true, true, true, true, true, true, true, true, true, true, true, true, true, true, false] _ _
    refine wpAnyH_take (i := 20) (v := ?_) rfl (by kernel_rfl) (by kernel_rfl) (by kernel_rfl) (fun _ _ _ h => h) (Or.inl ⟨by rfl, ?hy⟩) hS4 ?_
    case hy => intro w' hSw; go_simp; try with_reducible rfl
    simp only [List.getElem_toArray, List.getElem_cons_succ, List.getElem_cons_zero, Act.put, List.setIfInBounds_toArray, List.set_cons_zero, List.set_cons_succ]
    change wpAnyH _ _ _ _ _ 0 #[true, true, true, true, true, true, true, true, true, true, true, true, true, true, true, true, true, true, true, true, true] _ _
    refine wpAnyH_done (by kernel_rfl) ?_ _
    go_wp2_with fail
    go_ret
    exact ⟨rfl, HBW.out.trans (hS4.mono HBW.out.size)⟩
end Go.Proofs.Ytnmjkdmhfogeiaa
set_option linter.unusedVariables false
set_option linter.unusedSimpArgs false
namespace Go.Proofs.Ytnmjkdmhfogeiaa
open Go Go.RowKit GfM
theorem rnew_key (key : List Nat) (hkl : key.length = 16 ∨ key.length = 32) (hkb : ∀ x ∈ key, x < 256) (gk cap : Nat) (hcap : key.length ≤ cap) (w : World) (hg : gk < w.heap.size) (hk : ∀ j, j < key.length → w.cell? ⟨gk, j, none⟩ = some (.int .u8 ((key.getD j 0 : Nat) : Int))) :
    Calls Try.prog 47 #[.slice (some ⟨gk, 0, none⟩) key.length cap] w fun e w' => ∃ c g cp, e = .returned (.pointer (some ⟨c, 0, none⟩)) ∧ RCip w' c g (4 * (key.length / 4 + 7)) cp (roundsK key) (wordsK key) ∧ Below w.heap.size w w' :=
  rnew_c (key.length / 4) gk 0 key.length cap (by omega) key (by omega) (by omega) hkb hcap w hg (fun j hj => by rw [Nat.zero_add]; exact hk j (by omega))
theorem renc_key {c g nw cap : Nat} {key p : List Nat} (hkl : key.length = 16 ∨ key.length = 32) (hp : By p) (w : World) (hC : RCip w c g nw cap (roundsK key) (wordsK key)) :
    Calls Try.prog 48 #[.pointer (some ⟨c, 0, none⟩), .agg (bA p)] w fun e w' => e = .returned (.agg (bA (encK key p))) ∧ Below w.heap.size w w' :=
  renc_c c g nw cap (roundsK key) (wordsK key) p hp (by unfold roundsK; omega) (by rw [wordsK_len key hkl]; exact Nat.le_refl _) (by unfold roundsK; omega) w hC
theorem run_eqa (X : List Nat) (hX : X.length = 16) (E : Operand → Value) (x y : Operand) (t : TypeId) (o : Oper) (ho : o.op = .binOp .eql 44 x y t) (hx : E x = .agg (bA X)) (hy : E y = .agg (bA X)) (w : World) :
    (execOp E o).run Try.prog w = .ok (.value (.bool true)) w := by
  have h : ∀ w, (binOp .eql 44 (.agg (bA X)) (.agg (bA X))).run Try.prog w = .ok (.bool true) w := fun w => by rw [eq16 X X hX hX w]; simp
  unfold execOp
  simp only [ho, hx, hy]
  go_simp
theorem encK_len' (key l : List Nat) : (encK key l).length = 16 := by simp [encK, encL, keyL]
theorem by_of {p : List Nat} (hp : p.length = 16) (hpb : ∀ x ∈ p, x < 256) : By p := ⟨hp, fun j hj => by rw [List.getD_eq_getElem?_getD, List.getElem?_eq_getElem (by rw [hp]; exact hj)]; exact hpb _ (List.getElem_mem _)⟩
end Go.Proofs.Ytnmjkdmhfogeiaa
set_option linter.unusedVariables false
set_option linter.unusedSimpArgs false
namespace Go.Proofs.Ytnmjkdmhfogeiaa
open Go Go.RowKit GfM
theorem renc16 {c g nw cap : Nat} {key p : List Nat} (hkl : key.length = 16 ∨ key.length = 32) (hp : By p) (w : World) (hC : RCip w c g nw cap (roundsK key) (wordsK key)) :
    Calls Try.prog 48 #[.pointer (some ⟨c, 0, none⟩), .agg (bA p)] w fun e w' => e = .returned (.agg (bA (encK key p))) ∧ Below w.heap.size w w' :=
  renc_c c g nw cap (roundsK key) (wordsK key) p hp (by unfold roundsK; omega) (by rw [wordsK_len key hkl]; exact Nat.le_refl _) (by unfold roundsK; omega) w hC
theorem zr_by : By (List.replicate 16 0) := ⟨by simp, by decide⟩
theorem take_next (l : List Nat) (k x : Nat) (hk : k < l.length) (hx : l.getD k 0 = x) : (bA (l.take (k + 1))).toList = (bA (l.take k)).toList ++ [.int .u8 (x : Int)] := by
  have e : l.take (k + 1) = l.take k ++ [x] := by
    rw [List.take_succ_eq_append_getElem hk]
    rw [List.getD_eq_getElem?_getD, List.getElem?_eq_getElem hk] at hx
    simp at hx
    rw [hx]
  rw [e]; simp [bA]
theorem own_bytes {w : World} {base n : Nat} {v : Value} {l : List Nat} (hl : l.length = n) (hlt : ∀ x ∈ l, x < 256) (h : w.ownsRow base 5 1 v n (bA l).toList) : ∃ s sc, v = .slice s n sc ∧ BytesAt w s sc l := by
  rcases h.2 with ⟨e, h0⟩ | ⟨g', cap', cur, e, e2, e3, e4, e5, e6, e7⟩
  · exact ⟨none, 0, by rw [e, h0], hlt, fun h => by omega⟩
  · refine ⟨_, cap', e, hlt, fun _ => ⟨g', 0, rfl, by omega, lt_of_block e3, fun j hj => ?_⟩⟩
    rw [Nat.zero_add, cells_at e3 j]
    have := congrArg (fun l => l[j]?) e7
    simp only [Nat.mul_one] at this
    rw [List.getElem?_take_of_lt (by omega), Array.getElem?_toList, Array.getElem?_toList, bA_get _ j hj] at this
    exact this
set_option maxRecDepth 100000 in
set_option maxHeartbeats 4000000 in
theorem rapply_c {c g nw cp : Nat} {key : List Nat} (hkl : key.length = 16 ∨ key.length = 32) (e b : Nat) (he : e < 18446744073709551616) (hb : b < 4294967296) (a : Option Addr) (cap : Nat) (l : List Nat) (n : Nat) (hl : l.length = n) (hn : n ≤ 65536) (w : World)
    (hC : RCip w c g nw cp (roundsK key) (wordsK key)) (hB : BytesAt w a cap l) :
    Calls Try.prog 55 #[.pointer (some ⟨c, 0, none⟩), .int .u64 (e : Int), .int .u32 (b : Int), .slice a n cap] w fun r w' =>
      ∃ s sc, r = .returned (.slice s n sc) ∧ BytesAt w' s sc (xorL l (strL key e b n)) ∧ Below w.heap.size w w' := by
  obtain ⟨i0, hi, hz0, hz1, hz2⟩ := info_parts u8info
  have HL := Lib.hid hl
  have HB := Lib.hid hB
  have hlt : ∀ x ∈ xorL l (strL key e b n), x < 256 := xorL_lt hB.1 (strL_lt hkl hC.fbyte e b n)
  have hxl : (xorL l (strL key e b n)).length = n := by rw [xorL_len]; exact hl
  have hxg : ∀ k, k < n → (xorL l (strL key e b n)).getD k 0 = l.getD k 0 ^^^ (encK key (ctrB e b (k / 16))).getD (k % 16) 0 := fun k hk => by rw [xorL_get _ _ _ (by omega), strL_get _ _ _ _ _ hk]
  have hct : ∀ (q : Nat), q < 65536 → ∀ w', Calls Try.prog 39 #[.int .u64 (e : Int), .int .u32 (b : Int), .int .i64 (q : Int)] w' fun r w'' => r = .returned (.agg (bA (ctrB e b q))) ∧ Below w'.heap.size w' w'' := fun q hq w' => refcounter_c e b q he hb hq w'
  have hen : ∀ p, By p → ∀ w', Below w.heap.size w w' → Calls Try.prog 48 #[.pointer (some ⟨c, 0, none⟩), .agg (bA p)] w' fun e w'' => e = .returned (.agg (bA (encK key p))) ∧ Below w'.heap.size w' w'' := fun p hp w' h => renc16 hkl hp w' (hC.up h (Nat.le_refl _))
  have hby : ∀ q, By (encK key (ctrB e b q)) := fun q => encK_by hkl (ctrB_by e b q) hC.fbyte
  have s1 := heap_new' w (.cells (bA (List.replicate 16 0)) 44)
  have HLT := Lib.hid hlt
  have HXL := Lib.hid hxl
  have HXG := Lib.hid hxg
  have HCT := Lib.hid hct
  have HEN := Lib.hid hen
  have HBY := Lib.hid hby
  have S1 := Lib.hid s1
  obtain ⟨R, hR⟩ : ∃ R, R = xorL l (strL key e b n) := ⟨_, rfl⟩
  rw [← hR] at HLT HXL HXG ⊢
  clear hl hB hlt hxl hxg hct hen hby s1 hkl hC he hb hR
  go_enter Try.func55, Try.ntmps55
  go_wp2
  go_loopw [9, 15] (fun vs vi wr => ∃ k : Nat, k ≤ n ∧ vi = .int .i64 (k : Int) ∧ (∃ X : List Nat, Hid (By X ∧ wr.heap[w.heap.size]? = some (.cells (bA X) 44 (0, 0)) ∧ (k % 16 ≠ 0 → X = encK key (ctrB e b (k / 16))))) ∧ Hid (wr.ownsRow (w.heap.size + 1) 5 1 vs k (bA (R.take k)).toList) ∧ Hid (Below w.heap.size w wr)) (fun _ vi _ => n - (intOf vi).toNat)
  case atStart => exact ⟨0, by omega, rfl, ⟨List.replicate 16 0, zr_by, S1.out, fun h => absurd rfl h⟩, ⟨rfl, .inl ⟨rfl, rfl⟩⟩, (Below.refl _ _).alloc (Nat.le_refl _) _⟩
  case round =>
    clear S1
    obtain ⟨k, hk, rfl, ⟨X, hX⟩, hown, hbel⟩ := hrel
    by_cases hlt : k < n
    · obtain ⟨g1, o1, rfl, hc1, hg1, hcell1⟩ := HB.out.2 (by rw [HL.out]; omega)
      have HV1 := getD_lt HB.out.1 k
      have cl1 := (hbel.out.cell (p := ⟨g1, o1 + k, none⟩) hg1).trans (hcell1 k (by rw [HL.out]; exact hlt))
      have hget := HXG.out k hlt
      obtain ⟨x, hx⟩ : ∃ x, x = l.getD k 0 := ⟨_, rfl⟩
      rw [← hx] at cl1 HV1 hget
      have HG := Lib.hid hget
      have hd : decide ((k : Int) < (n : Int)) = true := by simp; omega
      have d6 : (k : Int) < (n : Int) := by omega
      have d7 : ¬ (k : Int) < 0 := by omega
      obtain ⟨md, hmd⟩ : ∃ md, md = k % 16 := ⟨_, rfl⟩
      have hmd16 : md < 16 := by omega
      have e3 : (k : Int).tmod 16 = (md : Int) := by rw [Int.tmod_eq_emod_of_nonneg (by omega)]; omega
      have d8 : (md : Int) < 16 := by omega
      obtain ⟨q, hq⟩ : ∃ q, q = k / 16 := ⟨_, rfl⟩
      have e4 : IntKind.i64.wrap ((k : Int) / 16) = (q : Int) := by rw [IntWalk.i64_in _ (by omega)]; omega
      have hq16 : q < 65536 := by omega
      rw [← hmd, ← hq] at hX HG
      have HMD := Lib.hid hmd
      have HQ := Lib.hid hq
      have HMD16 := Lib.hid hmd16
      have HQ16 := Lib.hid hq16
      have HHV := Lib.hid HV1
      have HKN := Lib.hid hlt
      have zw : Hid (w.heap.size < wr.heap.size) := lt_of_block hX.out.2.1
      clear hx hget HV1 hcell1 hmd hq hmd16 hq16 hc1 hg1 hk hlt
      by_cases hz : md = 0
      · have hzt : ((md : Int) == 0) = true := by simp [hz]
        have HZ := Lib.hid hz
        clear hz
        go_wp2_with fail
        refine (HCT.out q HQ16.out wr).mono ?_
        rintro r w1 ⟨rfl, hb1⟩
        have HB1 : Hid (Below w.heap.size w w1) := hbel.out.trans (hb1.mono hbel.out.size)
        have HOW1 : Hid (w1.ownsRow (w.heap.size + 1) 5 1 u9 k (bA (R.take k)).toList) := own_keep hown.out (fun q hq hq2 => hb1.block q hq2)
        have HX1 : Hid (w1.heap[w.heap.size]? = some (.cells (bA X) 44 (0, 0))) := (hb1.block _ zw.out).trans hX.out.2.1
        clear hb1
        go_wp2_with fail
        refine (HEN.out _ (ctrB_by e b q) w1 HB1.out).mono ?_
        rintro r w2 ⟨rfl, hb2⟩
        have HB2 : Hid (Below w.heap.size w w2) := HB1.out.trans (hb2.mono HB1.out.size)
        have HOW2 : Hid (w2.ownsRow (w.heap.size + 1) 5 1 u9 k (bA (R.take k)).toList) := own_keep HOW1.out (fun q hq hq2 => hb2.block q hq2)
        have HX2 : Hid (w2.heap[w.heap.size]? = some (.cells (bA X) 44 (0, 0))) := (hb2.block _ (lt_of_block HX1.out)).trans HX1.out
        obtain ⟨Y, hY⟩ : ∃ Y, Y = encK key (ctrB e b q) := ⟨_, rfl⟩
        have HYB : Hid (By Y) := by rw [hY]; exact HBY.out q
        have HG2 : Hid (R.getD k 0 = x ^^^ Y.getD md 0) := by show _ = _; rw [HG.out, hY]
        have HY := Lib.hid hY
        rw [← hY]
        have HXS : Hid (X.length = 16) := hX.out.1.1
        clear hb2 hY HOW1 HB1 HX1 HG hX
        go_wp2_with (first
          | (refine wpList_store_row rfl 44 (.tmp 10) (.tmp 29) rfl w.heap.size (bA Y) rfl rfl 44 _ HX2.out (by rw [zero16', bA_size, HYB.out.1]) (by rw [bA_size, bA_size, HYB.out.1, HXS.out]) (bA_one _) ?_
             generalize hW5 : World.setRow _ _ _ = W5
             have HH5 : Hid (W5.heap[w.heap.size]? = some (.cells (bA Y) 44 (0, 0))) := (by rw [← hW5]; exact setRow_heap _ _ _ _ _ _ HX2.out)
             have HB5 : Hid (Below w.heap.size w W5) := (by rw [← hW5]; exact below_setRow HB2.out (Nat.le_refl _) _)
             have HOW5 : Hid (W5.ownsRow (w.heap.size + 1) 5 1 u9 k (bA (R.take k)).toList) := (by rw [← hW5]; exact own_keep HOW2.out (fun q hq hq2 => setRow_other _ _ _ _ (by omega)))
             clear hW5 HB2 HOW2 HX2
             have hyl := HYB.out.2 md HMD16.out
             have c5 := (cells_at HH5.out md).trans (bA_get Y md (by rw [HYB.out.1]; exact HMD16.out))
             obtain ⟨y, hy⟩ : ∃ y, y = Y.getD md 0 := ⟨_, rfl⟩
             rw [← hy] at c5 hyl
             have HG3 : Hid (R.getD k 0 = x ^^^ y) := by show _ = _; rw [HG2.out, hy]
             have hxr : bits BinOp.xor IntKind.u8 (x : Int) (y : Int) = ((x ^^^ y : Nat) : Int) := u8x rfl rfl HHV.out hyl
             have hnew : ∀ Z : Array Value, (W5.alloc (.cells Z 5)).heap[W5.heap.size]? = some (.cells Z 5 (0, 0)) := fun Z => heap_new' _ _
             have HNEW := Lib.hid hnew
             have HS5 : Hid (w.heap.size < W5.heap.size) := lt_of_block HH5.out
             clear hyl hy hnew
             )
          | (refine wpList_append_lies _ rfl (.tmp 30) (.tmp 37) 53 rfl (w.heap.size + 1) 5 i0 _ 1 1 Try.underlying53 hi hz0 hz1 hz2 rfl (by omega) u9 k _ rfl (World.ownsRow.alloc HOW5.out _) ⟨W5.heap.size, 0, none⟩ 1 1 [.int .u8 ((x ^^^ y : Nat) : Int)] rfl rfl (World.news_of_block (HNEW.out _)) (by simp [Value.oneCell']) (by omega) (by unfold maxLen; have := HKN.out; omega) (by have := HKN.out; omega) (by rw [World.size_alloc]; have := HS5.out; omega) _ rfl ?_; intro g5 cap5 w6 hown6 hgrow hat hlt6)
          | fail)
        go_roundw
        case rel =>
          refine ⟨k + 1, by have := HKN.out; omega, by go_num, ⟨Y, HYB.out, ?_, fun h => ?_⟩, ?_, ?_⟩
          · exact (hgrow.block _ (by rw [World.size_alloc]; have := HS5.out; omega) (fun e => by have := own_ge HOW5.out _ e.symm; omega)).trans ((heap_old' _ _ _ HS5.out).trans HH5.out)
          · rw [HY.out]; have := HQ.out; congr 2; omega
          · rw [take_next R k (x ^^^ y) (by rw [HXL.out]; exact HKN.out) HG3.out]; exact hown6
          · exact (HB5.out.alloc HB5.out.size _).grown hgrow (by rw [World.size_alloc]; have := HS5.out; omega) (fun q e => by have := own_ge HOW5.out q e; omega)
        case measure => simp [intOf]; have := HKN.out; omega
      · have hzf : ((md : Int) == 0) = false := by simp; exact hz
        obtain ⟨HYB', HH5', hY'⟩ := hX.out
        have HY : Hid (X = encK key (ctrB e b q)) := hY' hz
        have HYB := Lib.hid HYB'
        have HH5 := Lib.hid HH5'
        have HG2 : Hid (R.getD k 0 = x ^^^ X.getD md 0) := by show _ = _; rw [HG.out, HY.out]
        have HB5 := hbel
        have HOW5 := hown
        clear HYB' HH5' hY' hX HG hz hbel hown
        have hyl := HYB.out.2 md HMD16.out
        have c5 := (cells_at HH5.out md).trans (bA_get X md (by rw [HYB.out.1]; exact HMD16.out))
        obtain ⟨y, hy⟩ : ∃ y, y = X.getD md 0 := ⟨_, rfl⟩
        rw [← hy] at c5 hyl
        have HG3 : Hid (R.getD k 0 = x ^^^ y) := by show _ = _; rw [HG2.out, hy]
        have hxr : bits BinOp.xor IntKind.u8 (x : Int) (y : Int) = ((x ^^^ y : Nat) : Int) := u8x rfl rfl HHV.out hyl
        have hnew : ∀ Z : Array Value, (wr.alloc (.cells Z 5)).heap[wr.heap.size]? = some (.cells Z 5 (0, 0)) := fun Z => heap_new' _ _
        have HNEW := Lib.hid hnew
        have HS5 : Hid (w.heap.size < wr.heap.size) := lt_of_block HH5.out
        clear hyl hy hnew
        go_wp2_with (first
          | (refine wpList_append_lies _ rfl (.tmp 30) (.tmp 37) 53 rfl (w.heap.size + 1) 5 i0 _ 1 1 Try.underlying53 hi hz0 hz1 hz2 rfl (by omega) u9 k _ rfl (World.ownsRow.alloc HOW5.out _) ⟨wr.heap.size, 0, none⟩ 1 1 [.int .u8 ((x ^^^ y : Nat) : Int)] rfl rfl (World.news_of_block (HNEW.out _)) (by simp [Value.oneCell']) (by omega) (by unfold maxLen; have := HKN.out; omega) (by have := HKN.out; omega) (by rw [World.size_alloc]; have := HS5.out; omega) _ rfl ?_; intro g5 cap5 w6 hown6 hgrow hat hlt6)
          | fail)
        go_roundw
        case rel =>
          refine ⟨k + 1, by have := HKN.out; omega, by go_num, ⟨X, HYB.out, ?_, fun h => ?_⟩, ?_, ?_⟩
          · exact (hgrow.block _ (by rw [World.size_alloc]; have := HS5.out; omega) (fun e => by have := own_ge HOW5.out _ e.symm; omega)).trans ((heap_old' _ _ _ HS5.out).trans HH5.out)
          · rw [HY.out]; have := HQ.out; congr 2; omega
          · rw [take_next R k (x ^^^ y) (by rw [HXL.out]; exact HKN.out) HG3.out]; exact hown6
          · exact (HB5.out.alloc HB5.out.size _).grown hgrow (by rw [World.size_alloc]; have := HS5.out; omega) (fun q e => by have := own_ge HOW5.out q e; omega)
        case measure => simp [intOf]; have := HKN.out; omega
    · have hkn : k = n := by omega
      have hd : decide ((k : Int) < (n : Int)) = false := by simp; omega
      obtain ⟨s, sc, hv, hs⟩ := own_bytes (l := R.take k) (by simp [HXL.out]; omega) (fun x hx => HLT.out x (List.mem_of_mem_take hx)) hown.out
      subst hv
      rw [List.take_of_length_le (by rw [HXL.out]; omega)] at hs
      have HS := Lib.hid hs
      have HKN := Lib.hid hkn
      clear hs hown hX hkn
      go_wp2
      go_ret
      exact ⟨s, sc, by rw [HKN.out]; rfl, HS.out, hbel.out⟩
end Go.Proofs.Ytnmjkdmhfogeiaa
set_option linter.unusedVariables false
set_option linter.unusedSimpArgs false
namespace Go.Proofs.Ytnmjkdmhfogeiaa
open Go Go.RowKit GfM
theorem wpAnyH_mono {P : Program} {md : Region.Mode} {ops : Array Oper} {Q : Exit → Act → World → Prop} {S S' : World → Prop} (hS : ∀ w, S' w → S w) : ∀ (fuel : Nat) (listed : Array Bool) (a : Act) (w : World), wpAnyH P md ops Q S' fuel listed a w → wpAnyH P md ops Q S fuel listed a w
  | 0, _, _, _, h => h
  | fuel + 1, _, _, _, h => ⟨h.1, fun i hi => wpOp_mono (fun a' w' h' => ⟨hS _ h'.1, wpAnyH_mono hS fuel _ a' w' h'.2⟩) (h.2 i hi)⟩
theorem wp_mkb {o : Oper} {a : Act} {w : World} {K : Act → World → Prop} {Q : Exit → Act → World → Prop} (x y : Operand) (n : Nat) (hn : n ≤ 140737488355328) (ho : o.op = .makeSlice 53 x y)
    (hx : a.eval x = .int .i64 (n : Int)) (hy : a.eval y = .int .i64 (n : Int)) (h : K (a.put o.dst (.slice (some ⟨w.heap.size, 0, none⟩) n n)) (w.alloc (.cells (bA (List.replicate n 0)) 5))) : o.wp Try.prog a w K Q := by
  unfold Oper.wp execOp
  simp only [ho, hx, hy]
  have := mk_bytes n hn w
  simp only [Sem.run_bind, this, Result.andThen_ok]
  exact h
theorem stream_any {c bx g n0 cp : Nat} {key : List Nat} (hkl : key.length = 16 ∨ key.length = 32) (e b : Nat) (he : e < 18446744073709551616) (hb : b < 4294967296) (n : Nat) (hn : n ≤ 65536) (w : World) (hC : Cip w c bx g n0 cp (roundsK key) (wordsK key)) :
    Calls Try.prog 53 #[.pointer (some ⟨c, 0, none⟩), .int .u64 (e : Int), .int .u32 (b : Int), .int .i64 (n : Int)] w fun r w' => ∃ s sc, r = .returned (.slice s n sc) ∧ BytesAt w' s sc (strL key e b n) ∧ Below w.heap.size w w' := by
  by_cases h0 : n = 0
  · subst h0
    refine (stream_bad _ (e : Int) (b : Int) ((0 : Nat) : Int) (by omega) w).mono ?_
    rintro r w' ⟨rfl, rfl⟩
    exact ⟨none, 0, rfl, ⟨by simp [strL], fun h => by simp [strL] at h⟩, Below.refl _ _⟩
  · refine (stream_c hkl e b n he hb (by omega) hn w hC).mono ?_
    rintro r w' ⟨q, rfl, h1, h2, h3, h4⟩
    refine ⟨_, n, rfl, ⟨strL_lt hkl hC.fbyte e b n, fun _ => ⟨q, 0, rfl, by rw [strL_len]; exact Nat.le_refl _, h2, fun j hj => ?_⟩⟩, h4⟩
    rw [strL_len] at hj
    rw [Nat.zero_add, h3 j hj, strL_get _ _ _ _ _ hj]
theorem rnew16 (g : Nat) (k : List Nat) (hk : k.length = 16) (hkb : ∀ x ∈ k, x < 256) (w : World) (hg : w.heap[g]? = some (.cells (bA k) 44 (0, 0))) :
    Calls Try.prog 47 #[.slice (some ⟨g, 0, none⟩) 16 16] w fun e w' => ∃ c g n cp, e = .returned (.pointer (some ⟨c, 0, none⟩)) ∧ RCip w' c g n cp (roundsK k) (wordsK k) ∧ Below w.heap.size w w' := by
  have h := rnew_key k (Or.inl hk) hkb g 16 (by omega) w (lt_of_block hg) (fun j hj => by rw [cells_at hg j]; exact bA_get k j hj)
  rw [hk] at h
  exact h.mono fun e w' ⟨c, g, cp, h1, h2, h3⟩ => ⟨c, g, _, cp, h1, h2, h3⟩
theorem xorL_zero (l : List Nat) (n : Nat) (h : l.length = n) : xorL (List.replicate n 0) l = l := by
  apply List.ext_getElem
  · rw [xorL_len]; simp [h]
  · intro j h1 h2
    have h3 := xorL_get (List.replicate n 0) l j (by simpa [xorL] using h1)
    simp [List.getD_eq_getElem?_getD, List.getElem?_eq_getElem h1, List.getElem?_eq_getElem h2, List.getElem?_replicate] at h3
    rw [h3]; split <;> simp
theorem zero_bytes (n : Nat) (w : World) : BytesAt (w.alloc (.cells (bA (List.replicate n 0)) 5)) (some ⟨w.heap.size, 0, none⟩) n (List.replicate n 0) := by
  have := bytesAt_block (w := w.alloc (.cells (bA (List.replicate n 0)) 5)) (l := List.replicate n 0) (by intro x hx; rw [(List.mem_replicate.1 hx).2]; decide) (heap_new' _ _)
  simpa using this
set_option maxRecDepth 100000 in
set_option maxHeartbeats 8000000 in
theorem walkCtrApplies (w : World) (k : List Nat) (hk : k.length = 16) (hkb : ∀ x ∈ k, x < 256) (e : Int) (we : (Lit.int .u64 e).wf = true) (b : Int) (wb : (Lit.int .u32 b).wf = true) (a : Option Addr) (len cap : Nat) (zs : List Int) (hrow : IsRow .u8 w a len cap zs) :
    Calls Try.prog 18 #[.agg (bA k), .int .u64 e, .int .u32 b, .slice a len cap] w fun e w' => e = .returned (.bool true) ∧ Below w.heap.size w w' := by
  obtain ⟨e, he, rfl⟩ := wf_nat64 we
  obtain ⟨b, hb, rfl⟩ := wf_nat32 wb
  obtain ⟨l, hl, hBA⟩ := bytesAt_in hrow 300
  obtain ⟨hcl, hcm⟩ := row_cap hrow
  have h0 := heap_new' w (.cells (bA k) 44)
  have hbl : Below w.heap.size w (w.alloc (.cells (bA k) 44)) := (Below.refl _ _).alloc (Nat.le_refl _) _
  have HE := Lib.hid he
  have HB := Lib.hid hb
  have HK := Lib.hid (And.intro hk hkb)
  have H0 := Lib.hid h0
  have HBL := Lib.hid hbl
  have HBA := Lib.hid hBA
  have HLL := Lib.hid hl
  have HSH := Lib.hid (fun w => short_c a len cap hcl hcm w)
  have hm300 : min len 300 ≤ 300 := by omega
  have HM3 := Lib.hid hm300
  generalize min len 300 = n at HLL HSH HM3
  clear hrow we wb hk hkb h0 hbl he hb hBA hl hcl hcm hm300
  generalize hW0 : (w.alloc (.cells (bA k) 44)) = W0 at *
  go_enter Try.func18, Try.ntmps18
  go_wp2_with fail
  refine (HSH.out _).mono ?_
  rintro e w' ⟨rfl, rfl⟩
  go_wp2
  clear hW0
  go_cut [9, 10] from 14 to 19 (fun s3 s4 wx => ∃ c b' g n cp, s3 = .pointer (some ⟨c, 0, none⟩) ∧ s4 = .int .i64 0 ∧ Cip wx c b' g n cp (roundsK k) (wordsK k) ∧ Below W0.heap.size W0 wx)
  case first =>
    refine wp_region_held_drew (S := fun w' => Below W0.heap.size W0 w') (by kernel_rfl) (Below.refl _ _).drew ?_
    intro hS
    generalize W0.drew = WD at hS ⊢
    change wpAnyH _ _ _ _ _ 8 #[false, false, false, false, false, false, false, false] _ _
    refine wpAnyH_take (i := 1) (v := ?_) rfl (by kernel_rfl) (by kernel_rfl) (by kernel_rfl) (fun _ _ _ h => h) (Or.inl ⟨by rfl, ?hy⟩) hS ?_
    case hy => intro w' hSw; go_simp; try with_reducible rfl
    simp only [List.getElem_toArray, List.getElem_cons_succ, List.getElem_cons_zero, Act.put, List.setIfInBounds_toArray, List.set_cons_zero, List.set_cons_succ]
    change wpAnyH _ _ _ _ _ 7 #[false, true, false, false, false, false, false, false] _ _
    refine wpAnyH_ready (rs := [0]) (by kernel_rfl) (by simp) ?_
    refine AllReadyH.cons rfl (fun K hK => ?_) AllReadyH.nil
    rw [if_pos (by rfl)]
    go_simp
    refine (newbox_c WD).mono ?_
    rintro e w1 ⟨rfl, hbx, hlt1, hb1⟩
    refine hK.out _ _ (hS.trans (hb1.mono hS.size)) (fun hS1 => ?_)
    clear hK K
    simp only [List.getElem_toArray, List.getElem_cons_succ, List.getElem_cons_zero, Act.put, List.setIfInBounds_toArray, List.set_cons_zero, List.set_cons_succ]
    change wpAnyH _ _ _ _ _ 6 #[true, true, false, false, false, false, false, false] _ _
    refine wpAnyH_ready (rs := [2]) (by kernel_rfl) (by simp) ?_
    refine AllReadyH.cons rfl (fun K hK => ?_) AllReadyH.nil
    rw [if_pos (by rfl)]
    go_simp
    refine (new_as16 WD.heap.size w.heap.size k HK.out.1 HK.out.2 w1 hbx ((hS1.block _ (lt_of_block H0.out)).trans H0.out)).mono ?_
    rintro e w3 ⟨c, g, n, cp, rfl, hC, hb3⟩
    refine hK.out _ _ (hS1.trans (hb3.mono hS1.size)) (fun hS3 => ?_)
    clear hK K
    simp only [List.getElem_toArray, List.getElem_cons_succ, List.getElem_cons_zero, Act.put, List.setIfInBounds_toArray, List.set_cons_zero, List.set_cons_succ]
    change wpAnyH _ _ _ _ _ 5 #[true, true, true, false, false, false, false, false] _ _
    refine wpAnyH_take (i := 3) (v := ?_) rfl (by kernel_rfl) (by kernel_rfl) (by kernel_rfl) (fun _ _ _ h => h) (Or.inl ⟨by rfl, ?hy⟩) hS3 ?_
    case hy => intro w' hSw; go_simp; try with_reducible rfl
    simp only [List.getElem_toArray, List.getElem_cons_succ, List.getElem_cons_zero, Act.put, List.setIfInBounds_toArray, List.set_cons_zero, List.set_cons_succ]
    change wpAnyH _ _ _ _ _ 4 #[true, true, true, true, false, false, false, false] _ _
    refine wpAnyH_take (i := 4) (v := ?_) rfl (by kernel_rfl) (by kernel_rfl) (by kernel_rfl) (fun _ _ _ h => h) (Or.inl ⟨by rfl, ?hy⟩) hS3 ?_
    case hy => intro w' hSw; go_simp; try with_reducible rfl
    simp only [List.getElem_toArray, List.getElem_cons_succ, List.getElem_cons_zero, Act.put, List.setIfInBounds_toArray, List.set_cons_zero, List.set_cons_succ]
    change wpAnyH _ _ _ _ _ 3 #[true, true, true, true, true, false, false, false] _ _
    refine wpAnyH_take (i := 5) (v := ?_) rfl (by kernel_rfl) (by kernel_rfl) (by kernel_rfl) (fun _ _ _ h => h) (Or.inl ⟨by rfl, ?hy⟩) hS3 ?_
    case hy => intro w' hSw; go_simp; try with_reducible rfl
    simp only [List.getElem_toArray, List.getElem_cons_succ, List.getElem_cons_zero, Act.put, List.setIfInBounds_toArray, List.set_cons_zero, List.set_cons_succ]
    change wpAnyH _ _ _ _ _ 2 #[true, true, true, true, true, true, false, false] _ _
    refine wpAnyH_take (i := 6) (v := ?_) rfl (by kernel_rfl) (by kernel_rfl) (by kernel_rfl) (fun _ _ _ h => h) (Or.inl ⟨by rfl, ?hy⟩) hS3 ?_
    case hy => intro w' hSw; go_simp; try with_reducible rfl
    simp only [List.getElem_toArray, List.getElem_cons_succ, List.getElem_cons_zero, Act.put, List.setIfInBounds_toArray, List.set_cons_zero, List.set_cons_succ]
    change wpAnyH _ _ _ _ _ 1 #[true, true, true, true, true, true, true, false] _ _
    refine wpAnyH_take (i := 7) (v := ?_) rfl (by kernel_rfl) (by kernel_rfl) (by kernel_rfl) (fun _ _ _ h => h) (Or.inl ⟨by rfl, ?hy⟩) hS3 ?_
    case hy => intro w' hSw; go_simp; try with_reducible rfl
    simp only [List.getElem_toArray, List.getElem_cons_succ, List.getElem_cons_zero, Act.put, List.setIfInBounds_toArray, List.set_cons_zero, List.set_cons_succ]
    change wpAnyH _ _ _ _ _ 0 #[true, true, true, true, true, true, true, true] _ _
    refine wpAnyH_done (by kernel_rfl) ?_ _
    go_wp2_with fail
    go_meet
    exact ⟨c, _, g, n, cp, rfl, rfl, hC, hS3⟩
  case rest =>
    obtain ⟨c, b', g, n0, cp, rfl, rfl, hC, hb0⟩ := hcut
    have hbw : Below w.heap.size w wc := HBL.out.trans (hb0.mono HBL.out.size)
    have hnn : n ≤ 65536 := by have := HM3.out; omega
    have HRN : Hid (∀ w', Below wc.heap.size wc w' → Calls Try.prog 47 #[.slice (some ⟨w.heap.size, 0, none⟩) 16 16] w' fun e w'' => ∃ c g n cp, e = .returned (.pointer (some ⟨c, 0, none⟩)) ∧ RCip w'' c g n cp (roundsK k) (wordsK k) ∧ Below w'.heap.size w' w'') :=
      fun w' h => rnew16 w.heap.size k HK.out.1 HK.out.2 w' (((hb0.trans (h.mono hb0.size)).block _ (lt_of_block H0.out)).trans H0.out)
    have HRA : Hid (∀ (c g nw cp : Nat) (l' : List Nat) (a' : Option Addr) (cap' : Nat) (w' : World), l'.length = n → RCip w' c g nw cp (roundsK k) (wordsK k) → BytesAt w' a' cap' l' → Calls Try.prog 55 #[.pointer (some ⟨c, 0, none⟩), .int .u64 (e : Int), .int .u32 (b : Int), .slice a' n cap'] w' fun r w'' => ∃ s sc, r = .returned (.slice s n sc) ∧ BytesAt w'' s sc (xorL l' (strL k e b n)) ∧ Below w'.heap.size w' w'') :=
      fun c g nw cp l' a' cap' w' hl' hR hB => rapply_c (Or.inl HK.out.1) e b HE.out HB.out a' cap' l' n hl' hnn w' hR hB
    have HAP : Hid (∀ w', Below wc.heap.size wc w' → Calls Try.prog 56 #[.pointer (some ⟨c, 0, none⟩), .int .u64 (e : Int), .int .u32 (b : Int), .slice a n cap] w' fun r w'' => ∃ q, r = .returned (.slice (some ⟨q, 0, none⟩) n n) ∧ w'.heap.size ≤ q ∧ w''.heap[q]? = some (.cells (bA (xorL l (strL k e b n))) 5 (0, 0)) ∧ Below w'.heap.size w' w'') :=
      fun w' h => apply_c (Or.inl HK.out.1) e b HE.out HB.out a cap l n HLL.out hnn w' (hC.up h (Nat.le_refl _)) (HBA.out.up (hbw.trans (h.mono hbw.size)) (Nat.le_refl _))
    have HST : Hid (∀ w', Below wc.heap.size wc w' → Calls Try.prog 53 #[.pointer (some ⟨c, 0, none⟩), .int .u64 (e : Int), .int .u32 (b : Int), .int .i64 (n : Int)] w' fun r w'' => ∃ s sc, r = .returned (.slice s n sc) ∧ BytesAt w'' s sc (strL k e b n) ∧ Below w'.heap.size w' w'') :=
      fun w' h => stream_any (Or.inl HK.out.1) e b HE.out HB.out n hnn w' (hC.up h (Nat.le_refl _))
    have HLT : Hid (∀ x ∈ strL k e b n, x < 256) := strL_lt (Or.inl HK.out.1) hC.fbyte e b n
    have HXT : Hid (∀ x ∈ xorL l (strL k e b n), x < 256) := xorL_lt HBA.out.1 HLT.out
    have HXN : Hid ((xorL l (strL k e b n)).length = n) := by show _ = _; rw [xorL_len]; exact HLL.out
    have HSN : Hid ((strL k e b n).length = n) := strL_len _ _ _ _
    have HBI : Hid (BytesAt wc a cap l) := HBA.out.up hbw (Nat.le_refl _)
    have HNN := Lib.hid hnn
    have HBW := Lib.hid hbw
    obtain ⟨Z, hZ⟩ : ∃ Z, Z = strL k e b n := ⟨_, rfl⟩
    obtain ⟨X, hX⟩ : ∃ X, X = xorL l (strL k e b n) := ⟨_, rfl⟩
    have HXZ : Hid (xorL (List.replicate n 0) Z = Z) := xorL_zero Z n (by rw [hZ]; exact HSN.out)
    rw [← hX] at HAP HXT HXN
    have HRX : Hid (xorL l Z = X) := by show _ = _; rw [hZ, hX]
    rw [← hZ] at HST HLT HSN HRA
    clear hC hb0 hbw hnn hZ hX
    go_wp2_with fail
    refine (HRN.out wc (Below.refl _ _)).mono ?_
    rintro e1 w1 ⟨rc, rg, rn, rcp, rfl, hR, hb1⟩
    have HR := Lib.hid hR
    have HB1 := Lib.hid hb1
    clear hR hb1
    go_wp2_with fail
    refine (HRA.out rc rg rn rcp l a cap w1 HLL.out HR.out (HBI.out.up HB1.out (Nat.le_refl _))).mono ?_
    rintro r w2 ⟨s2, sc2, rfl, hs2, hb2⟩
    rw [HRX.out] at hs2
    have HB2 : Hid (Below wc.heap.size wc w2) := HB1.out.trans (hb2.mono HB1.out.size)
    have HS2 := Lib.hid hs2
    clear hs2 hb2
    go_wp2
    refine wp_region_held_drew (S := fun w' => Below w2.heap.size w2 w') (by kernel_rfl) (Below.refl _ _).drew ?_
    intro hS
    generalize w2.drew = WD at hS ⊢
    change wpAnyH _ _ _ _ _ 36 #[false, false, false, false, false, false, false, false, false, false, false, false, false, false, false, false, false, false, false, false, false, false, false, false, false, false, false, false, false, false, false, false, false, false, false, false] _ _
    refine wpAnyH_take (i := 0) (v := ?_) rfl (by kernel_rfl) (by kernel_rfl) (by kernel_rfl) (fun _ _ _ h => h) (Or.inl ⟨by rfl, ?hy⟩) hS ?_
    case hy => intro w' hSw; go_simp; try with_reducible rfl
    simp only [List.getElem_toArray, List.getElem_cons_succ, List.getElem_cons_zero, Act.put, List.setIfInBounds_toArray, List.set_cons_zero, List.set_cons_succ]
    change wpAnyH _ _ _ _ _ 35 #[true, false, false, false, false, false, false, false, false, false, false, false, false, false, false, false, false, false, false, false, false, false, false, false, false, false, false, false, false, false, false, false, false, false, false, false] _ _
    refine wpAnyH_take (i := 1) (v := ?_) rfl (by kernel_rfl) (by kernel_rfl) (by kernel_rfl) (fun _ _ _ h => h) (Or.inl ⟨by rfl, ?hy⟩) hS ?_
    case hy => intro w' hSw; go_simp; try with_reducible rfl
    simp only [List.getElem_toArray, List.getElem_cons_succ, List.getElem_cons_zero, Act.put, List.setIfInBounds_toArray, List.set_cons_zero, List.set_cons_succ]
    change wpAnyH _ _ _ _ _ 34 #[true, true, false, false, false, false, false, false, false, false, false, false, false, false, false, false, false, false, false, false, false, false, false, false, false, false, false, false, false, false, false, false, false, false, false, false] _ _
    refine wpAnyH_take (i := 2) (v := ?_) rfl (by kernel_rfl) (by kernel_rfl) (by kernel_rfl) (fun _ _ _ h => h) (Or.inl ⟨by rfl, ?hy⟩) hS ?_
    case hy => intro w' hSw; go_simp; try with_reducible rfl
    simp only [List.getElem_toArray, List.getElem_cons_succ, List.getElem_cons_zero, Act.put, List.setIfInBounds_toArray, List.set_cons_zero, List.set_cons_succ]
    change wpAnyH _ _ _ _ _ 33 #[true, true, true, false, false, false, false, false, false, false, false, false, false, false, false, false, false, false, false, false, false, false, false, false, false, false, false, false, false, false, false, false, false, false, false, false] _ _
    refine wpAnyH_take (i := 3) (v := ?_) rfl (by kernel_rfl) (by kernel_rfl) (by kernel_rfl) (fun _ _ _ h => h) (Or.inl ⟨by rfl, ?hy⟩) hS ?_
    case hy => intro w' hSw; go_simp; try with_reducible rfl
    simp only [List.getElem_toArray, List.getElem_cons_succ, List.getElem_cons_zero, Act.put, List.setIfInBounds_toArray, List.set_cons_zero, List.set_cons_succ]
    change wpAnyH _ _ _ _ _ 32 #[true, true, true, true, false, false, false, false, false, false, false, false, false, false, false, false, false, false, false, false, false, false, false, false, false, false, false, false, false, false, false, false, false, false, false, false] _ _
    refine wpAnyH_take (i := 4) (v := ?_) rfl (by kernel_rfl) (by kernel_rfl) (by kernel_rfl) (fun _ _ _ h => h) (Or.inl ⟨by rfl, ?hy⟩) hS ?_
    case hy => intro w' hSw; go_simp; try with_reducible rfl
    simp only [List.getElem_toArray, List.getElem_cons_succ, List.getElem_cons_zero, Act.put, List.setIfInBounds_toArray, List.set_cons_zero, List.set_cons_succ]
    change wpAnyH _ _ _ _ _ 31 #[true, true, true, true, true, false, false, false, false, false, false, false, false, false, false, false, false, false, false, false, false, false, false, false, false, false, false, false, false, false, false, false, false, false, false, false] _ _
    refine wpAnyH_take (i := 5) (v := ?_) rfl (by kernel_rfl) (by kernel_rfl) (by kernel_rfl) (fun _ _ _ h => h) (Or.inl ⟨by rfl, ?hy⟩) hS ?_
    case hy => intro w' hSw; go_simp; try with_reducible rfl
    simp only [List.getElem_toArray, List.getElem_cons_succ, List.getElem_cons_zero, Act.put, List.setIfInBounds_toArray, List.set_cons_zero, List.set_cons_succ]
    change wpAnyH _ _ _ _ _ 30 #[true, true, true, true, true, true, false, false, false, false, false, false, false, false, false, false, false, false, false, false, false, false, false, false, false, false, false, false, false, false, false, false, false, false, false, false] _ _
    refine wpAnyH_take (i := 6) (v := ?_) rfl (by kernel_rfl) (by kernel_rfl) (by kernel_rfl) (fun _ _ _ h => h) (Or.inl ⟨by rfl, ?hy⟩) hS ?_
    case hy => intro w' hSw; go_simp; try with_reducible rfl
    simp only [List.getElem_toArray, List.getElem_cons_succ, List.getElem_cons_zero, Act.put, List.setIfInBounds_toArray, List.set_cons_zero, List.set_cons_succ]
    change wpAnyH _ _ _ _ _ 29 #[true, true, true, true, true, true, true, false, false, false, false, false, false, false, false, false, false, false, false, false, false, false, false, false, false, false, false, false, false, false, false, false, false, false, false, false] _ _
    refine wpAnyH_take (i := 9) (v := ?_) rfl (by kernel_rfl) (by kernel_rfl) (by kernel_rfl) (fun _ _ _ h => h) (Or.inl ⟨by rfl, ?hy⟩) hS ?_
    case hy => intro w' hSw; go_simp; try with_reducible rfl
    simp only [List.getElem_toArray, List.getElem_cons_succ, List.getElem_cons_zero, Act.put, List.setIfInBounds_toArray, List.set_cons_zero, List.set_cons_succ]
    change wpAnyH _ _ _ _ _ 28 #[true, true, true, true, true, true, true, false, false, true, false, false, false, false, false, false, false, false, false, false, false, false, false, false, false, false, false, false, false, false, false, false, false, false, false, false] _ _
    refine wpAnyH_take (i := 10) rfl (by kernel_rfl) (by kernel_rfl) (by kernel_rfl) (fun _ _ _ h => h) (Or.inl ⟨by rfl, fun w' hSw => run_conv_op HXN.out (HS2.out.up hSw (Nat.le_refl _)) _ (.tmp 35) _ rfl rfl⟩) hS ?_
    simp only [List.getElem_toArray, List.getElem_cons_succ, List.getElem_cons_zero, Act.put, List.setIfInBounds_toArray, List.set_cons_zero, List.set_cons_succ]
    change wpAnyH _ _ _ _ _ 27 #[true, true, true, true, true, true, true, false, false, true, true, false, false, false, false, false, false, false, false, false, false, false, false, false, false, false, false, false, false, false, false, false, false, false, false, false] _ _
    refine wpAnyH_ready (rs := [7]) (by kernel_rfl) (by simp) ?_
    refine AllReadyH.cons rfl (fun K hK => ?_) AllReadyH.nil
    rw [if_pos (by rfl)]
    go_simp
    refine (HAP.out WD (HB2.out.trans ((hS).mono HB2.out.size))).mono ?_
    rintro r w3 ⟨q3, rfl, hq3, hq3b, hb3⟩
    refine hK.out _ _ (hS.trans (hb3.mono hS.size)) (fun hS3 => ?_)
    clear hK K
    simp only [List.getElem_toArray, List.getElem_cons_succ, List.getElem_cons_zero, Act.put, List.setIfInBounds_toArray, List.set_cons_zero, List.set_cons_succ]
    change wpAnyH _ _ _ _ _ 26 #[true, true, true, true, true, true, true, true, false, true, true, false, false, false, false, false, false, false, false, false, false, false, false, false, false, false, false, false, false, false, false, false, false, false, false, false] _ _
    have hba3 := bytesAt_block HXT.out hq3b
    rw [HXN.out] at hba3
    refine wpAnyH_ready (rs := [8]) (by kernel_rfl) (by simp) ?_
    refine AllReadyH.cons rfl (fun K hK => ?_) AllReadyH.nil
    rw [if_pos (by rfl)]
    refine wp_conv (.tmp 33) HXN.out hba3 rfl rfl ?_
    refine hK.out _ _ (hS3) (fun hS4 => ?_)
    clear hK K
    simp only [List.getElem_toArray, List.getElem_cons_succ, List.getElem_cons_zero, Act.put, List.setIfInBounds_toArray, List.set_cons_zero, List.set_cons_succ]
    change wpAnyH _ _ _ _ _ 25 #[true, true, true, true, true, true, true, true, true, true, true, false, false, false, false, false, false, false, false, false, false, false, false, false, false, false, false, false, false, false, false, false, false, false, false, false] _ _
    refine wpAnyH_take (i := 11) rfl (by kernel_rfl) (by kernel_rfl) (by kernel_rfl) (fun _ _ _ h => h) (Or.inl ⟨by rfl, fun w' hSw => run_eqs1 X HXT.out _ (.tmp 34) (.tmp 36) _ _ rfl rfl rfl w'⟩) hS4 ?_
    simp only [List.getElem_toArray, List.getElem_cons_succ, List.getElem_cons_zero, Act.put, List.setIfInBounds_toArray, List.set_cons_zero, List.set_cons_succ]
    change wpAnyH _ _ _ _ _ 24 #[true, true, true, true, true, true, true, true, true, true, true, true, false, false, false, false, false, false, false, false, false, false, false, false, false, false, false, false, false, false, false, false, false, false, false, false] _ _
    refine wpAnyH_take (i := 12) (v := ?_) rfl (by kernel_rfl) (by kernel_rfl) (by kernel_rfl) (fun _ _ _ h => h) (Or.inl ⟨by rfl, ?hy⟩) hS4 ?_
    case hy => intro w' hSw; go_simp; try with_reducible rfl
    simp only [List.getElem_toArray, List.getElem_cons_succ, List.getElem_cons_zero, Act.put, List.setIfInBounds_toArray, List.set_cons_zero, List.set_cons_succ]
    change wpAnyH _ _ _ _ _ 23 #[true, true, true, true, true, true, true, true, true, true, true, true, true, false, false, false, false, false, false, false, false, false, false, false, false, false, false, false, false, false, false, false, false, false, false, false] _ _
    refine wpAnyH_take (i := 13) (v := ?_) rfl (by kernel_rfl) (by kernel_rfl) (by kernel_rfl) (fun _ _ _ h => h) (Or.inl ⟨by rfl, ?hy⟩) hS4 ?_
    case hy => intro w' hSw; go_simp; try with_reducible rfl
    simp only [List.getElem_toArray, List.getElem_cons_succ, List.getElem_cons_zero, Act.put, List.setIfInBounds_toArray, List.set_cons_zero, List.set_cons_succ]
    change wpAnyH _ _ _ _ _ 22 #[true, true, true, true, true, true, true, true, true, true, true, true, true, true, false, false, false, false, false, false, false, false, false, false, false, false, false, false, false, false, false, false, false, false, false, false] _ _
    refine wpAnyH_take (i := 14) (v := ?_) rfl (by kernel_rfl) (by kernel_rfl) (by kernel_rfl) (fun _ _ _ h => h) (Or.inl ⟨by rfl, ?hy⟩) hS4 ?_
    case hy => intro w' hSw; go_simp; try with_reducible rfl
    simp only [List.getElem_toArray, List.getElem_cons_succ, List.getElem_cons_zero, Act.put, List.setIfInBounds_toArray, List.set_cons_zero, List.set_cons_succ]
    change wpAnyH _ _ _ _ _ 21 #[true, true, true, true, true, true, true, true, true, true, true, true, true, true, true, false, false, false, false, false, false, false, false, false, false, false, false, false, false, false, false, false, false, false, false, false] _ _
    refine wpAnyH_take (i := 15) (v := ?_) rfl (by kernel_rfl) (by kernel_rfl) (by kernel_rfl) (fun _ _ _ h => h) (Or.inl ⟨by rfl, ?hy⟩) hS4 ?_
    case hy => intro w' hSw; go_simp; try with_reducible rfl
    simp only [List.getElem_toArray, List.getElem_cons_succ, List.getElem_cons_zero, Act.put, List.setIfInBounds_toArray, List.set_cons_zero, List.set_cons_succ]
    change wpAnyH _ _ _ _ _ 20 #[true, true, true, true, true, true, true, true, true, true, true, true, true, true, true, true, false, false, false, false, false, false, false, false, false, false, false, false, false, false, false, false, false, false, false, false] _ _
    refine wpAnyH_take (i := 16) (v := ?_) rfl (by kernel_rfl) (by kernel_rfl) (by kernel_rfl) (fun _ _ _ h => h) (Or.inl ⟨by rfl, ?hy⟩) hS4 ?_
    case hy => intro w' hSw; go_simp; try with_reducible rfl
    simp only [List.getElem_toArray, List.getElem_cons_succ, List.getElem_cons_zero, Act.put, List.setIfInBounds_toArray, List.set_cons_zero, List.set_cons_succ]
    change wpAnyH _ _ _ _ _ 19 #[true, true, true, true, true, true, true, true, true, true, true, true, true, true, true, true, true, false, false, false, false, false, false, false, false, false, false, false, false, false, false, false, false, false, false, false] _ _
    refine wpAnyH_take (i := 17) (v := ?_) rfl (by kernel_rfl) (by kernel_rfl) (by kernel_rfl) (fun _ _ _ h => h) (Or.inl ⟨by rfl, ?hy⟩) hS4 ?_
    case hy => intro w' hSw; go_simp; try with_reducible rfl
    simp only [List.getElem_toArray, List.getElem_cons_succ, List.getElem_cons_zero, Act.put, List.setIfInBounds_toArray, List.set_cons_zero, List.set_cons_succ]
    change wpAnyH _ _ _ _ _ 18 #[true, true, true, true, true, true, true, true, true, true, true, true, true, true, true, true, true, true, false, false, false, false, false, false, false, false, false, false, false, false, false, false, false, false, false, false] _ _
    refine wpAnyH_take (i := 18) (v := ?_) rfl (by kernel_rfl) (by kernel_rfl) (by kernel_rfl) (fun _ _ _ h => h) (Or.inl ⟨by rfl, ?hy⟩) hS4 ?_
    case hy => intro w' hSw; go_simp; try with_reducible rfl
    simp only [List.getElem_toArray, List.getElem_cons_succ, List.getElem_cons_zero, Act.put, List.setIfInBounds_toArray, List.set_cons_zero, List.set_cons_succ]
    change wpAnyH _ _ _ _ _ 17 #[true, true, true, true, true, true, true, true, true, true, true, true, true, true, true, true, true, true, true, false, false, false, false, false, false, false, false, false, false, false, false, false, false, false, false, false] _ _
    refine wpAnyH_take (i := 21) (v := ?_) rfl (by kernel_rfl) (by kernel_rfl) (by kernel_rfl) (fun _ _ _ h => h) (Or.inl ⟨by rfl, ?hy⟩) hS4 ?_
    case hy => intro w' hSw; go_simp; try with_reducible rfl
    simp only [List.getElem_toArray, List.getElem_cons_succ, List.getElem_cons_zero, Act.put, List.setIfInBounds_toArray, List.set_cons_zero, List.set_cons_succ]
    change wpAnyH _ _ _ _ _ 16 #[true, true, true, true, true, true, true, true, true, true, true, true, true, true, true, true, true, true, true, false, false, true, false, false, false, false, false, false, false, false, false, false, false, false, false, false] _ _
    refine wpAnyH_take (i := 23) (v := ?_) rfl (by kernel_rfl) (by kernel_rfl) (by kernel_rfl) (fun _ _ _ h => h) (Or.inl ⟨by rfl, ?hy⟩) hS4 ?_
    case hy => intro w' hSw; go_simp; try with_reducible rfl
    simp only [List.getElem_toArray, List.getElem_cons_succ, List.getElem_cons_zero, Act.put, List.setIfInBounds_toArray, List.set_cons_zero, List.set_cons_succ]
    change wpAnyH _ _ _ _ _ 15 #[true, true, true, true, true, true, true, true, true, true, true, true, true, true, true, true, true, true, true, false, false, true, false, true, false, false, false, false, false, false, false, false, false, false, false, false] _ _
    refine wpAnyH_take (i := 24) (v := ?_) rfl (by kernel_rfl) (by kernel_rfl) (by kernel_rfl) (fun _ _ _ h => h) (Or.inl ⟨by rfl, ?hy⟩) hS4 ?_
    case hy => intro w' hSw; go_simp; try with_reducible rfl
    simp only [List.getElem_toArray, List.getElem_cons_succ, List.getElem_cons_zero, Act.put, List.setIfInBounds_toArray, List.set_cons_zero, List.set_cons_succ]
    change wpAnyH _ _ _ _ _ 14 #[true, true, true, true, true, true, true, true, true, true, true, true, true, true, true, true, true, true, true, false, false, true, false, true, true, false, false, false, false, false, false, false, false, false, false, false] _ _
    refine wpAnyH_take (i := 25) (v := ?_) rfl (by kernel_rfl) (by kernel_rfl) (by kernel_rfl) (fun _ _ _ h => h) (Or.inl ⟨by rfl, ?hy⟩) hS4 ?_
    case hy => intro w' hSw; go_simp; try with_reducible rfl
    simp only [List.getElem_toArray, List.getElem_cons_succ, List.getElem_cons_zero, Act.put, List.setIfInBounds_toArray, List.set_cons_zero, List.set_cons_succ]
    change wpAnyH _ _ _ _ _ 13 #[true, true, true, true, true, true, true, true, true, true, true, true, true, true, true, true, true, true, true, false, false, true, false, true, true, true, false, false, false, false, false, false, false, false, false, false] _ _
    refine wpAnyH_take (i := 26) (v := ?_) rfl (by kernel_rfl) (by kernel_rfl) (by kernel_rfl) (fun _ _ _ h => h) (Or.inl ⟨by rfl, ?hy⟩) hS4 ?_
    case hy => intro w' hSw; go_simp; try with_reducible rfl
    simp only [List.getElem_toArray, List.getElem_cons_succ, List.getElem_cons_zero, Act.put, List.setIfInBounds_toArray, List.set_cons_zero, List.set_cons_succ]
    change wpAnyH _ _ _ _ _ 12 #[true, true, true, true, true, true, true, true, true, true, true, true, true, true, true, true, true, true, true, false, false, true, false, true, true, true, true, false, false, false, false, false, false, false, false, false] _ _
    have HW3 : Hid (Below w2.heap.size w2 w3) := hS4
    clear hS hb3 hq3 hq3b hba3 hS3
    refine wpAnyH_ready (rs := [19, 27]) (by kernel_rfl) (by simp) ?_
    refine AllReadyH.cons rfl (fun K hK => ?_) (AllReadyH.cons rfl (fun K hK => ?_) AllReadyH.nil)
    · rw [if_pos (by rfl)]
      go_simp
      refine (HST.out w3 (HB2.out.trans ((hS4).mono HB2.out.size))).mono ?_
      rintro r w4 ⟨sS, scS, rfl, hStr, hb4⟩
      refine hK.out _ _ (hS4.trans (hb4.mono hS4.size)) (fun hS4 => ?_)
      clear hK K
      simp only [List.getElem_toArray, List.getElem_cons_succ, List.getElem_cons_zero, Act.put, List.setIfInBounds_toArray, List.set_cons_zero, List.set_cons_succ]
      change wpAnyH _ _ _ _ _ 11 #[true, true, true, true, true, true, true, true, true, true, true, true, true, true, true, true, true, true, true, true, false, true, false, true, true, true, true, false, false, false, false, false, false, false, false, false] _ _
      refine wpAnyH_mono (S' := fun w' => Below w4.heap.size w4 w') (fun w' h => hS4.trans (h.mono hS4.size)) _ _ _ _ ?_
      have hH4 : Below w4.heap.size w4 w4 := Below.refl _ _
      refine wpAnyH_take (i := 20) rfl (by kernel_rfl) (by kernel_rfl) (by kernel_rfl) (fun _ _ _ h => h) (Or.inl ⟨by rfl, fun w' hSw => run_conv_op HSN.out (hStr.up hSw (Nat.le_refl _)) _ (.tmp 45) _ rfl rfl⟩) hH4 ?_
      simp only [List.getElem_toArray, List.getElem_cons_succ, List.getElem_cons_zero, Act.put, List.setIfInBounds_toArray, List.set_cons_zero, List.set_cons_succ]
      change wpAnyH _ _ _ _ _ 10 #[true, true, true, true, true, true, true, true, true, true, true, true, true, true, true, true, true, true, true, true, true, true, false, true, true, true, true, false, false, false, false, false, false, false, false, false] _ _
      refine wpAnyH_ready (rs := [22, 27]) (by kernel_rfl) (by simp) ?_
      refine AllReadyH.cons rfl (fun K hK => ?_) (AllReadyH.cons rfl (fun K hK => ?_) AllReadyH.nil)
      · rw [if_pos (by rfl)]
        go_simp
        refine (HRN.out w4 (HB2.out.trans (((hS4.trans (hH4.mono hS4.size))).mono HB2.out.size))).mono ?_
        rintro r w5 ⟨c4, g4, n4, cp4, rfl, hR4, hb5⟩
        refine hK.out _ _ (hH4.trans (hb5.mono hH4.size)) (fun hS5 => ?_)
        clear hK K
        simp only [List.getElem_toArray, List.getElem_cons_succ, List.getElem_cons_zero, Act.put, List.setIfInBounds_toArray, List.set_cons_zero, List.set_cons_succ]
        change wpAnyH _ _ _ _ _ 9 #[true, true, true, true, true, true, true, true, true, true, true, true, true, true, true, true, true, true, true, true, true, true, true, true, true, true, true, false, false, false, false, false, false, false, false, false] _ _
        refine wpAnyH_ready (rs := [27]) (by kernel_rfl) (by simp) ?_
        refine AllReadyH.cons rfl (fun K hK => ?_) AllReadyH.nil
        rw [if_pos (by rfl)]
        refine wp_mkb _ _ n (by have := HNN.out; omega) rfl rfl rfl ?_
        have hb6 : Below w5.heap.size w5 (w5.alloc (.cells (bA (List.replicate n 0)) 5)) := (Below.refl _ _).alloc (Nat.le_refl _) _
        have hZ4 := zero_bytes n w5
        obtain ⟨zq, hzq⟩ : ∃ zq, zq = w5.heap.size := ⟨_, rfl⟩
        rw [← hzq] at hZ4
        rw [← hzq]
        clear hzq
        generalize (w5.alloc (.cells (bA (List.replicate n 0)) 5)) = w6 at hb6 hZ4 ⊢
        refine hK.out _ _ (hS5.trans (hb6.mono hS5.size)) (fun hS6 => ?_)
        clear hK K
        simp only [List.getElem_toArray, List.getElem_cons_succ, List.getElem_cons_zero, Act.put, List.setIfInBounds_toArray, List.set_cons_zero, List.set_cons_succ]
        change wpAnyH _ _ _ _ _ 8 #[true, true, true, true, true, true, true, true, true, true, true, true, true, true, true, true, true, true, true, true, true, true, true, true, true, true, true, true, false, false, false, false, false, false, false, false] _ _
        have hR6 := hR4.up hb6 (Nat.le_refl _)
        refine wpAnyH_ready (rs := [28]) (by kernel_rfl) (by simp) ?_
        refine AllReadyH.cons rfl (fun K hK => ?_) AllReadyH.nil
        rw [if_pos (by rfl)]
        go_simp
        refine (HRA.out c4 g4 n4 cp4 (List.replicate n 0) (some ⟨zq, 0, none⟩) n w6 (by simp) hR6 hZ4).mono ?_
        rintro r w7 ⟨sA, scA, rfl, hApp, hb7⟩
        rw [HXZ.out] at hApp
        refine hK.out _ _ (hS6.trans (hb7.mono hS6.size)) (fun hS7 => ?_)
        clear hK K
        simp only [List.getElem_toArray, List.getElem_cons_succ, List.getElem_cons_zero, Act.put, List.setIfInBounds_toArray, List.set_cons_zero, List.set_cons_succ]
        change wpAnyH _ _ _ _ _ 7 #[true, true, true, true, true, true, true, true, true, true, true, true, true, true, true, true, true, true, true, true, true, true, true, true, true, true, true, true, true, false, false, false, false, false, false, false] _ _
        refine wpAnyH_ready (rs := [29]) (by kernel_rfl) (by simp) ?_
        refine AllReadyH.cons rfl (fun K hK => ?_) AllReadyH.nil
        rw [if_pos (by rfl)]
        refine wp_conv (.tmp 54) HSN.out hApp rfl rfl ?_
        refine hK.out _ _ (hS7) (fun hS7c => ?_)
        clear hK K
        simp only [List.getElem_toArray, List.getElem_cons_succ, List.getElem_cons_zero, Act.put, List.setIfInBounds_toArray, List.set_cons_zero, List.set_cons_succ]
        change wpAnyH _ _ _ _ _ 6 #[true, true, true, true, true, true, true, true, true, true, true, true, true, true, true, true, true, true, true, true, true, true, true, true, true, true, true, true, true, true, false, false, false, false, false, false] _ _
        refine wpAnyH_take (i := 30) rfl (by kernel_rfl) (by kernel_rfl) (by kernel_rfl) (fun _ _ _ h => h) (Or.inl ⟨by rfl, fun w' hSw => run_eqs1 Z HLT.out _ (.tmp 46) (.tmp 55) _ _ rfl rfl rfl w'⟩) hS7c ?_
        simp only [List.getElem_toArray, List.getElem_cons_succ, List.getElem_cons_zero, Act.put, List.setIfInBounds_toArray, List.set_cons_zero, List.set_cons_succ]
        change wpAnyH _ _ _ _ _ 5 #[true, true, true, true, true, true, true, true, true, true, true, true, true, true, true, true, true, true, true, true, true, true, true, true, true, true, true, true, true, true, true, false, false, false, false, false] _ _
        refine wpAnyH_take (i := 31) (v := ?_) rfl (by kernel_rfl) (by kernel_rfl) (by kernel_rfl) (fun _ _ _ h => h) (Or.inl ⟨by rfl, ?hy⟩) hS7c ?_
        case hy => intro w' hSw; go_simp; try with_reducible rfl
        simp only [List.getElem_toArray, List.getElem_cons_succ, List.getElem_cons_zero, Act.put, List.setIfInBounds_toArray, List.set_cons_zero, List.set_cons_succ]
        change wpAnyH _ _ _ _ _ 4 #[true, true, true, true, true, true, true, true, true, true, true, true, true, true, true, true, true, true, true, true, true, true, true, true, true, true, true, true, true, true, true, true, false, false, false, false] _ _
        refine wpAnyH_take (i := 32) (v := ?_) rfl (by kernel_rfl) (by kernel_rfl) (by kernel_rfl) (fun _ _ _ h => h) (Or.inl ⟨by rfl, ?hy⟩) hS7c ?_
        case hy => intro w' hSw; go_simp; try with_reducible rfl
        simp only [List.getElem_toArray, List.getElem_cons_succ, List.getElem_cons_zero, Act.put, List.setIfInBounds_toArray, List.set_cons_zero, List.set_cons_succ]
        change wpAnyH _ _ _ _ _ 3 #[true, true, true, true, true, true, true, true, true, true, true, true, true, true, true, true, true, true, true, true, true, true, true, true, true, true, true, true, true, true, true, true, true, false, false, false] _ _
        refine wpAnyH_ready (rs := [33]) (by kernel_rfl) (by simp) ?_
        refine AllReadyH.cons rfl (fun K hK => ?_) AllReadyH.nil
        rw [if_pos (by rfl)]
        go_simp
        refine (awake06_c w7).mono ?_
        rintro r w8 ⟨rfl, hb8⟩
        refine hK.out _ _ (hS7c.trans (hb8.mono hS7c.size)) (fun hS8 => ?_)
        clear hK K
        simp only [List.getElem_toArray, List.getElem_cons_succ, List.getElem_cons_zero, Act.put, List.setIfInBounds_toArray, List.set_cons_zero, List.set_cons_succ]
        change wpAnyH _ _ _ _ _ 2 #[true, true, true, true, true, true, true, true, true, true, true, true, true, true, true, true, true, true, true, true, true, true, true, true, true, true, true, true, true, true, true, true, true, true, false, false] _ _
        refine wpAnyH_take (i := 34) (v := ?_) rfl (by kernel_rfl) (by kernel_rfl) (by kernel_rfl) (fun _ _ _ h => h) (Or.inl ⟨by rfl, ?hy⟩) hS8 ?_
        case hy => intro w' hSw; go_simp; try with_reducible rfl
        simp only [List.getElem_toArray, List.getElem_cons_succ, List.getElem_cons_zero, Act.put, List.setIfInBounds_toArray, List.set_cons_zero, List.set_cons_succ]
        change wpAnyH _ _ _ _ _ 1 #[true, true, true, true, true, true, true, true, true, true, true, true, true, true, true, true, true, true, true, true, true, true, true, true, true, true, true, true, true, true, true, true, true, true, true, false] _ _
        refine wpAnyH_take (i := 35) (v := ?_) rfl (by kernel_rfl) (by kernel_rfl) (by kernel_rfl) (fun _ _ _ h => h) (Or.inl ⟨by rfl, ?hy⟩) hS8 ?_
        case hy => intro w' hSw; go_simp; try with_reducible rfl
        simp only [List.getElem_toArray, List.getElem_cons_succ, List.getElem_cons_zero, Act.put, List.setIfInBounds_toArray, List.set_cons_zero, List.set_cons_succ]
        change wpAnyH _ _ _ _ _ 0 #[true, true, true, true, true, true, true, true, true, true, true, true, true, true, true, true, true, true, true, true, true, true, true, true, true, true, true, true, true, true, true, true, true, true, true, true] _ _
        refine wpAnyH_done (by kernel_rfl) ?_ _
        go_wp2_with fail
        go_ret
        have hall := hS4.trans (hS8.mono hS4.size)
        have hall2 := HB2.out.trans (hall.mono HB2.out.size)
        exact ⟨rfl, HBW.out.trans (hall2.mono HBW.out.size)⟩
      · rw [if_pos (by rfl)]
        refine wp_mkb _ _ n (by have := HNN.out; omega) rfl rfl rfl ?_
        have hb9 : Below w4.heap.size w4 (w4.alloc (.cells (bA (List.replicate n 0)) 5)) := (Below.refl _ _).alloc (Nat.le_refl _) _
        have hZ4 := zero_bytes n w4
        obtain ⟨zq, hzq⟩ : ∃ zq, zq = w4.heap.size := ⟨_, rfl⟩
        rw [← hzq] at hZ4
        rw [← hzq]
        clear hzq
        generalize (w4.alloc (.cells (bA (List.replicate n 0)) 5)) = w9 at hb9 hZ4 ⊢
        refine hK.out _ _ (hH4.trans (hb9.mono hH4.size)) (fun hS9 => ?_)
        clear hK K
        simp only [List.getElem_toArray, List.getElem_cons_succ, List.getElem_cons_zero, Act.put, List.setIfInBounds_toArray, List.set_cons_zero, List.set_cons_succ]
        change wpAnyH _ _ _ _ _ 9 #[true, true, true, true, true, true, true, true, true, true, true, true, true, true, true, true, true, true, true, true, true, true, false, true, true, true, true, true, false, false, false, false, false, false, false, false] _ _
        refine wpAnyH_ready (rs := [22]) (by kernel_rfl) (by simp) ?_
        refine AllReadyH.cons rfl (fun K hK => ?_) AllReadyH.nil
        rw [if_pos (by rfl)]
        go_simp
        refine (HRN.out w9 (HB2.out.trans (((hS4.trans (hS9.mono hS4.size))).mono HB2.out.size))).mono ?_
        rintro r w10 ⟨c4, g4, n4, cp4, rfl, hR4, hb10⟩
        refine hK.out _ _ (hS9.trans (hb10.mono hS9.size)) (fun hS10 => ?_)
        clear hK K
        simp only [List.getElem_toArray, List.getElem_cons_succ, List.getElem_cons_zero, Act.put, List.setIfInBounds_toArray, List.set_cons_zero, List.set_cons_succ]
        change wpAnyH _ _ _ _ _ 8 #[true, true, true, true, true, true, true, true, true, true, true, true, true, true, true, true, true, true, true, true, true, true, true, true, true, true, true, true, false, false, false, false, false, false, false, false] _ _
        have hZ10 := hZ4.up hb10 (Nat.le_refl _)
        refine wpAnyH_ready (rs := [28]) (by kernel_rfl) (by simp) ?_
        refine AllReadyH.cons rfl (fun K hK => ?_) AllReadyH.nil
        rw [if_pos (by rfl)]
        go_simp
        refine (HRA.out c4 g4 n4 cp4 (List.replicate n 0) (some ⟨zq, 0, none⟩) n w10 (by simp) hR4 hZ10).mono ?_
        rintro r w11 ⟨sA, scA, rfl, hApp, hb11⟩
        rw [HXZ.out] at hApp
        refine hK.out _ _ (hS10.trans (hb11.mono hS10.size)) (fun hS11 => ?_)
        clear hK K
        simp only [List.getElem_toArray, List.getElem_cons_succ, List.getElem_cons_zero, Act.put, List.setIfInBounds_toArray, List.set_cons_zero, List.set_cons_succ]
        change wpAnyH _ _ _ _ _ 7 #[true, true, true, true, true, true, true, true, true, true, true, true, true, true, true, true, true, true, true, true, true, true, true, true, true, true, true, true, true, false, false, false, false, false, false, false] _ _
        refine wpAnyH_ready (rs := [29]) (by kernel_rfl) (by simp) ?_
        refine AllReadyH.cons rfl (fun K hK => ?_) AllReadyH.nil
        rw [if_pos (by rfl)]
        refine wp_conv (.tmp 54) HSN.out hApp rfl rfl ?_
        refine hK.out _ _ (hS11) (fun hS11c => ?_)
        clear hK K
        simp only [List.getElem_toArray, List.getElem_cons_succ, List.getElem_cons_zero, Act.put, List.setIfInBounds_toArray, List.set_cons_zero, List.set_cons_succ]
        change wpAnyH _ _ _ _ _ 6 #[true, true, true, true, true, true, true, true, true, true, true, true, true, true, true, true, true, true, true, true, true, true, true, true, true, true, true, true, true, true, false, false, false, false, false, false] _ _
        refine wpAnyH_take (i := 30) rfl (by kernel_rfl) (by kernel_rfl) (by kernel_rfl) (fun _ _ _ h => h) (Or.inl ⟨by rfl, fun w' hSw => run_eqs1 Z HLT.out _ (.tmp 46) (.tmp 55) _ _ rfl rfl rfl w'⟩) hS11c ?_
        simp only [List.getElem_toArray, List.getElem_cons_succ, List.getElem_cons_zero, Act.put, List.setIfInBounds_toArray, List.set_cons_zero, List.set_cons_succ]
        change wpAnyH _ _ _ _ _ 5 #[true, true, true, true, true, true, true, true, true, true, true, true, true, true, true, true, true, true, true, true, true, true, true, true, true, true, true, true, true, true, true, false, false, false, false, false] _ _
        refine wpAnyH_take (i := 31) (v := ?_) rfl (by kernel_rfl) (by kernel_rfl) (by kernel_rfl) (fun _ _ _ h => h) (Or.inl ⟨by rfl, ?hy⟩) hS11c ?_
        case hy => intro w' hSw; go_simp; try with_reducible rfl
        simp only [List.getElem_toArray, List.getElem_cons_succ, List.getElem_cons_zero, Act.put, List.setIfInBounds_toArray, List.set_cons_zero, List.set_cons_succ]
        change wpAnyH _ _ _ _ _ 4 #[true, true, true, true, true, true, true, true, true, true, true, true, true, true, true, true, true, true, true, true, true, true, true, true, true, true, true, true, true, true, true, true, false, false, false, false] _ _
        refine wpAnyH_take (i := 32) (v := ?_) rfl (by kernel_rfl) (by kernel_rfl) (by kernel_rfl) (fun _ _ _ h => h) (Or.inl ⟨by rfl, ?hy⟩) hS11c ?_
        case hy => intro w' hSw; go_simp; try with_reducible rfl
        simp only [List.getElem_toArray, List.getElem_cons_succ, List.getElem_cons_zero, Act.put, List.setIfInBounds_toArray, List.set_cons_zero, List.set_cons_succ]
        change wpAnyH _ _ _ _ _ 3 #[true, true, true, true, true, true, true, true, true, true, true, true, true, true, true, true, true, true, true, true, true, true, true, true, true, true, true, true, true, true, true, true, true, false, false, false] _ _
        refine wpAnyH_ready (rs := [33]) (by kernel_rfl) (by simp) ?_
        refine AllReadyH.cons rfl (fun K hK => ?_) AllReadyH.nil
        rw [if_pos (by rfl)]
        go_simp
        refine (awake06_c w11).mono ?_
        rintro r w12 ⟨rfl, hb12⟩
        refine hK.out _ _ (hS11c.trans (hb12.mono hS11c.size)) (fun hS12 => ?_)
        clear hK K
        simp only [List.getElem_toArray, List.getElem_cons_succ, List.getElem_cons_zero, Act.put, List.setIfInBounds_toArray, List.set_cons_zero, List.set_cons_succ]
        change wpAnyH _ _ _ _ _ 2 #[true, true, true, true, true, true, true, true, true, true, true, true, true, true, true, true, true, true, true, true, true, true, true, true, true, true, true, true, true, true, true, true, true, true, false, false] _ _
        refine wpAnyH_take (i := 34) (v := ?_) rfl (by kernel_rfl) (by kernel_rfl) (by kernel_rfl) (fun _ _ _ h => h) (Or.inl ⟨by rfl, ?hy⟩) hS12 ?_
        case hy => intro w' hSw; go_simp; try with_reducible rfl
        simp only [List.getElem_toArray, List.getElem_cons_succ, List.getElem_cons_zero, Act.put, List.setIfInBounds_toArray, List.set_cons_zero, List.set_cons_succ]
        change wpAnyH _ _ _ _ _ 1 #[true, true, true, true, true, true, true, true, true, true, true, true, true, true, true, true, true, true, true, true, true, true, true, true, true, true, true, true, true, true, true, true, true, true, true, false] _ _
        refine wpAnyH_take (i := 35) (v := ?_) rfl (by kernel_rfl) (by kernel_rfl) (by kernel_rfl) (fun _ _ _ h => h) (Or.inl ⟨by rfl, ?hy⟩) hS12 ?_
        case hy => intro w' hSw; go_simp; try with_reducible rfl
        simp only [List.getElem_toArray, List.getElem_cons_succ, List.getElem_cons_zero, Act.put, List.setIfInBounds_toArray, List.set_cons_zero, List.set_cons_succ]
        change wpAnyH _ _ _ _ _ 0 #[true, true, true, true, true, true, true, true, true, true, true, true, true, true, true, true, true, true, true, true, true, true, true, true, true, true, true, true, true, true, true, true, true, true, true, true] _ _
        refine wpAnyH_done (by kernel_rfl) ?_ _
        go_wp2_with fail
        go_ret
        have hall := hS4.trans (hS12.mono hS4.size)
        have hall2 := HB2.out.trans (hall.mono HB2.out.size)
        exact ⟨rfl, HBW.out.trans (hall2.mono HBW.out.size)⟩
    · rw [if_pos (by rfl)]
      refine wp_mkb _ _ n (by have := HNN.out; omega) rfl rfl rfl ?_
      have hb13 : Below w3.heap.size w3 (w3.alloc (.cells (bA (List.replicate n 0)) 5)) := (Below.refl _ _).alloc (Nat.le_refl _) _
      have hZ4 := zero_bytes n w3
      obtain ⟨zq, hzq⟩ : ∃ zq, zq = w3.heap.size := ⟨_, rfl⟩
      rw [← hzq] at hZ4
      rw [← hzq]
      clear hzq
      generalize (w3.alloc (.cells (bA (List.replicate n 0)) 5)) = w13 at hb13 hZ4 ⊢
      refine hK.out _ _ (hS4.trans (hb13.mono hS4.size)) (fun hS13 => ?_)
      clear hK K
      simp only [List.getElem_toArray, List.getElem_cons_succ, List.getElem_cons_zero, Act.put, List.setIfInBounds_toArray, List.set_cons_zero, List.set_cons_succ]
      change wpAnyH _ _ _ _ _ 11 #[true, true, true, true, true, true, true, true, true, true, true, true, true, true, true, true, true, true, true, false, false, true, false, true, true, true, true, true, false, false, false, false, false, false, false, false] _ _
      refine wpAnyH_ready (rs := [19]) (by kernel_rfl) (by simp) ?_
      refine AllReadyH.cons rfl (fun K hK => ?_) AllReadyH.nil
      rw [if_pos (by rfl)]
      go_simp
      refine (HST.out w13 (HB2.out.trans ((hS13).mono HB2.out.size))).mono ?_
      rintro r w14 ⟨sS, scS, rfl, hStr, hb14⟩
      refine hK.out _ _ (hS13.trans (hb14.mono hS13.size)) (fun hS14 => ?_)
      clear hK K
      simp only [List.getElem_toArray, List.getElem_cons_succ, List.getElem_cons_zero, Act.put, List.setIfInBounds_toArray, List.set_cons_zero, List.set_cons_succ]
      change wpAnyH _ _ _ _ _ 10 #[true, true, true, true, true, true, true, true, true, true, true, true, true, true, true, true, true, true, true, true, false, true, false, true, true, true, true, true, false, false, false, false, false, false, false, false] _ _
      refine wpAnyH_mono (S' := fun w' => Below w14.heap.size w14 w') (fun w' h => hS14.trans (h.mono hS14.size)) _ _ _ _ ?_
      have hH14 : Below w14.heap.size w14 w14 := Below.refl _ _
      refine wpAnyH_take (i := 20) rfl (by kernel_rfl) (by kernel_rfl) (by kernel_rfl) (fun _ _ _ h => h) (Or.inl ⟨by rfl, fun w' hSw => run_conv_op HSN.out (hStr.up hSw (Nat.le_refl _)) _ (.tmp 45) _ rfl rfl⟩) hH14 ?_
      simp only [List.getElem_toArray, List.getElem_cons_succ, List.getElem_cons_zero, Act.put, List.setIfInBounds_toArray, List.set_cons_zero, List.set_cons_succ]
      change wpAnyH _ _ _ _ _ 9 #[true, true, true, true, true, true, true, true, true, true, true, true, true, true, true, true, true, true, true, true, true, true, false, true, true, true, true, true, false, false, false, false, false, false, false, false] _ _
      have hZ14 := hZ4.up hb14 (Nat.le_refl _)
      refine wpAnyH_ready (rs := [22]) (by kernel_rfl) (by simp) ?_
      refine AllReadyH.cons rfl (fun K hK => ?_) AllReadyH.nil
      rw [if_pos (by rfl)]
      go_simp
      refine (HRN.out w14 (HB2.out.trans (((hS14.trans (hH14.mono hS14.size))).mono HB2.out.size))).mono ?_
      rintro r w15 ⟨c4, g4, n4, cp4, rfl, hR4, hb15⟩
      refine hK.out _ _ (hH14.trans (hb15.mono hH14.size)) (fun hS15 => ?_)
      clear hK K
      simp only [List.getElem_toArray, List.getElem_cons_succ, List.getElem_cons_zero, Act.put, List.setIfInBounds_toArray, List.set_cons_zero, List.set_cons_succ]
      change wpAnyH _ _ _ _ _ 8 #[true, true, true, true, true, true, true, true, true, true, true, true, true, true, true, true, true, true, true, true, true, true, true, true, true, true, true, true, false, false, false, false, false, false, false, false] _ _
      have hZ15 := hZ14.up hb15 (Nat.le_refl _)
      refine wpAnyH_ready (rs := [28]) (by kernel_rfl) (by simp) ?_
      refine AllReadyH.cons rfl (fun K hK => ?_) AllReadyH.nil
      rw [if_pos (by rfl)]
      go_simp
      refine (HRA.out c4 g4 n4 cp4 (List.replicate n 0) (some ⟨zq, 0, none⟩) n w15 (by simp) hR4 hZ15).mono ?_
      rintro r w16 ⟨sA, scA, rfl, hApp, hb16⟩
      rw [HXZ.out] at hApp
      refine hK.out _ _ (hS15.trans (hb16.mono hS15.size)) (fun hS16 => ?_)
      clear hK K
      simp only [List.getElem_toArray, List.getElem_cons_succ, List.getElem_cons_zero, Act.put, List.setIfInBounds_toArray, List.set_cons_zero, List.set_cons_succ]
      change wpAnyH _ _ _ _ _ 7 #[true, true, true, true, true, true, true, true, true, true, true, true, true, true, true, true, true, true, true, true, true, true, true, true, true, true, true, true, true, false, false, false, false, false, false, false] _ _
      refine wpAnyH_ready (rs := [29]) (by kernel_rfl) (by simp) ?_
      refine AllReadyH.cons rfl (fun K hK => ?_) AllReadyH.nil
      rw [if_pos (by rfl)]
      refine wp_conv (.tmp 54) HSN.out hApp rfl rfl ?_
      refine hK.out _ _ (hS16) (fun hS16c => ?_)
      clear hK K
      simp only [List.getElem_toArray, List.getElem_cons_succ, List.getElem_cons_zero, Act.put, List.setIfInBounds_toArray, List.set_cons_zero, List.set_cons_succ]
      change wpAnyH _ _ _ _ _ 6 #[true, true, true, true, true, true, true, true, true, true, true, true, true, true, true, true, true, true, true, true, true, true, true, true, true, true, true, true, true, true, false, false, false, false, false, false] _ _
      refine wpAnyH_take (i := 30) rfl (by kernel_rfl) (by kernel_rfl) (by kernel_rfl) (fun _ _ _ h => h) (Or.inl ⟨by rfl, fun w' hSw => run_eqs1 Z HLT.out _ (.tmp 46) (.tmp 55) _ _ rfl rfl rfl w'⟩) hS16c ?_
      simp only [List.getElem_toArray, List.getElem_cons_succ, List.getElem_cons_zero, Act.put, List.setIfInBounds_toArray, List.set_cons_zero, List.set_cons_succ]
      change wpAnyH _ _ _ _ _ 5 #[true, true, true, true, true, true, true, true, true, true, true, true, true, true, true, true, true, true, true, true, true, true, true, true, true, true, true, true, true, true, true, false, false, false, false, false] _ _
      refine wpAnyH_take (i := 31) (v := ?_) rfl (by kernel_rfl) (by kernel_rfl) (by kernel_rfl) (fun _ _ _ h => h) (Or.inl ⟨by rfl, ?hy⟩) hS16c ?_
      case hy => intro w' hSw; go_simp; try with_reducible rfl
      simp only [List.getElem_toArray, List.getElem_cons_succ, List.getElem_cons_zero, Act.put, List.setIfInBounds_toArray, List.set_cons_zero, List.set_cons_succ]
      change wpAnyH _ _ _ _ _ 4 #[true, true, true, true, true, true, true, true, true, true, true, true, true, true, true, true, true, true, true, true, true, true, true, true, true, true, true, true, true, true, true, true, false, false, false, false] _ _
      refine wpAnyH_take (i := 32) (v := ?_) rfl (by kernel_rfl) (by kernel_rfl) (by kernel_rfl) (fun _ _ _ h => h) (Or.inl ⟨by rfl, ?hy⟩) hS16c ?_
      case hy => intro w' hSw; go_simp; try with_reducible rfl
      simp only [List.getElem_toArray, List.getElem_cons_succ, List.getElem_cons_zero, Act.put, List.setIfInBounds_toArray, List.set_cons_zero, List.set_cons_succ]
      change wpAnyH _ _ _ _ _ 3 #[true, true, true, true, true, true, true, true, true, true, true, true, true, true, true, true, true, true, true, true, true, true, true, true, true, true, true, true, true, true, true, true, true, false, false, false] _ _
      refine wpAnyH_ready (rs := [33]) (by kernel_rfl) (by simp) ?_
      refine AllReadyH.cons rfl (fun K hK => ?_) AllReadyH.nil
      rw [if_pos (by rfl)]
      go_simp
      refine (awake06_c w16).mono ?_
      rintro r w17 ⟨rfl, hb17⟩
      refine hK.out _ _ (hS16c.trans (hb17.mono hS16c.size)) (fun hS17 => ?_)
      clear hK K
      simp only [List.getElem_toArray, List.getElem_cons_succ, List.getElem_cons_zero, Act.put, List.setIfInBounds_toArray, List.set_cons_zero, List.set_cons_succ]
      change wpAnyH _ _ _ _ _ 2 #[true, true, true, true, true, true, true, true, true, true, true, true, true, true, true, true, true, true, true, true, true, true, true, true, true, true, true, true, true, true, true, true, true, true, false, false] _ _
      refine wpAnyH_take (i := 34) (v := ?_) rfl (by kernel_rfl) (by kernel_rfl) (by kernel_rfl) (fun _ _ _ h => h) (Or.inl ⟨by rfl, ?hy⟩) hS17 ?_
      case hy => intro w' hSw; go_simp; try with_reducible rfl
      simp only [List.getElem_toArray, List.getElem_cons_succ, List.getElem_cons_zero, Act.put, List.setIfInBounds_toArray, List.set_cons_zero, List.set_cons_succ]
      change wpAnyH _ _ _ _ _ 1 #[true, true, true, true, true, true, true, true, true, true, true, true, true, true, true, true, true, true, true, true, true, true, true, true, true, true, true, true, true, true, true, true, true, true, true, false] _ _
      refine wpAnyH_take (i := 35) (v := ?_) rfl (by kernel_rfl) (by kernel_rfl) (by kernel_rfl) (fun _ _ _ h => h) (Or.inl ⟨by rfl, ?hy⟩) hS17 ?_
      case hy => intro w' hSw; go_simp; try with_reducible rfl
      simp only [List.getElem_toArray, List.getElem_cons_succ, List.getElem_cons_zero, Act.put, List.setIfInBounds_toArray, List.set_cons_zero, List.set_cons_succ]
      change wpAnyH _ _ _ _ _ 0 #[true, true, true, true, true, true, true, true, true, true, true, true, true, true, true, true, true, true, true, true, true, true, true, true, true, true, true, true, true, true, true, true, true, true, true, true] _ _
      refine wpAnyH_done (by kernel_rfl) ?_ _
      go_wp2_with fail
      go_ret
      have hall := hS14.trans (hS17.mono hS14.size)
      have hall2 := HB2.out.trans (hall.mono HB2.out.size)
      exact ⟨rfl, HBW.out.trans (hall2.mono HBW.out.size)⟩
end Go.Proofs.Ytnmjkdmhfogeiaa
