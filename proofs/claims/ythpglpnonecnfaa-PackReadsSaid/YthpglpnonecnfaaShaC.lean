/- The contract of sha.Make: the table is the standard's. Printed by gen_shac.py. -/
import Derived.Test.YthpglpnonecnfaaShaB
import Derived.Deep.Cut
import Derived.Deep.CutRange
import Derived.OrdersHeld
import Derived.Deep.RegionHeld
import Derived.Laws.CopyOwn
import Derived.Deep.MidRow
set_option linter.unusedVariables false
set_option linter.unusedSimpArgs false
namespace Go.Proofs.Ythpglpnonecnfaa
open Go Go.RowKit Sha
/-- words as cells -/
def wA (l : List Nat) : Array Value := (l.map fun (n : Nat) => Value.int .u32 (n : Int)).toArray
theorem wA_get (l : List Nat) (k : Nat) (h : k < l.length) : (wA l)[k]? = some (.int .u32 ((l.getD k 0 : Nat) : Int)) := by
  unfold wA; simp [h]
theorem wA_size (l : List Nat) : (wA l).size = l.length := by simp [wA]
theorem wA_set (l : List Nat) (k n : Nat) : (wA l).setIfInBounds k (.int .u32 (n : Int)) = wA (l.set k n) := by
  unfold wA; simp [List.map_set]
/-- the first k of a list, then noughts -/
def partW (L : List Nat) (k : Nat) : List Nat := L.take k ++ List.replicate (L.length - k) 0
theorem partW_len (L : List Nat) (k : Nat) (h : k ≤ L.length) : (partW L k).length = L.length := by simp [partW]; omega
theorem partW_full (L : List Nat) : partW L L.length = L := by simp [partW]
theorem partW_set (L : List Nat) (k : Nat) (h : k < L.length) : (partW L k).set k (L.getD k 0) = partW L (k + 1) := by
  unfold partW
  rw [List.set_append_right _ _ (by simp; omega)]
  simp only [List.length_take, Nat.min_eq_left (Nat.le_of_lt h), Nat.sub_self]
  rw [show L.length - k = (L.length - (k + 1)) + 1 by omega, List.replicate_succ, List.set_cons_zero, List.take_succ_eq_append_getElem h, List.append_assoc]
  simp [List.getD_eq_getElem?_getD, h]
theorem KT_len : KT.length = 64 := by decide
theorem HL_len : HL.length = 8 := by decide
theorem range_row1 {w : World} {g : Nat} {v : Value} {t : TypeId} (h : w.heap[g]? = some (.cells #[v] t (0, 0))) : w.rangeAt g 0 [v] := by
  intro j u hu
  rw [Nat.zero_add, cells_at h j]
  rw [← hu, ← Array.getElem?_toList]
def tabI (i j : Nat) : List Nat := partW KT i ++ partW HL j
theorem tabI_len (i j : Nat) (hi : i ≤ 64) (hj : j ≤ 8) : (tabI i j).length = 72 := by
  unfold tabI; rw [List.length_append, partW_len _ _ (by rw [KT_len]; exact hi), partW_len _ _ (by rw [HL_len]; exact hj), KT_len, HL_len]
theorem tab_k (i j : Nat) (hi : i < 64) : (tabI i j).set i (KT.getD i 0) = tabI (i + 1) j := by
  unfold tabI
  rw [List.set_append_left _ _ (by rw [partW_len _ _ (by rw [KT_len]; omega), KT_len]; exact hi), partW_set _ _ (by rw [KT_len]; exact hi)]
theorem tab_h (i j : Nat) (hi : i ≤ 64) (hj : j < 8) : (tabI i j).set (64 + j) (HL.getD j 0) = tabI i (j + 1) := by
  unfold tabI
  have hl : (partW KT i).length = 64 := by rw [partW_len _ _ (by rw [KT_len]; exact hi), KT_len]
  rw [List.set_append_right _ _ (by rw [hl]; omega), hl, Nat.add_sub_cancel_left, partW_set _ _ (by rw [HL_len]; exact hj)]
theorem tab_zero : (Try.zeroCells80 : Array Value) = wA (tabI 0 0) := by rfl
theorem tab_full : tabI 64 8 = KT ++ HL := by
  unfold tabI
  rw [← KT_len, ← HL_len, partW_full, partW_full]
set_option maxRecDepth 100000 in
theorem primeL_lt : ∀ k, k < 64 → primeL.getD k 0 < 312 := by decide
theorem call_cube (a x : Value) (w : World) : Sem.run Try.prog (callFunc 47 #[a, x]) w = .ok (.enter 47 #[a, x]) w := by go_simp
theorem call_square (a x : Value) (w : World) : Sem.run Try.prog (callFunc 48 #[a, x]) w = .ok (.enter 48 #[a, x]) w := by go_simp
theorem cubes_c (i : Nat) (hi : i < 64) (w : World) : Calls Try.prog 46 #[.agg #[.int .u64 ((primeL.getD i 0 : Nat) : Int)], .func (.func 47) #[] #[]] w fun e w' => e = .returned (.int .u32 ((KT.getD i 0 : Nat) : Int)) ∧ Below w.heap.size w w' := by
  have h := behind_c 47 (cubeF (primeL.getD i 0)) (primeL.getD i 0) (fun x hx w => cube_c _ x (by have := primeL_lt i hi; omega) (by omega) w) call_cube w
  rw [table_k i hi] at h
  exact h
theorem squares_c (i : Nat) (hi : i < 8) (w : World) : Calls Try.prog 46 #[.agg #[.int .u64 ((primeL.getD i 0 : Nat) : Int)], .func (.func 48) #[] #[]] w fun e w' => e = .returned (.int .u32 ((HL.getD i 0 : Nat) : Int)) ∧ Below w.heap.size w w' := by
  have h := behind_c 48 (squareF (primeL.getD i 0)) (primeL.getD i 0) (fun x hx w => square_c _ x (by have := primeL_lt i (by omega); omega) (by omega) w) call_square w
  rw [table_h i hi] at h
  exact h
set_option maxRecDepth 100000 in
set_option maxHeartbeats 8000000 in
theorem make_c (w : World) : Calls Try.prog 40 #[] w fun e w' => e = .returned (.pointer (some ⟨w.heap.size, 0, none⟩)) ∧ w'.heap[w.heap.size]? = some (.cells (wA (KT ++ HL)) 80 (0, 0)) ∧ Below w.heap.size w w' := by
  have H0 : Hid ((w.alloc (.cells (Try.zeroCells80) 80)).heap[w.heap.size]? = some (.cells (wA (tabI 0 0)) 80 (0, 0))) := by
    show _ = _; rw [heap_new', tab_zero]
  have HB0 : Hid (Below w.heap.size w (w.alloc (.cells (Try.zeroCells80) 80))) := (Below.refl _ _).alloc (Nat.le_refl _) _
  go_enter Try.func40, Try.ntmps40
  go_wp2
  go_loopw [6] (fun vi wr => ∃ i : Nat, i ≤ 64 ∧ vi = .int .i64 (i : Int) ∧ Hid (wr.heap[w.heap.size]? = some (.cells (wA (tabI i (min i 8))) 80 (0, 0))) ∧ Hid (Below w.heap.size w wr)) (fun vi _ => 64 - (intOf vi).toNat)
  case atStart => exact ⟨0, by omega, rfl, H0.out, HB0.out⟩
  case round =>
    clear H0 HB0
    obtain ⟨i, hi, rfl, htab, hbel⟩ := hrel
    by_cases hlt : i < 64
    · have hd : decide ((i : Int) < 64) = true := by simp; omega
      have dl : (i : Int) < 64 := by omega
      have HP := Lib.hid (fun w => prime64_c i hlt w)
      have HC := Lib.hid (fun w => cubes_c i hlt w)
      have HPL := Lib.hid (primeL_lt i hlt)
      have HI := Lib.hid hlt
      have HSQ : Hid (∀ (h8 : i < 8) (w : World), _) := fun h8 w => squares_c i h8 w
      obtain ⟨pk, hpk⟩ : ∃ p, p = primeL.getD i 0 := ⟨_, rfl⟩
      rw [← hpk] at HP HC HPL HSQ
      have eu : IntKind.u64.wrap (pk : Int) = (pk : Int) := by have := HPL.out; rw [IntKind.wrap_u64]; omega
      obtain ⟨kk, hkk⟩ : ∃ p, p = KT.getD i 0 := ⟨_, rfl⟩
      have HKK := Lib.hid hkk
      rw [← hkk] at HC
      clear hpk hkk hi
      go_wp2_with fail
      refine (HP.out wr).mono ?_
      rintro r w' ⟨rfl, rfl⟩
      go_wp2_with (first
        | (refine wpList_store_row rfl 83 (.tmp 3) (.tmp 12) rfl wr.heap.size #[.int .u64 (pk : Int)] rfl rfl 83 _ (heap_new' _ _) (by rw [root1]; rfl) (by rfl) (by simp [Value.oneCell']) ?_; generalize hW5 : World.setRow _ _ _ = W5; have HR5 : Hid (W5.heap[wr.heap.size]? = some (.cells #[.int .u64 (pk : Int)] 83 (0, 0))) := (by rw [← hW5]; exact setRow_heap _ _ _ _ _ _ (heap_new' _ _)); have HB5 : Hid (Below wr.heap.size wr W5) := (by rw [← hW5]; exact below_setRow ((Below.refl _ _).alloc (Nat.le_refl _) _) (Nat.le_refl _) _); clear hW5)
        | fail)
      have HT5 : Hid (W5.heap[w.heap.size]? = some (.cells (wA (tabI i (min i 8))) 80 (0, 0))) := (HB5.out.block _ (lt_of_block htab.out)).trans htab.out
      have HBW : Hid (Below w.heap.size w W5) := hbel.out.trans (HB5.out.mono hbel.out.size)
      obtain ⟨rb, hrb⟩ : ∃ rb, rb = wr.heap.size := ⟨_, rfl⟩
      have HRT : Hid (w.heap.size ≠ rb ∧ w.heap.size < rb) := by have := lt_of_block htab.out; exact ⟨by omega, by omega⟩
      rw [← hrb] at HR5 ⊢
      clear hrb htab hbel HB5
      have hR7 : Hid (W5.drew.heap[rb]? = some (.cells #[.int .u64 (pk : Int)] 83 (0, 0))) := HR5.out
      have hT7 : Hid (W5.drew.heap[w.heap.size]? = some (.cells (wA (tabI i (min i 8))) 80 (0, 0))) := HT5.out
      have hB7 : Hid (Below w.heap.size w W5.drew) := HBW.out.drew
      refine wp_region_held_drew (S := fun w' => w'.heap[rb]? = some (.cells #[.int .u64 (pk : Int)] 83 (0, 0))) (by kernel_rfl) hR7.out ?_
      intro hS
      generalize W5.drew = WD7 at hS hR7 hT7 hB7 ⊢
      change wpAnyH _ _ _ _ _ 8 #[false, false, false, false, false, false, false, false] _ _
      refine wpAnyH_take (i := 0) (v := ?_) rfl (by kernel_rfl) (by kernel_rfl) (by kernel_rfl) (fun _ _ _ h => h) (Or.inl ⟨by rfl, ?hy⟩) hS ?_
      case hy => intro w' hSw; go_simp; try with_reducible rfl
      simp only [List.getElem_toArray, List.getElem_cons_succ, List.getElem_cons_zero, Act.put, List.setIfInBounds_toArray, List.set_cons_zero, List.set_cons_succ]
      change wpAnyH _ _ _ _ _ 7 #[true, false, false, false, false, false, false, false] _ _
      refine wpAnyH_take (i := 1) (v := ?_) rfl (by kernel_rfl) (by kernel_rfl) (by kernel_rfl) (fun _ _ _ h => h) (Or.inl ⟨by rfl, ?hy⟩) hS ?_
      case hy => intro w' hSw; go_simp; try with_reducible rfl
      simp only [List.getElem_toArray, List.getElem_cons_succ, List.getElem_cons_zero, Act.put, List.setIfInBounds_toArray, List.set_cons_zero, List.set_cons_succ]
      change wpAnyH _ _ _ _ _ 6 #[true, true, false, false, false, false, false, false] _ _
      refine wpAnyH_take (i := 2) rfl (by kernel_rfl) (by kernel_rfl) (by kernel_rfl) (fun _ _ _ h => h) (yieldsIf_load_mid (by rfl) _ _ rfl rb 0 rfl _ _ (fun w' h => range_row1 h) Try.underlying83 rfl (by rw [root1]; rfl)) hS ?_
      simp only [List.getElem_toArray, List.getElem_cons_succ, List.getElem_cons_zero, Act.put, List.setIfInBounds_toArray, List.set_cons_zero, List.set_cons_succ]
      change wpAnyH _ _ _ _ _ 5 #[true, true, true, false, false, false, false, false] _ _
      refine wpAnyH_take (i := 4) (v := ?_) rfl (by kernel_rfl) (by kernel_rfl) (by kernel_rfl) (fun _ _ _ h => h) (Or.inl ⟨by rfl, ?hy⟩) hS ?_
      case hy => intro w' hSw; go_simp; try with_reducible rfl
      simp only [List.getElem_toArray, List.getElem_cons_succ, List.getElem_cons_zero, Act.put, List.setIfInBounds_toArray, List.set_cons_zero, List.set_cons_succ]
      change wpAnyH _ _ _ _ _ 4 #[true, true, true, false, true, false, false, false] _ _
      refine wpAnyH_take (i := 5) (v := ?_) rfl (by kernel_rfl) (by kernel_rfl) (by kernel_rfl) (fun _ _ _ h => h) (Or.inl ⟨by rfl, ?hy⟩) hS ?_
      case hy => intro w' hSw; go_simp; try with_reducible rfl
      simp only [List.getElem_toArray, List.getElem_cons_succ, List.getElem_cons_zero, Act.put, List.setIfInBounds_toArray, List.set_cons_zero, List.set_cons_succ]
      change wpAnyH _ _ _ _ _ 3 #[true, true, true, false, true, true, false, false] _ _
      refine wpAnyH_ready (rs := [3]) (by kernel_rfl) (by simp) ?_
      refine AllReadyH.cons rfl (fun K hK => ?_) AllReadyH.nil
      rw [if_pos (by rfl)]
      go_simp
      refine (HC.out WD7).mono ?_
      rintro r we7 ⟨rfl, hbe7⟩
      refine hK.out _ _ ((hbe7.block _ (lt_of_block hS)).trans hS) (fun hSb7 => ?_)
      clear hK K
      simp only [List.getElem_toArray, List.getElem_cons_succ, List.getElem_cons_zero, Act.put, List.setIfInBounds_toArray, List.set_cons_zero, List.set_cons_succ]
      change wpAnyH _ _ _ _ _ 2 #[true, true, true, true, true, true, false, false] _ _
      have hte7 := (hbe7.block _ (lt_of_block hT7.out)).trans hT7.out
      refine wpAnyH_take (i := 6) (v := ?_) rfl (by kernel_rfl) (by kernel_rfl) (by kernel_rfl) (fun _ _ _ h => h) (Or.inl ⟨by rfl, ?hy⟩) hSb7 ?_
      case hy => intro w' hSw; go_simp; try with_reducible rfl
      simp only [List.getElem_toArray, List.getElem_cons_succ, List.getElem_cons_zero, Act.put, List.setIfInBounds_toArray, List.set_cons_zero, List.set_cons_succ]
      change wpAnyH _ _ _ _ _ 1 #[true, true, true, true, true, true, true, false] _ _
      have fr7 := free_at hte7 i
      have ce7 := (cells_at hte7 i).trans (wA_get _ i (by rw [tabI_len _ _ (by have := HI.out; omega) (by omega)]; have := HI.out; omega))
      have nb7 := block_at hte7 i (.int .u32 (kk : Int))
      rw [wA_set] at nb7
      have NB7 := Lib.hid nb7
      have BB7 : Hid (Below w.heap.size w we7) := hB7.out.trans (hbe7.mono hB7.out.size)
      clear nb7 hbe7
      refine wpAnyH_ready (rs := [7]) (by kernel_rfl) (by simp) ?_
      refine AllReadyH.cons rfl (fun K hK => ?_) AllReadyH.nil
      rw [if_pos (by rfl)]
      go_simp
      refine hK.out _ _ ((Below.heap_setCell _ _ _ _ (by have := HRT.out.1; exact fun e => this e.symm)).trans hSb7) (fun hSc7 => ?_)
      clear hK K
      simp only [List.getElem_toArray, List.getElem_cons_succ, List.getElem_cons_zero, Act.put, List.setIfInBounds_toArray, List.set_cons_zero, List.set_cons_succ]
      change wpAnyH _ _ _ _ _ 0 #[true, true, true, true, true, true, true, true] _ _
      refine wpAnyH_done (by kernel_rfl) ?_ _
      have HT7 : Hid ((we7.setCell ⟨w.heap.size, i, none⟩ (.int .u32 (kk : Int))).heap[w.heap.size]? = some (.cells (wA (tabI (i + 1) (min i 8))) 80 (0, 0))) := by
        have e := tab_k i (min i 8) HI.out
        rw [← HKK.out] at e
        have h := NB7.out
        rw [e] at h
        exact Lib.hid h
      have HB7 := Lib.hid (BB7.out.setCell (p := ⟨w.heap.size, i, none⟩) (Nat.le_refl _) (.int .u32 (kk : Int)))
      have HR7 := Lib.hid hSc7
      clear hSc7 hSb7 NB7 BB7 hte7 fr7 ce7 hS hR7 hT7 hB7
      generalize (we7.setCell ⟨w.heap.size, i, none⟩ (.int .u32 (kk : Int))) = W7 at *
      by_cases h8 : i < 8
      · have hd8 : decide ((i : Int) < 8) = true := by simp; omega
        have dl8 : (i : Int) < 8 := by omega
        have HS8 := Lib.hid (HSQ.out h8)
        obtain ⟨hh, hhh⟩ : ∃ p, p = HL.getD i 0 := ⟨_, rfl⟩
        have HHH := Lib.hid hhh
        rw [← hhh] at HS8
        have H8 := Lib.hid h8
        clear hhh
        go_wp2
        have hR9 : Hid (W7.drew.heap[rb]? = some (.cells #[.int .u64 (pk : Int)] 83 (0, 0))) := HR7.out
        have hT9 : Hid (W7.drew.heap[w.heap.size]? = some (.cells (wA (tabI (i + 1) (min i 8))) 80 (0, 0))) := HT7.out
        have hB9 : Hid (Below w.heap.size w W7.drew) := HB7.out.drew
        refine wp_region_held_drew (S := fun w' => w'.heap[rb]? = some (.cells #[.int .u64 (pk : Int)] 83 (0, 0))) (by kernel_rfl) hR9.out ?_
        intro hS
        generalize W7.drew = WD9 at hS hR9 hT9 hB9 ⊢
        change wpAnyH _ _ _ _ _ 8 #[false, false, false, false, false, false, false, false] _ _
        refine wpAnyH_take (i := 0) (v := ?_) rfl (by kernel_rfl) (by kernel_rfl) (by kernel_rfl) (fun _ _ _ h => h) (Or.inl ⟨by rfl, ?hy⟩) hS ?_
        case hy => intro w' hSw; go_simp; try with_reducible rfl
        simp only [List.getElem_toArray, List.getElem_cons_succ, List.getElem_cons_zero, Act.put, List.setIfInBounds_toArray, List.set_cons_zero, List.set_cons_succ]
        change wpAnyH _ _ _ _ _ 7 #[true, false, false, false, false, false, false, false] _ _
        refine wpAnyH_take (i := 1) (v := ?_) rfl (by kernel_rfl) (by kernel_rfl) (by kernel_rfl) (fun _ _ _ h => h) (Or.inl ⟨by rfl, ?hy⟩) hS ?_
        case hy => intro w' hSw; go_simp; try with_reducible rfl
        simp only [List.getElem_toArray, List.getElem_cons_succ, List.getElem_cons_zero, Act.put, List.setIfInBounds_toArray, List.set_cons_zero, List.set_cons_succ]
        change wpAnyH _ _ _ _ _ 6 #[true, true, false, false, false, false, false, false] _ _
        refine wpAnyH_take (i := 2) rfl (by kernel_rfl) (by kernel_rfl) (by kernel_rfl) (fun _ _ _ h => h) (yieldsIf_load_mid (by rfl) _ _ rfl rb 0 rfl _ _ (fun w' h => range_row1 h) Try.underlying83 rfl (by rw [root1]; rfl)) hS ?_
        simp only [List.getElem_toArray, List.getElem_cons_succ, List.getElem_cons_zero, Act.put, List.setIfInBounds_toArray, List.set_cons_zero, List.set_cons_succ]
        change wpAnyH _ _ _ _ _ 5 #[true, true, true, false, false, false, false, false] _ _
        refine wpAnyH_take (i := 4) (v := ?_) rfl (by kernel_rfl) (by kernel_rfl) (by kernel_rfl) (fun _ _ _ h => h) (Or.inl ⟨by rfl, ?hy⟩) hS ?_
        case hy => intro w' hSw; go_simp; try with_reducible rfl
        simp only [List.getElem_toArray, List.getElem_cons_succ, List.getElem_cons_zero, Act.put, List.setIfInBounds_toArray, List.set_cons_zero, List.set_cons_succ]
        change wpAnyH _ _ _ _ _ 4 #[true, true, true, false, true, false, false, false] _ _
        refine wpAnyH_take (i := 5) (v := ?_) rfl (by kernel_rfl) (by kernel_rfl) (by kernel_rfl) (fun _ _ _ h => h) (Or.inl ⟨by rfl, ?hy⟩) hS ?_
        case hy => intro w' hSw; go_simp; try with_reducible rfl
        simp only [List.getElem_toArray, List.getElem_cons_succ, List.getElem_cons_zero, Act.put, List.setIfInBounds_toArray, List.set_cons_zero, List.set_cons_succ]
        change wpAnyH _ _ _ _ _ 3 #[true, true, true, false, true, true, false, false] _ _
        refine wpAnyH_ready (rs := [3]) (by kernel_rfl) (by simp) ?_
        refine AllReadyH.cons rfl (fun K hK => ?_) AllReadyH.nil
        rw [if_pos (by rfl)]
        go_simp
        refine (HS8.out WD9).mono ?_
        rintro r we9 ⟨rfl, hbe9⟩
        refine hK.out _ _ ((hbe9.block _ (lt_of_block hS)).trans hS) (fun hSb9 => ?_)
        clear hK K
        simp only [List.getElem_toArray, List.getElem_cons_succ, List.getElem_cons_zero, Act.put, List.setIfInBounds_toArray, List.set_cons_zero, List.set_cons_succ]
        change wpAnyH _ _ _ _ _ 2 #[true, true, true, true, true, true, false, false] _ _
        have hte9 := (hbe9.block _ (lt_of_block hT9.out)).trans hT9.out
        refine wpAnyH_take (i := 6) (v := ?_) rfl (by kernel_rfl) (by kernel_rfl) (by kernel_rfl) (fun _ _ _ h => h) (Or.inl ⟨by rfl, ?hy⟩) hSb9 ?_
        case hy => intro w' hSw; go_simp; try with_reducible rfl
        simp only [List.getElem_toArray, List.getElem_cons_succ, List.getElem_cons_zero, Act.put, List.setIfInBounds_toArray, List.set_cons_zero, List.set_cons_succ]
        change wpAnyH _ _ _ _ _ 1 #[true, true, true, true, true, true, true, false] _ _
        have fr9 := free_at hte9 (64 + i)
        have ce9 := (cells_at hte9 (64 + i)).trans (wA_get _ (64 + i) (by rw [tabI_len _ _ (by have := HI.out; omega) (by omega)]; have := HI.out; omega))
        have nb9 := block_at hte9 (64 + i) (.int .u32 (hh : Int))
        rw [wA_set] at nb9
        have NB9 := Lib.hid nb9
        have BB9 : Hid (Below w.heap.size w we9) := hB9.out.trans (hbe9.mono hB9.out.size)
        clear nb9 hbe9
        refine wpAnyH_ready (rs := [7]) (by kernel_rfl) (by simp) ?_
        refine AllReadyH.cons rfl (fun K hK => ?_) AllReadyH.nil
        rw [if_pos (by rfl)]
        go_simp
        refine hK.out _ _ ((Below.heap_setCell _ _ _ _ (by have := HRT.out.1; exact fun e => this e.symm)).trans hSb9) (fun hSc9 => ?_)
        clear hK K
        simp only [List.getElem_toArray, List.getElem_cons_succ, List.getElem_cons_zero, Act.put, List.setIfInBounds_toArray, List.set_cons_zero, List.set_cons_succ]
        change wpAnyH _ _ _ _ _ 0 #[true, true, true, true, true, true, true, true] _ _
        refine wpAnyH_done (by kernel_rfl) ?_ _
        have HT9 := NB9
        have HB9 := Lib.hid (BB9.out.setCell (p := ⟨w.heap.size, 64 + i, none⟩) (Nat.le_refl _) (.int .u32 (hh : Int)))
        go_wp2
        go_roundw
        case rel =>
          refine ⟨i + 1, by have := HI.out; omega, by go_num, ?_, ?_⟩
          · have e1 : min i 8 = i := by have := H8.out; omega
            have e2 : min (i + 1) 8 = i + 1 := by have := H8.out; omega
            rw [e2]
            have e := tab_h (i + 1) i (by have := HI.out; omega) H8.out
            rw [← HHH.out] at e
            have h := HT9.out
            rw [e1, e] at h
            exact h
          · exact HB9.out
        case measure => simp [intOf]; have := HI.out; omega
      · have hd8 : decide ((i : Int) < 8) = false := by simp; omega
        have H8 := Lib.hid h8
        go_wp2
        go_roundw
        case rel =>
          refine ⟨i + 1, by have := HI.out; omega, by go_num, ?_, HB7.out⟩
          have e1 : min (i + 1) 8 = min i 8 := by have := H8.out; omega
          rw [e1]; exact HT7.out
        case measure => simp [intOf]; have := HI.out; omega
    · have hi64 : i = 64 := by omega
      have hd : decide ((i : Int) < 64) = false := by simp; omega
      have HI := Lib.hid hi64
      clear hi64 hi
      go_wp2
      go_ret
      refine ⟨rfl, ?_, hbel.out⟩
      have := htab.out
      rw [HI.out, show min 64 8 = 8 from rfl, tab_full] at this
      exact this
end Go.Proofs.Ythpglpnonecnfaa
