/- Contracts of Cipher.Decrypt. Printed by gen_dec.py. -/
import Derived.Test.YtnmjkdmhfogeiaaAesH
set_option linter.unusedVariables false
set_option linter.unusedSimpArgs false
namespace Go.Proofs.Ytnmjkdmhfogeiaa
open Go Go.RowKit GfM
/-- the state behind the last rounds -/
def decS (W : List Nat) (r : Nat) (l : List Nat) : Nat → List Nat
  | 0 => sunsubL (unshiftL (keyL l W r))
  | i + 1 => sunsubL (unshiftL (sunmixL (keyL (decS W r l i) W (r - 1 - i))))
def decL (W : List Nat) (r : Nat) (l : List Nat) : List Nat := keyL (decS W r l (r - 1)) W 0
theorem decS_succ (W l : List Nat) (r i : Nat) : decS W r l (i + 1) = sunsubL (unshiftL (sunmixL (keyL (decS W r l i) W (r - 1 - i)))) := rfl
theorem decS_by (W l : List Nat) (r : Nat) (hl : By l) (hW : ∀ x ∈ W, x < 256) (hr : 16 * r + 16 ≤ W.length) : ∀ i, By (decS W r l i)
  | 0 => stp_unsub.okay _ (stp_unshift.okay _ (key_by l W r hl hW hr))
  | i + 1 => stp_unsub.okay _ (stp_unshift.okay _ (stp_unmix.okay _ (key_by _ W (r - 1 - i) (decS_by W l r hl hW hr i) hW (by omega))))
theorem all3u_c (b : Nat) (s : List Nat) (hs : By s) (p : Nat) (t : TypeId) (w : World) (hB : IsBox w b) (hp : w.heap[p]? = some (.cells #[.func (.func 87) #[] #[], .func (.func 85) #[] #[], .func (.func 86) #[] #[]] t (0, 0))) :
    Calls Try.prog 79 #[.agg (stA s b), .slice (some ⟨p, 0, none⟩) 3 3] w fun e w' => e = .returned (.agg (stA (sunsubL (unshiftL (sunmixL s))) b)) ∧ Below w.heap.size w w' :=
  all_c [(87, sunmixL), (85, unshiftL), (86, sunsubL)] (by
    intro p hp; simp only [List.mem_cons, List.not_mem_nil, or_false] at hp
    rcases hp with rfl | rfl | rfl
    · exact stp_unmix
    · exact stp_unshift
    · exact stp_unsub) (by simp) s hs b w hB p t hp
theorem all2u_c (b : Nat) (s : List Nat) (hs : By s) (p : Nat) (t : TypeId) (w : World) (hB : IsBox w b) (hp : w.heap[p]? = some (.cells #[.func (.func 85) #[] #[], .func (.func 86) #[] #[]] t (0, 0))) :
    Calls Try.prog 79 #[.agg (stA s b), .slice (some ⟨p, 0, none⟩) 2 2] w fun e w' => e = .returned (.agg (stA (sunsubL (unshiftL s)) b)) ∧ Below w.heap.size w w' :=
  all_c [(85, unshiftL), (86, sunsubL)] (by
    intro p hp; simp only [List.mem_cons, List.not_mem_nil, or_false] at hp
    rcases hp with rfl | rfl
    · exact stp_unshift
    · exact stp_unsub) (by simp) s hs b w hB p t hp
theorem run_field (l : List Nat) (b : Nat) (hl : l.length = 16) (w : World) :
    Sem.run Try.prog (Instr.field 110 (.agg (stA l b)) 0) w = .ok (.agg (bA l)) w := by
  match l, hl with
  | [a0, a1, a2, a3, a4, a5, a6, a7, a8, a9, a10, a11, a12, a13, a14, a15], _ =>
    simp [bA, stA, go_sem, Instr.field]
    rfl
theorem at_new {n : Nat} {W0 cur : World} {o : Obj} {Q : Prop} (h : Below n W0 (cur.alloc o) ∧ Q) : (cur.alloc o).heap[cur.heap.size]? = some o := heap_new' _ _
theorem at_old {n : Nat} {W0 cur : World} {o x : Obj} {Q : Prop} {p : Nat} (h : Below n W0 (cur.alloc o) ∧ Q) (hx : cur.heap[p]? = some x) : (cur.alloc o).heap[p]? = some x := (heap_old' _ _ _ (by
  rcases Nat.lt_or_ge p cur.heap.size with h | h
  · exact h
  · rw [Array.getElem?_eq_none h] at hx; cases hx)).trans hx
set_option maxRecDepth 100000 in
set_option maxHeartbeats 8000000 in
theorem decrypt_c (c b g n cap r : Nat) (W l : List Nat) (hl : By l) (hr1 : 1 ≤ r) (hr : 16 * r + 16 ≤ W.length) (hr2 : r < 100) (w : World) (hC : Cip w c b g n cap r W) :
    Calls Try.prog 52 #[.pointer (some ⟨c, 0, none⟩), .agg (bA l)] w fun e w' => e = .returned (.agg (bA (decL W r l))) ∧ Below w.heap.size w w' := by
  have HC := Lib.hid hC
  have HL := Lib.hid hl
  have hb0 : ∀ (o1 : Obj), ((w.alloc (Obj.cells (bA l) 44)).alloc o1).heap[w.heap.size]? = some (.cells (bA l) 44 (0, 0)) := fun o1 => by
    rw [heap_old' _ _ _ (by simp), heap_new']
  have hb1 : ∀ (o0 : Obj) (Z : Array Value), ((w.alloc o0).alloc (Obj.cells Z 44)).heap[w.heap.size + 1]? = some (.cells Z 44 (0, 0)) := fun o0 Z => by
    rw [show w.heap.size + 1 = (w.alloc o0).heap.size by simp, heap_new']
  have B0 := Lib.hid hb0
  have B1 := Lib.hid hb1
  clear hC hl hb0 hb1
  go_enter Try.func52, Try.ntmps52
  go_wp2
  obtain ⟨W0, hW0⟩ : ∃ W0, W0 = ((w.alloc (Obj.cells (bA l) 44)).alloc (Obj.cells #[.int .u8 0, .int .u8 0, .int .u8 0, .int .u8 0, .int .u8 0, .int .u8 0, .int .u8 0, .int .u8 0, .int .u8 0, .int .u8 0, .int .u8 0, .int .u8 0, .int .u8 0, .int .u8 0, .int .u8 0, .int .u8 0] 44)) := ⟨_, rfl⟩
  have hbel : Below w.heap.size w W0 := by rw [hW0]; exact (((Below.refl _ _).alloc (Nat.le_refl _) _).alloc (by simp) _)
  have g0 : W0.heap[w.heap.size]? = some (.cells (bA l) 44 (0, 0)) := by rw [hW0]; exact B0.out _
  have g1 : ∃ Z, Z.size = 16 ∧ W0.heap[w.heap.size + 1]? = some (.cells Z 44 (0, 0)) := ⟨_, rfl, by rw [hW0]; exact B1.out _ _⟩
  rw [← hW0]
  clear hW0 B0 B1
  have HBL := Lib.hid hbel
  have HG0 := Lib.hid g0
  have HG1 := Lib.hid g1
  have HC0 : Hid (Cip W0 c b g n cap r W) := HC.out.up hbel (Nat.le_refl _)
  have hS0 : ∀ w', Below W0.heap.size W0 w' → w'.rangeAt w.heap.size 0 (bA l).toList ∧ w'.cell? ⟨c, 0, none⟩ = some (.pointer (some ⟨b, 0, none⟩)) ∧ w'.cell? ⟨c, 2, none⟩ = some (.int .i64 (r : Int)) := fun w' h =>
    ⟨range_bA l ((h.block _ (lt_of_block g0)).trans g0), (HC0.out.up h (Nat.le_refl _)).c0, (HC0.out.up h (Nat.le_refl _)).c2⟩
  clear hbel g0 g1
  have HKEY : Hid (∀ (i : Nat) (s : List Nat), By s → i ≤ r → ∀ (I : Int), I = (i : Int) → ∀ w', Cip w' c b g n cap r W → Calls Try.prog 78 #[.pointer (some ⟨c, 0, none⟩), .agg (stA s b), .int .i64 I] w' fun e w'' => e = .returned (.agg (stA (keyL s W i) b)) ∧ Below w'.heap.size w' w'') := fun i s hs hi I hI w' hC => hI ▸ key_c c b g n cap r W s hs.1 hs.2 i (by omega) (by omega) w' hC
  have HKB : Hid (By (keyL l W r)) := key_by l W r HL.out HC0.out.fbyte hr
  have HB0 : Hid (IsBox W0 b) := HC0.out.fbox
  have HD0 : Hid (By (decS W r l 0)) := decS_by W l r HL.out HC0.out.fbyte hr 0
  have HOK : Hid (∀ w', Below W0.heap.size W0 w' → Below W0.heap.size W0 w' ∧ w'.rangeAt w.heap.size 0 (bA l).toList ∧ w'.cell? ⟨c, 0, none⟩ = some (.pointer (some ⟨b, 0, none⟩)) ∧ w'.cell? ⟨c, 2, none⟩ = some (.int .i64 (r : Int))) := fun w' h => ⟨h, hS0 w' h⟩
  go_cut [5] from 10 to 23 (fun s5 wx => ∃ q, s5 = .pointer (some ⟨q, 0, none⟩) ∧ W0.heap.size ≤ q ∧ Hid (wx.heap[q]? = some (.cells (stA (decS W r l 0) b) 110 (0, 0))) ∧ Hid (Below W0.heap.size W0 wx))
  case first =>
    refine wp_region_held_drew (S := (fun w' => Below W0.heap.size W0 w' ∧ w'.rangeAt w.heap.size 0 (bA l).toList ∧ w'.cell? ⟨c, 0, none⟩ = some (.pointer (some ⟨b, 0, none⟩)) ∧ w'.cell? ⟨c, 2, none⟩ = some (.int .i64 (r : Int)))) (by kernel_rfl) (HOK.out _ (Below.refl _ _).drew) ?_
    clear hS0
    intro hS
    generalize W0.drew = WD at hS ⊢
    change wpAnyH _ _ _ _ _ 16 #[false, false, false, false, false, false, false, false, false, false, false, false, false, false, false, false] _ _
    refine wpAnyH_take (i := 0) (v := ?_) rfl (by kernel_rfl) (by kernel_rfl) (by kernel_rfl) (fun _ _ _ h => h) (Or.inl ⟨by rfl, ?hy⟩) hS ?_
    case hy => intro w' hSw; obtain ⟨hw1, hw2, hw3, hw4⟩ := hSw; go_simp; try with_reducible rfl
    simp only [List.getElem_toArray, List.getElem_cons_succ, List.getElem_cons_zero, Act.put, List.setIfInBounds_toArray, List.set_cons_zero, List.set_cons_succ]
    change wpAnyH _ _ _ _ _ 15 #[true, false, false, false, false, false, false, false, false, false, false, false, false, false, false, false] _ _
    refine wpAnyH_take (i := 2) (v := ?_) rfl (by kernel_rfl) (by kernel_rfl) (by kernel_rfl) (fun _ _ _ h => h) (Or.inl ⟨by rfl, ?hy⟩) hS ?_
    case hy => intro w' hSw; obtain ⟨hw1, hw2, hw3, hw4⟩ := hSw; go_simp; try with_reducible rfl
    simp only [List.getElem_toArray, List.getElem_cons_succ, List.getElem_cons_zero, Act.put, List.setIfInBounds_toArray, List.set_cons_zero, List.set_cons_succ]
    change wpAnyH _ _ _ _ _ 14 #[true, false, true, false, false, false, false, false, false, false, false, false, false, false, false, false] _ _
    refine wpAnyH_take (i := 3) (v := ?_) rfl (by kernel_rfl) (by kernel_rfl) (by kernel_rfl) (fun _ _ _ h => h) (Or.inl ⟨by rfl, ?hy⟩) hS ?_
    case hy => intro w' hSw; obtain ⟨hw1, hw2, hw3, hw4⟩ := hSw; go_simp; try with_reducible rfl
    simp only [List.getElem_toArray, List.getElem_cons_succ, List.getElem_cons_zero, Act.put, List.setIfInBounds_toArray, List.set_cons_zero, List.set_cons_succ]
    change wpAnyH _ _ _ _ _ 13 #[true, false, true, true, false, false, false, false, false, false, false, false, false, false, false, false] _ _
    refine wpAnyH_take (i := 4) (v := ?_) rfl (by kernel_rfl) (by kernel_rfl) (by kernel_rfl) (fun _ _ _ h => h) (Or.inl ⟨by rfl, ?hy⟩) hS ?_
    case hy => intro w' hSw; obtain ⟨hw1, hw2, hw3, hw4⟩ := hSw; go_simp; try with_reducible rfl
    simp only [List.getElem_toArray, List.getElem_cons_succ, List.getElem_cons_zero, Act.put, List.setIfInBounds_toArray, List.set_cons_zero, List.set_cons_succ]
    change wpAnyH _ _ _ _ _ 12 #[true, false, true, true, true, false, false, false, false, false, false, false, false, false, false, false] _ _
    refine wpAnyH_take (i := 5) (v := ?_) rfl (by kernel_rfl) (by kernel_rfl) (by kernel_rfl) (fun _ _ _ h => h) (Or.inl ⟨by rfl, ?hy⟩) hS ?_
    case hy => intro w' hSw; obtain ⟨hw1, hw2, hw3, hw4⟩ := hSw; go_simp; try with_reducible rfl
    simp only [List.getElem_toArray, List.getElem_cons_succ, List.getElem_cons_zero, Act.put, List.setIfInBounds_toArray, List.set_cons_zero, List.set_cons_succ]
    change wpAnyH _ _ _ _ _ 11 #[true, false, true, true, true, true, false, false, false, false, false, false, false, false, false, false] _ _
    refine wpAnyH_take (i := 7) (v := ?_) rfl (by kernel_rfl) (by kernel_rfl) (by kernel_rfl) (fun _ _ _ h => h) (Or.inl ⟨by rfl, ?hy⟩) hS ?_
    case hy => intro w' hSw; obtain ⟨hw1, hw2, hw3, hw4⟩ := hSw; go_simp; try with_reducible rfl
    simp only [List.getElem_toArray, List.getElem_cons_succ, List.getElem_cons_zero, Act.put, List.setIfInBounds_toArray, List.set_cons_zero, List.set_cons_succ]
    change wpAnyH _ _ _ _ _ 10 #[true, false, true, true, true, true, false, true, false, false, false, false, false, false, false, false] _ _
    refine wpAnyH_take (i := 8) (v := ?_) rfl (by kernel_rfl) (by kernel_rfl) (by kernel_rfl) (fun _ _ _ h => h) (Or.inl ⟨by rfl, ?hy⟩) hS ?_
    case hy => intro w' hSw; obtain ⟨hw1, hw2, hw3, hw4⟩ := hSw; go_simp; try with_reducible rfl
    simp only [List.getElem_toArray, List.getElem_cons_succ, List.getElem_cons_zero, Act.put, List.setIfInBounds_toArray, List.set_cons_zero, List.set_cons_succ]
    change wpAnyH _ _ _ _ _ 9 #[true, false, true, true, true, true, false, true, true, false, false, false, false, false, false, false] _ _
    refine wpAnyH_take (i := 9) (v := ?_) rfl (by kernel_rfl) (by kernel_rfl) (by kernel_rfl) (fun _ _ _ h => h) (Or.inl ⟨by rfl, ?hy⟩) hS ?_
    case hy => intro w' hSw; obtain ⟨hw1, hw2, hw3, hw4⟩ := hSw; go_simp; try with_reducible rfl
    simp only [List.getElem_toArray, List.getElem_cons_succ, List.getElem_cons_zero, Act.put, List.setIfInBounds_toArray, List.set_cons_zero, List.set_cons_succ]
    change wpAnyH _ _ _ _ _ 8 #[true, false, true, true, true, true, false, true, true, true, false, false, false, false, false, false] _ _
    refine wpAnyH_take (i := 10) (v := ?_) rfl (by kernel_rfl) (by kernel_rfl) (by kernel_rfl) (fun _ _ _ h => h) (Or.inl ⟨by rfl, ?hy⟩) hS ?_
    case hy => intro w' hSw; obtain ⟨hw1, hw2, hw3, hw4⟩ := hSw; go_simp; try with_reducible rfl
    simp only [List.getElem_toArray, List.getElem_cons_succ, List.getElem_cons_zero, Act.put, List.setIfInBounds_toArray, List.set_cons_zero, List.set_cons_succ]
    change wpAnyH _ _ _ _ _ 7 #[true, false, true, true, true, true, false, true, true, true, true, false, false, false, false, false] _ _
    refine wpAnyH_take (i := 1) rfl (by kernel_rfl) (by kernel_rfl) (by kernel_rfl) (fun _ _ _ h => h) (yieldsIf_load_mid (by rfl) _ _ rfl w.heap.size 0 rfl (bA l).toList _ (fun _ h => h.2.1) Try.underlying44 rfl (by rw [zero16']; simp [bA_size, HL.out.1])) hS ?_
    simp only [List.getElem_toArray, List.getElem_cons_succ, List.getElem_cons_zero, Act.put, List.setIfInBounds_toArray, List.set_cons_zero, List.set_cons_succ]
    change wpAnyH _ _ _ _ _ 6 #[true, true, true, true, true, true, false, true, true, true, true, false, false, false, false, false] _ _
    refine wpAnyH_take (i := 6) rfl (by kernel_rfl) (by kernel_rfl) (by kernel_rfl) (fun _ _ _ h => h) (Or.inl ⟨by rfl, fun w' _ => run_build_state l b HL.out.1 _ (.tmp 11) (.tmp 15) _ rfl rfl rfl w'⟩) hS ?_
    simp only [List.getElem_toArray, List.getElem_cons_succ, List.getElem_cons_zero, Act.put, List.setIfInBounds_toArray, List.set_cons_zero, List.set_cons_succ]
    change wpAnyH _ _ _ _ _ 5 #[true, true, true, true, true, true, true, true, true, true, true, false, false, false, false, false] _ _
    refine wpAnyH_ready (rs := [11, 12, 14]) (by kernel_rfl) (by simp) ?_
    refine AllReadyH.cons rfl (fun K hK => ?_) ?_
    · skip
      rw [if_pos (by rfl)]
      go_simp
      refine (HKEY.out r l HL.out (Nat.le_refl _) _ rfl _ (HC0.out.up hS.1 (Nat.le_refl _))).mono ?_
      rintro e w1 ⟨rfl, hb2⟩
      refine hK.out _ _ (HOK.out _ (hS.1.trans (hb2.mono hS.1.size))) (fun hS3 => ?_)
      clear hK K
      simp only [List.getElem_toArray, List.getElem_cons_succ, List.getElem_cons_zero, Act.put, List.setIfInBounds_toArray, List.set_cons_zero, List.set_cons_succ]
      change wpAnyH _ _ _ _ _ 4 #[true, true, true, true, true, true, true, true, true, true, true, true, false, false, false, false] _ _
      refine wpAnyH_ready (rs := [12, 14]) (by kernel_rfl) (by simp) ?_
      refine AllReadyH.cons rfl (fun K hK => ?_) ?_
      · skip
        rw [if_pos (by rfl)]
        go_simp
        have z4 := hS3.1.size
        try simp only [World.size_alloc] at z4
        refine hK.out _ _ (HOK.out _ (hS3.1.alloc hS3.1.size _)) (fun hS5 => ?_)
        clear hK K
        simp only [List.getElem_toArray, List.getElem_cons_succ, List.getElem_cons_zero, Act.put, List.setIfInBounds_toArray, List.set_cons_zero, List.set_cons_succ]
        change wpAnyH _ _ _ _ _ 3 #[true, true, true, true, true, true, true, true, true, true, true, true, true, false, false, false] _ _
        have hp6 := at_new hS5
        try simp only [World.size_alloc] at hp6
        refine wpAnyH_ready (rs := [13, 14]) (by kernel_rfl) (by simp) ?_
        refine AllReadyH.cons rfl (fun K hK => ?_) ?_
        · skip
          rw [if_pos (by rfl)]
          go_simp
          refine (all2u_c b _ HKB.out _ _ _ (HB0.out.later hS5.1 HB0.out.lt) hp6).mono ?_
          rintro e w7 ⟨rfl, hb8⟩
          refine hK.out _ _ (HOK.out _ (hS5.1.trans (hb8.mono hS5.1.size))) (fun hS9 => ?_)
          clear hK K
          simp only [List.getElem_toArray, List.getElem_cons_succ, List.getElem_cons_zero, Act.put, List.setIfInBounds_toArray, List.set_cons_zero, List.set_cons_succ]
          change wpAnyH _ _ _ _ _ 2 #[true, true, true, true, true, true, true, true, true, true, true, true, true, true, false, false] _ _
          refine wpAnyH_ready (rs := [14]) (by kernel_rfl) (by simp) ?_
          refine AllReadyH.cons rfl (fun K hK => ?_) AllReadyH.nil
          rw [if_pos (by rfl)]
          go_simp
          have z10 := hS9.1.size
          try simp only [World.size_alloc] at z10
          refine hK.out _ _ (HOK.out _ (hS9.1.alloc hS9.1.size _)) (fun hS11 => ?_)
          clear hK K
          simp only [List.getElem_toArray, List.getElem_cons_succ, List.getElem_cons_zero, Act.put, List.setIfInBounds_toArray, List.set_cons_zero, List.set_cons_succ]
          change wpAnyH _ _ _ _ _ 1 #[true, true, true, true, true, true, true, true, true, true, true, true, true, true, true, false] _ _
          have hq12 := at_new hS11
          try simp only [World.size_alloc] at hq12
          refine wpAnyH_ready (rs := [15]) (by kernel_rfl) (by simp) ?_
          refine AllReadyH.cons rfl (fun K hK => ?_) AllReadyH.nil
          rw [if_pos (by rfl)]
          refine wp_store_row 110 (.tmp 5) (.tmp 23) rfl _ (stA (decS W r l 0) b) rfl rfl 110 _ hq12 (by rw [st17, stA_size, HD0.out.1]) (by rw [stA_size, HD0.out.1]; rfl) (stA_one _ _) ?_
          refine hK.out _ _ (HOK.out _ (below_setRow hS11.1 (by omega) _)) (fun hS13 => ?_)
          clear hK K
          simp only [List.getElem_toArray, List.getElem_cons_succ, List.getElem_cons_zero, Act.put, List.setIfInBounds_toArray, List.set_cons_zero, List.set_cons_succ]
          change wpAnyH _ _ _ _ _ 0 #[true, true, true, true, true, true, true, true, true, true, true, true, true, true, true, true] _ _
          refine wpAnyH_done (by kernel_rfl) ?_ _
          go_wp2_with fail
          go_meet
          exact ⟨_, rfl, by omega, setRow_heap _ _ _ _ _ _ hq12, hS13.1⟩
        · skip
          refine AllReadyH.cons rfl (fun K hK => ?_) AllReadyH.nil
          rw [if_pos (by rfl)]
          go_simp
          have z14 := hS5.1.size
          try simp only [World.size_alloc] at z14
          refine hK.out _ _ (HOK.out _ (hS5.1.alloc hS5.1.size _)) (fun hS15 => ?_)
          clear hK K
          simp only [List.getElem_toArray, List.getElem_cons_succ, List.getElem_cons_zero, Act.put, List.setIfInBounds_toArray, List.set_cons_zero, List.set_cons_succ]
          change wpAnyH _ _ _ _ _ 2 #[true, true, true, true, true, true, true, true, true, true, true, true, true, false, true, false] _ _
          have hq16 := at_new hS15
          try simp only [World.size_alloc] at hq16
          have hp17 := at_old hS15 hp6
          refine wpAnyH_ready (rs := [13]) (by kernel_rfl) (by simp) ?_
          refine AllReadyH.cons rfl (fun K hK => ?_) AllReadyH.nil
          rw [if_pos (by rfl)]
          go_simp
          refine (all2u_c b _ HKB.out _ _ _ (HB0.out.later hS15.1 HB0.out.lt) hp17).mono ?_
          rintro e w18 ⟨rfl, hb19⟩
          have hq20 := (hb19.block _ (lt_of_block hq16)).trans hq16
          refine hK.out _ _ (HOK.out _ (hS15.1.trans (hb19.mono hS15.1.size))) (fun hS21 => ?_)
          clear hK K
          simp only [List.getElem_toArray, List.getElem_cons_succ, List.getElem_cons_zero, Act.put, List.setIfInBounds_toArray, List.set_cons_zero, List.set_cons_succ]
          change wpAnyH _ _ _ _ _ 1 #[true, true, true, true, true, true, true, true, true, true, true, true, true, true, true, false] _ _
          refine wpAnyH_ready (rs := [15]) (by kernel_rfl) (by simp) ?_
          refine AllReadyH.cons rfl (fun K hK => ?_) AllReadyH.nil
          rw [if_pos (by rfl)]
          refine wp_store_row 110 (.tmp 5) (.tmp 23) rfl _ (stA (decS W r l 0) b) rfl rfl 110 _ hq20 (by rw [st17, stA_size, HD0.out.1]) (by rw [stA_size, HD0.out.1]; rfl) (stA_one _ _) ?_
          refine hK.out _ _ (HOK.out _ (below_setRow hS21.1 (by omega) _)) (fun hS22 => ?_)
          clear hK K
          simp only [List.getElem_toArray, List.getElem_cons_succ, List.getElem_cons_zero, Act.put, List.setIfInBounds_toArray, List.set_cons_zero, List.set_cons_succ]
          change wpAnyH _ _ _ _ _ 0 #[true, true, true, true, true, true, true, true, true, true, true, true, true, true, true, true] _ _
          refine wpAnyH_done (by kernel_rfl) ?_ _
          go_wp2_with fail
          go_meet
          exact ⟨_, rfl, by omega, setRow_heap _ _ _ _ _ _ hq20, hS22.1⟩
      · skip
        refine AllReadyH.cons rfl (fun K hK => ?_) AllReadyH.nil
        rw [if_pos (by rfl)]
        go_simp
        have z23 := hS3.1.size
        try simp only [World.size_alloc] at z23
        refine hK.out _ _ (HOK.out _ (hS3.1.alloc hS3.1.size _)) (fun hS24 => ?_)
        clear hK K
        simp only [List.getElem_toArray, List.getElem_cons_succ, List.getElem_cons_zero, Act.put, List.setIfInBounds_toArray, List.set_cons_zero, List.set_cons_succ]
        change wpAnyH _ _ _ _ _ 3 #[true, true, true, true, true, true, true, true, true, true, true, true, false, false, true, false] _ _
        have hq25 := at_new hS24
        try simp only [World.size_alloc] at hq25
        refine wpAnyH_ready (rs := [12]) (by kernel_rfl) (by simp) ?_
        refine AllReadyH.cons rfl (fun K hK => ?_) AllReadyH.nil
        rw [if_pos (by rfl)]
        go_simp
        have z26 := hS24.1.size
        try simp only [World.size_alloc] at z26
        refine hK.out _ _ (HOK.out _ (hS24.1.alloc hS24.1.size _)) (fun hS27 => ?_)
        clear hK K
        simp only [List.getElem_toArray, List.getElem_cons_succ, List.getElem_cons_zero, Act.put, List.setIfInBounds_toArray, List.set_cons_zero, List.set_cons_succ]
        change wpAnyH _ _ _ _ _ 2 #[true, true, true, true, true, true, true, true, true, true, true, true, true, false, true, false] _ _
        have hp28 := at_new hS27
        try simp only [World.size_alloc] at hp28
        have hq29 := at_old hS27 hq25
        refine wpAnyH_ready (rs := [13]) (by kernel_rfl) (by simp) ?_
        refine AllReadyH.cons rfl (fun K hK => ?_) AllReadyH.nil
        rw [if_pos (by rfl)]
        go_simp
        refine (all2u_c b _ HKB.out _ _ _ (HB0.out.later hS27.1 HB0.out.lt) hp28).mono ?_
        rintro e w30 ⟨rfl, hb31⟩
        have hq32 := (hb31.block _ (lt_of_block hq29)).trans hq29
        refine hK.out _ _ (HOK.out _ (hS27.1.trans (hb31.mono hS27.1.size))) (fun hS33 => ?_)
        clear hK K
        simp only [List.getElem_toArray, List.getElem_cons_succ, List.getElem_cons_zero, Act.put, List.setIfInBounds_toArray, List.set_cons_zero, List.set_cons_succ]
        change wpAnyH _ _ _ _ _ 1 #[true, true, true, true, true, true, true, true, true, true, true, true, true, true, true, false] _ _
        refine wpAnyH_ready (rs := [15]) (by kernel_rfl) (by simp) ?_
        refine AllReadyH.cons rfl (fun K hK => ?_) AllReadyH.nil
        rw [if_pos (by rfl)]
        refine wp_store_row 110 (.tmp 5) (.tmp 23) rfl _ (stA (decS W r l 0) b) rfl rfl 110 _ hq32 (by rw [st17, stA_size, HD0.out.1]) (by rw [stA_size, HD0.out.1]; rfl) (stA_one _ _) ?_
        refine hK.out _ _ (HOK.out _ (below_setRow hS33.1 (by omega) _)) (fun hS34 => ?_)
        clear hK K
        simp only [List.getElem_toArray, List.getElem_cons_succ, List.getElem_cons_zero, Act.put, List.setIfInBounds_toArray, List.set_cons_zero, List.set_cons_succ]
        change wpAnyH _ _ _ _ _ 0 #[true, true, true, true, true, true, true, true, true, true, true, true, true, true, true, true] _ _
        refine wpAnyH_done (by kernel_rfl) ?_ _
        go_wp2_with fail
        go_meet
        exact ⟨_, rfl, by omega, setRow_heap _ _ _ _ _ _ hq32, hS34.1⟩
    · skip
      refine AllReadyH.cons rfl (fun K hK => ?_) ?_
      · skip
        rw [if_pos (by rfl)]
        go_simp
        have z35 := hS.1.size
        try simp only [World.size_alloc] at z35
        refine hK.out _ _ (HOK.out _ (hS.1.alloc hS.1.size _)) (fun hS36 => ?_)
        clear hK K
        simp only [List.getElem_toArray, List.getElem_cons_succ, List.getElem_cons_zero, Act.put, List.setIfInBounds_toArray, List.set_cons_zero, List.set_cons_succ]
        change wpAnyH _ _ _ _ _ 4 #[true, true, true, true, true, true, true, true, true, true, true, false, true, false, false, false] _ _
        have hp37 := at_new hS36
        try simp only [World.size_alloc] at hp37
        refine wpAnyH_ready (rs := [11, 14]) (by kernel_rfl) (by simp) ?_
        refine AllReadyH.cons rfl (fun K hK => ?_) ?_
        · skip
          rw [if_pos (by rfl)]
          go_simp
          refine (HKEY.out r l HL.out (Nat.le_refl _) _ rfl _ (HC0.out.up hS36.1 (Nat.le_refl _))).mono ?_
          rintro e w38 ⟨rfl, hb39⟩
          have hp40 := (hb39.block _ (lt_of_block hp37)).trans hp37
          refine hK.out _ _ (HOK.out _ (hS36.1.trans (hb39.mono hS36.1.size))) (fun hS41 => ?_)
          clear hK K
          simp only [List.getElem_toArray, List.getElem_cons_succ, List.getElem_cons_zero, Act.put, List.setIfInBounds_toArray, List.set_cons_zero, List.set_cons_succ]
          change wpAnyH _ _ _ _ _ 3 #[true, true, true, true, true, true, true, true, true, true, true, true, true, false, false, false] _ _
          refine wpAnyH_ready (rs := [13, 14]) (by kernel_rfl) (by simp) ?_
          refine AllReadyH.cons rfl (fun K hK => ?_) ?_
          · skip
            rw [if_pos (by rfl)]
            go_simp
            refine (all2u_c b _ HKB.out _ _ _ (HB0.out.later hS41.1 HB0.out.lt) hp40).mono ?_
            rintro e w42 ⟨rfl, hb43⟩
            refine hK.out _ _ (HOK.out _ (hS41.1.trans (hb43.mono hS41.1.size))) (fun hS44 => ?_)
            clear hK K
            simp only [List.getElem_toArray, List.getElem_cons_succ, List.getElem_cons_zero, Act.put, List.setIfInBounds_toArray, List.set_cons_zero, List.set_cons_succ]
            change wpAnyH _ _ _ _ _ 2 #[true, true, true, true, true, true, true, true, true, true, true, true, true, true, false, false] _ _
            refine wpAnyH_ready (rs := [14]) (by kernel_rfl) (by simp) ?_
            refine AllReadyH.cons rfl (fun K hK => ?_) AllReadyH.nil
            rw [if_pos (by rfl)]
            go_simp
            have z45 := hS44.1.size
            try simp only [World.size_alloc] at z45
            refine hK.out _ _ (HOK.out _ (hS44.1.alloc hS44.1.size _)) (fun hS46 => ?_)
            clear hK K
            simp only [List.getElem_toArray, List.getElem_cons_succ, List.getElem_cons_zero, Act.put, List.setIfInBounds_toArray, List.set_cons_zero, List.set_cons_succ]
            change wpAnyH _ _ _ _ _ 1 #[true, true, true, true, true, true, true, true, true, true, true, true, true, true, true, false] _ _
            have hq47 := at_new hS46
            try simp only [World.size_alloc] at hq47
            refine wpAnyH_ready (rs := [15]) (by kernel_rfl) (by simp) ?_
            refine AllReadyH.cons rfl (fun K hK => ?_) AllReadyH.nil
            rw [if_pos (by rfl)]
            refine wp_store_row 110 (.tmp 5) (.tmp 23) rfl _ (stA (decS W r l 0) b) rfl rfl 110 _ hq47 (by rw [st17, stA_size, HD0.out.1]) (by rw [stA_size, HD0.out.1]; rfl) (stA_one _ _) ?_
            refine hK.out _ _ (HOK.out _ (below_setRow hS46.1 (by omega) _)) (fun hS48 => ?_)
            clear hK K
            simp only [List.getElem_toArray, List.getElem_cons_succ, List.getElem_cons_zero, Act.put, List.setIfInBounds_toArray, List.set_cons_zero, List.set_cons_succ]
            change wpAnyH _ _ _ _ _ 0 #[true, true, true, true, true, true, true, true, true, true, true, true, true, true, true, true] _ _
            refine wpAnyH_done (by kernel_rfl) ?_ _
            go_wp2_with fail
            go_meet
            exact ⟨_, rfl, by omega, setRow_heap _ _ _ _ _ _ hq47, hS48.1⟩
          · skip
            refine AllReadyH.cons rfl (fun K hK => ?_) AllReadyH.nil
            rw [if_pos (by rfl)]
            go_simp
            have z49 := hS41.1.size
            try simp only [World.size_alloc] at z49
            refine hK.out _ _ (HOK.out _ (hS41.1.alloc hS41.1.size _)) (fun hS50 => ?_)
            clear hK K
            simp only [List.getElem_toArray, List.getElem_cons_succ, List.getElem_cons_zero, Act.put, List.setIfInBounds_toArray, List.set_cons_zero, List.set_cons_succ]
            change wpAnyH _ _ _ _ _ 2 #[true, true, true, true, true, true, true, true, true, true, true, true, true, false, true, false] _ _
            have hq51 := at_new hS50
            try simp only [World.size_alloc] at hq51
            have hp52 := at_old hS50 hp40
            refine wpAnyH_ready (rs := [13]) (by kernel_rfl) (by simp) ?_
            refine AllReadyH.cons rfl (fun K hK => ?_) AllReadyH.nil
            rw [if_pos (by rfl)]
            go_simp
            refine (all2u_c b _ HKB.out _ _ _ (HB0.out.later hS50.1 HB0.out.lt) hp52).mono ?_
            rintro e w53 ⟨rfl, hb54⟩
            have hq55 := (hb54.block _ (lt_of_block hq51)).trans hq51
            refine hK.out _ _ (HOK.out _ (hS50.1.trans (hb54.mono hS50.1.size))) (fun hS56 => ?_)
            clear hK K
            simp only [List.getElem_toArray, List.getElem_cons_succ, List.getElem_cons_zero, Act.put, List.setIfInBounds_toArray, List.set_cons_zero, List.set_cons_succ]
            change wpAnyH _ _ _ _ _ 1 #[true, true, true, true, true, true, true, true, true, true, true, true, true, true, true, false] _ _
            refine wpAnyH_ready (rs := [15]) (by kernel_rfl) (by simp) ?_
            refine AllReadyH.cons rfl (fun K hK => ?_) AllReadyH.nil
            rw [if_pos (by rfl)]
            refine wp_store_row 110 (.tmp 5) (.tmp 23) rfl _ (stA (decS W r l 0) b) rfl rfl 110 _ hq55 (by rw [st17, stA_size, HD0.out.1]) (by rw [stA_size, HD0.out.1]; rfl) (stA_one _ _) ?_
            refine hK.out _ _ (HOK.out _ (below_setRow hS56.1 (by omega) _)) (fun hS57 => ?_)
            clear hK K
            simp only [List.getElem_toArray, List.getElem_cons_succ, List.getElem_cons_zero, Act.put, List.setIfInBounds_toArray, List.set_cons_zero, List.set_cons_succ]
            change wpAnyH _ _ _ _ _ 0 #[true, true, true, true, true, true, true, true, true, true, true, true, true, true, true, true] _ _
            refine wpAnyH_done (by kernel_rfl) ?_ _
            go_wp2_with fail
            go_meet
            exact ⟨_, rfl, by omega, setRow_heap _ _ _ _ _ _ hq55, hS57.1⟩
        · skip
          refine AllReadyH.cons rfl (fun K hK => ?_) AllReadyH.nil
          rw [if_pos (by rfl)]
          go_simp
          have z58 := hS36.1.size
          try simp only [World.size_alloc] at z58
          refine hK.out _ _ (HOK.out _ (hS36.1.alloc hS36.1.size _)) (fun hS59 => ?_)
          clear hK K
          simp only [List.getElem_toArray, List.getElem_cons_succ, List.getElem_cons_zero, Act.put, List.setIfInBounds_toArray, List.set_cons_zero, List.set_cons_succ]
          change wpAnyH _ _ _ _ _ 3 #[true, true, true, true, true, true, true, true, true, true, true, false, true, false, true, false] _ _
          have hq60 := at_new hS59
          try simp only [World.size_alloc] at hq60
          have hp61 := at_old hS59 hp37
          refine wpAnyH_ready (rs := [11]) (by kernel_rfl) (by simp) ?_
          refine AllReadyH.cons rfl (fun K hK => ?_) AllReadyH.nil
          rw [if_pos (by rfl)]
          go_simp
          refine (HKEY.out r l HL.out (Nat.le_refl _) _ rfl _ (HC0.out.up hS59.1 (Nat.le_refl _))).mono ?_
          rintro e w62 ⟨rfl, hb63⟩
          have hp64 := (hb63.block _ (lt_of_block hp61)).trans hp61
          have hq65 := (hb63.block _ (lt_of_block hq60)).trans hq60
          refine hK.out _ _ (HOK.out _ (hS59.1.trans (hb63.mono hS59.1.size))) (fun hS66 => ?_)
          clear hK K
          simp only [List.getElem_toArray, List.getElem_cons_succ, List.getElem_cons_zero, Act.put, List.setIfInBounds_toArray, List.set_cons_zero, List.set_cons_succ]
          change wpAnyH _ _ _ _ _ 2 #[true, true, true, true, true, true, true, true, true, true, true, true, true, false, true, false] _ _
          refine wpAnyH_ready (rs := [13]) (by kernel_rfl) (by simp) ?_
          refine AllReadyH.cons rfl (fun K hK => ?_) AllReadyH.nil
          rw [if_pos (by rfl)]
          go_simp
          refine (all2u_c b _ HKB.out _ _ _ (HB0.out.later hS66.1 HB0.out.lt) hp64).mono ?_
          rintro e w67 ⟨rfl, hb68⟩
          have hq69 := (hb68.block _ (lt_of_block hq65)).trans hq65
          refine hK.out _ _ (HOK.out _ (hS66.1.trans (hb68.mono hS66.1.size))) (fun hS70 => ?_)
          clear hK K
          simp only [List.getElem_toArray, List.getElem_cons_succ, List.getElem_cons_zero, Act.put, List.setIfInBounds_toArray, List.set_cons_zero, List.set_cons_succ]
          change wpAnyH _ _ _ _ _ 1 #[true, true, true, true, true, true, true, true, true, true, true, true, true, true, true, false] _ _
          refine wpAnyH_ready (rs := [15]) (by kernel_rfl) (by simp) ?_
          refine AllReadyH.cons rfl (fun K hK => ?_) AllReadyH.nil
          rw [if_pos (by rfl)]
          refine wp_store_row 110 (.tmp 5) (.tmp 23) rfl _ (stA (decS W r l 0) b) rfl rfl 110 _ hq69 (by rw [st17, stA_size, HD0.out.1]) (by rw [stA_size, HD0.out.1]; rfl) (stA_one _ _) ?_
          refine hK.out _ _ (HOK.out _ (below_setRow hS70.1 (by omega) _)) (fun hS71 => ?_)
          clear hK K
          simp only [List.getElem_toArray, List.getElem_cons_succ, List.getElem_cons_zero, Act.put, List.setIfInBounds_toArray, List.set_cons_zero, List.set_cons_succ]
          change wpAnyH _ _ _ _ _ 0 #[true, true, true, true, true, true, true, true, true, true, true, true, true, true, true, true] _ _
          refine wpAnyH_done (by kernel_rfl) ?_ _
          go_wp2_with fail
          go_meet
          exact ⟨_, rfl, by omega, setRow_heap _ _ _ _ _ _ hq69, hS71.1⟩
      · skip
        refine AllReadyH.cons rfl (fun K hK => ?_) AllReadyH.nil
        rw [if_pos (by rfl)]
        go_simp
        have z72 := hS.1.size
        try simp only [World.size_alloc] at z72
        refine hK.out _ _ (HOK.out _ (hS.1.alloc hS.1.size _)) (fun hS73 => ?_)
        clear hK K
        simp only [List.getElem_toArray, List.getElem_cons_succ, List.getElem_cons_zero, Act.put, List.setIfInBounds_toArray, List.set_cons_zero, List.set_cons_succ]
        change wpAnyH _ _ _ _ _ 4 #[true, true, true, true, true, true, true, true, true, true, true, false, false, false, true, false] _ _
        have hq74 := at_new hS73
        try simp only [World.size_alloc] at hq74
        refine wpAnyH_ready (rs := [11, 12]) (by kernel_rfl) (by simp) ?_
        refine AllReadyH.cons rfl (fun K hK => ?_) ?_
        · skip
          rw [if_pos (by rfl)]
          go_simp
          refine (HKEY.out r l HL.out (Nat.le_refl _) _ rfl _ (HC0.out.up hS73.1 (Nat.le_refl _))).mono ?_
          rintro e w75 ⟨rfl, hb76⟩
          have hq77 := (hb76.block _ (lt_of_block hq74)).trans hq74
          refine hK.out _ _ (HOK.out _ (hS73.1.trans (hb76.mono hS73.1.size))) (fun hS78 => ?_)
          clear hK K
          simp only [List.getElem_toArray, List.getElem_cons_succ, List.getElem_cons_zero, Act.put, List.setIfInBounds_toArray, List.set_cons_zero, List.set_cons_succ]
          change wpAnyH _ _ _ _ _ 3 #[true, true, true, true, true, true, true, true, true, true, true, true, false, false, true, false] _ _
          refine wpAnyH_ready (rs := [12]) (by kernel_rfl) (by simp) ?_
          refine AllReadyH.cons rfl (fun K hK => ?_) AllReadyH.nil
          rw [if_pos (by rfl)]
          go_simp
          have z79 := hS78.1.size
          try simp only [World.size_alloc] at z79
          refine hK.out _ _ (HOK.out _ (hS78.1.alloc hS78.1.size _)) (fun hS80 => ?_)
          clear hK K
          simp only [List.getElem_toArray, List.getElem_cons_succ, List.getElem_cons_zero, Act.put, List.setIfInBounds_toArray, List.set_cons_zero, List.set_cons_succ]
          change wpAnyH _ _ _ _ _ 2 #[true, true, true, true, true, true, true, true, true, true, true, true, true, false, true, false] _ _
          have hp81 := at_new hS80
          try simp only [World.size_alloc] at hp81
          have hq82 := at_old hS80 hq77
          refine wpAnyH_ready (rs := [13]) (by kernel_rfl) (by simp) ?_
          refine AllReadyH.cons rfl (fun K hK => ?_) AllReadyH.nil
          rw [if_pos (by rfl)]
          go_simp
          refine (all2u_c b _ HKB.out _ _ _ (HB0.out.later hS80.1 HB0.out.lt) hp81).mono ?_
          rintro e w83 ⟨rfl, hb84⟩
          have hq85 := (hb84.block _ (lt_of_block hq82)).trans hq82
          refine hK.out _ _ (HOK.out _ (hS80.1.trans (hb84.mono hS80.1.size))) (fun hS86 => ?_)
          clear hK K
          simp only [List.getElem_toArray, List.getElem_cons_succ, List.getElem_cons_zero, Act.put, List.setIfInBounds_toArray, List.set_cons_zero, List.set_cons_succ]
          change wpAnyH _ _ _ _ _ 1 #[true, true, true, true, true, true, true, true, true, true, true, true, true, true, true, false] _ _
          refine wpAnyH_ready (rs := [15]) (by kernel_rfl) (by simp) ?_
          refine AllReadyH.cons rfl (fun K hK => ?_) AllReadyH.nil
          rw [if_pos (by rfl)]
          refine wp_store_row 110 (.tmp 5) (.tmp 23) rfl _ (stA (decS W r l 0) b) rfl rfl 110 _ hq85 (by rw [st17, stA_size, HD0.out.1]) (by rw [stA_size, HD0.out.1]; rfl) (stA_one _ _) ?_
          refine hK.out _ _ (HOK.out _ (below_setRow hS86.1 (by omega) _)) (fun hS87 => ?_)
          clear hK K
          simp only [List.getElem_toArray, List.getElem_cons_succ, List.getElem_cons_zero, Act.put, List.setIfInBounds_toArray, List.set_cons_zero, List.set_cons_succ]
          change wpAnyH _ _ _ _ _ 0 #[true, true, true, true, true, true, true, true, true, true, true, true, true, true, true, true] _ _
          refine wpAnyH_done (by kernel_rfl) ?_ _
          go_wp2_with fail
          go_meet
          exact ⟨_, rfl, by omega, setRow_heap _ _ _ _ _ _ hq85, hS87.1⟩
        · skip
          refine AllReadyH.cons rfl (fun K hK => ?_) AllReadyH.nil
          rw [if_pos (by rfl)]
          go_simp
          have z88 := hS73.1.size
          try simp only [World.size_alloc] at z88
          refine hK.out _ _ (HOK.out _ (hS73.1.alloc hS73.1.size _)) (fun hS89 => ?_)
          clear hK K
          simp only [List.getElem_toArray, List.getElem_cons_succ, List.getElem_cons_zero, Act.put, List.setIfInBounds_toArray, List.set_cons_zero, List.set_cons_succ]
          change wpAnyH _ _ _ _ _ 3 #[true, true, true, true, true, true, true, true, true, true, true, false, true, false, true, false] _ _
          have hp90 := at_new hS89
          try simp only [World.size_alloc] at hp90
          have hq91 := at_old hS89 hq74
          refine wpAnyH_ready (rs := [11]) (by kernel_rfl) (by simp) ?_
          refine AllReadyH.cons rfl (fun K hK => ?_) AllReadyH.nil
          rw [if_pos (by rfl)]
          go_simp
          refine (HKEY.out r l HL.out (Nat.le_refl _) _ rfl _ (HC0.out.up hS89.1 (Nat.le_refl _))).mono ?_
          rintro e w92 ⟨rfl, hb93⟩
          have hp94 := (hb93.block _ (lt_of_block hp90)).trans hp90
          have hq95 := (hb93.block _ (lt_of_block hq91)).trans hq91
          refine hK.out _ _ (HOK.out _ (hS89.1.trans (hb93.mono hS89.1.size))) (fun hS96 => ?_)
          clear hK K
          simp only [List.getElem_toArray, List.getElem_cons_succ, List.getElem_cons_zero, Act.put, List.setIfInBounds_toArray, List.set_cons_zero, List.set_cons_succ]
          change wpAnyH _ _ _ _ _ 2 #[true, true, true, true, true, true, true, true, true, true, true, true, true, false, true, false] _ _
          refine wpAnyH_ready (rs := [13]) (by kernel_rfl) (by simp) ?_
          refine AllReadyH.cons rfl (fun K hK => ?_) AllReadyH.nil
          rw [if_pos (by rfl)]
          go_simp
          refine (all2u_c b _ HKB.out _ _ _ (HB0.out.later hS96.1 HB0.out.lt) hp94).mono ?_
          rintro e w97 ⟨rfl, hb98⟩
          have hq99 := (hb98.block _ (lt_of_block hq95)).trans hq95
          refine hK.out _ _ (HOK.out _ (hS96.1.trans (hb98.mono hS96.1.size))) (fun hS100 => ?_)
          clear hK K
          simp only [List.getElem_toArray, List.getElem_cons_succ, List.getElem_cons_zero, Act.put, List.setIfInBounds_toArray, List.set_cons_zero, List.set_cons_succ]
          change wpAnyH _ _ _ _ _ 1 #[true, true, true, true, true, true, true, true, true, true, true, true, true, true, true, false] _ _
          refine wpAnyH_ready (rs := [15]) (by kernel_rfl) (by simp) ?_
          refine AllReadyH.cons rfl (fun K hK => ?_) AllReadyH.nil
          rw [if_pos (by rfl)]
          refine wp_store_row 110 (.tmp 5) (.tmp 23) rfl _ (stA (decS W r l 0) b) rfl rfl 110 _ hq99 (by rw [st17, stA_size, HD0.out.1]) (by rw [stA_size, HD0.out.1]; rfl) (stA_one _ _) ?_
          refine hK.out _ _ (HOK.out _ (below_setRow hS100.1 (by omega) _)) (fun hS101 => ?_)
          clear hK K
          simp only [List.getElem_toArray, List.getElem_cons_succ, List.getElem_cons_zero, Act.put, List.setIfInBounds_toArray, List.set_cons_zero, List.set_cons_succ]
          change wpAnyH _ _ _ _ _ 0 #[true, true, true, true, true, true, true, true, true, true, true, true, true, true, true, true] _ _
          refine wpAnyH_done (by kernel_rfl) ?_ _
          go_wp2_with fail
          go_meet
          exact ⟨_, rfl, by omega, setRow_heap _ _ _ _ _ _ hq99, hS101.1⟩
  case rest =>
    obtain ⟨q, rfl, hq0, hq, hqb⟩ := hcut
    clear hS0 HKB HOK
    have HQ : Hid (W0.heap.size ≤ q) := hq0
    have HZ : Hid (w.heap.size + 1 < W0.heap.size) := by obtain ⟨Z, _, hz⟩ := HG1.out; exact lt_of_block hz
    have HBY : Hid (∀ i, By (decS W r l i)) := fun i => decS_by W l r HL.out HC0.out.fbyte hr i
    have hCq := HC0.out.up hqb.out (Nat.le_refl _)
    have c2 := hCq.c2
    clear hq0 HD0 hCq
    go_wp2
    go_loopw [6] (fun vi wr => ∃ i : Nat, i + 1 ≤ r ∧ vi = .int .i64 ((r - 1 - i : Nat) : Int) ∧ Hid (wr.heap[q]? = some (.cells (stA (decS W r l i) b) 110 (0, 0))) ∧ Hid (Below W0.heap.size W0 wr)) (fun vi _ => (intOf vi).toNat)
    case atStart => exact ⟨0, by omega, by go_num, hq, hqb⟩
    case round =>
      clear hq hqb c2
      obtain ⟨i, hi, rfl, hq, hqb⟩ := hrel
      have hCr := HC0.out.up hqb.out (Nat.le_refl _)
      have HCr := Lib.hid hCr
      clear hCr
      obtain ⟨k, hk⟩ : ∃ k, k = r - 1 - i := ⟨_, rfl⟩
      have HK := Lib.hid hk
      rw [← hk]
      clear hk
      by_cases hlt : 0 < k
      · have hd : decide ((k : Int) > 0) = true := by simp; omega
        have HKR : Hid (i + 1 < r) := by have := HK.out; show i + 1 < r; omega
        have HKL : Hid (k ≤ r) := by have := HK.out; show k ≤ r; omega
        have hw1 : IntKind.i64.wrap ((k : Int) - 1) = ((k - 1 : Nat) : Int) := by have := HKL.out; rw [IntKind.wrap_i64]; omega
        go_wp2_with (first
          | (refine wpList_load_row rfl 110 (.tmp 5) rfl q rfl _ _ _ _ hq.out Try.underlying110 rfl (by rw [st17, stA_size, (HBY.out i).1]) ?_)
          | fail)
        refine (HKEY.out k _ (HBY.out i) HKL.out _ rfl _ HCr.out).mono ?_
        rintro e w1 ⟨rfl, hb1⟩
        have HB1 : Hid (Below wr.heap.size wr w1) := hb1
        have hs3 : By (keyL (decS W r l i) W k) := key_by _ W k (HBY.out i) HC0.out.fbyte (by have := HKL.out; omega)
        have HS3 := Lib.hid hs3
        clear hb1 hs3
        go_wp2_with fail
        refine (all3u_c b _ HS3.out w1.heap.size _ _ (HB0.out.later ((hqb.out.trans (HB1.out.mono hqb.out.size)).alloc (Nat.le_trans hqb.out.size HB1.out.size) _) HB0.out.lt) (heap_new' _ _)).mono ?_
        rintro e w2 ⟨rfl, hb2⟩
        have hz1 := hb2.size
        rw [World.size_alloc] at hz1
        have HB2 : Hid (Below wr.heap.size wr w2) := (HB1.out.alloc HB1.out.size _).trans (hb2.mono (by have := HB1.out.size; simp; omega))
        have HQ2 := Lib.hid ((HB2.out.block q (lt_of_block hq.out)).trans hq.out)
        have HNX : Hid (sunsubL (unshiftL (sunmixL (keyL (decS W r l i) W k))) = decS W r l (i + 1)) := by have := HK.out; show _ = _; rw [decS_succ, ← this]
        clear hb2
        go_wp2_with (first
          | (refine wpList_store_row rfl 110 (.tmp 5) (.tmp 38) rfl q _ rfl rfl 110 _ HQ2.out (by rw [st17, stA_size, HNX.out, (HBY.out (i + 1)).1]) (by rw [stA_size, stA_size, HNX.out, (HBY.out (i + 1)).1, (HBY.out i).1]) (stA_one _ _) ?_)
          | fail)
        go_roundw
        case rel => exact ⟨i + 1, by have := HKR.out; omega, by have := HK.out; congr 2; omega, by rw [← HNX.out]; exact setRow_heap _ _ _ _ _ _ HQ2.out, below_setRow (hqb.out.trans (HB2.out.mono hqb.out.size)) HQ.out _⟩
        case measure => simp [intOf]; omega
      · obtain rfl : k = 0 := by omega
        have HI : Hid (r - 1 = i) := by have := HK.out; show r - 1 = i; omega
        have hd : decide (((0 : Nat) : Int) > 0) = false := by simp
        have HI3 : Hid (By (decL W r l)) := by unfold decL; rw [HI.out]; exact key_by _ W 0 (HBY.out i) HC0.out.fbyte (by omega)
        have HBW : Hid (Below w.heap.size w wr) := HBL.out.trans (hqb.out.mono HBL.out.size)
        obtain ⟨Z, hZ, hZ2⟩ := HG1.out
        have HZ3 := Lib.hid hZ
        have HG3 := Lib.hid ((hqb.out.block _ HZ.out).trans hZ2)
        clear hZ hZ2
        go_wp2_with (first
          | (refine wpList_load_row rfl 110 (.tmp 5) rfl q rfl _ _ _ _ hq.out Try.underlying110 rfl (by rw [st17, stA_size, (HBY.out i).1]) ?_)
          | fail)
        refine (HKEY.out 0 _ (HBY.out i) (by omega) _ rfl _ HCr.out).mono ?_
        rintro e w1 ⟨rfl, hb1⟩
        have HG4 := Lib.hid ((hb1.block _ (lt_of_block HG3.out)).trans HG3.out)
        have HB1 : Hid (Below w.heap.size w w1) := HBW.out.trans (hb1.mono HBW.out.size)
        have HDL : Hid (keyL (decS W r l i) W 0 = decL W r l) := by show _ = _; unfold decL; rw [HI.out]
        rw [HDL.out]
        have hfield := run_field (decL W r l) b HI3.out.1
        clear hb1
        go_wp2_with (first
          | (refine wpList_store_row rfl 44 (.tmp 4) (.tmp 42) rfl (w.heap.size + 1) _ rfl rfl 44 _ HG4.out (by rw [zero16', bA_size, HI3.out.1]) (by rw [HZ3.out, bA_size, HI3.out.1]) (bA_one _) ?_)
          | fail)
        exact bodyPost_ret (results_cell_row rfl _ _ (w.heap.size + 1) 44 (bA (decL W r l)) (0, 0) _ rfl (setRow_heap _ _ _ _ _ _ HG4.out) Try.underlying44 rfl (by rw [zero16', bA_size, HI3.out.1])) rfl ⟨rfl, below_setRow HB1.out (by omega) _⟩
end Go.Proofs.Ytnmjkdmhfogeiaa
