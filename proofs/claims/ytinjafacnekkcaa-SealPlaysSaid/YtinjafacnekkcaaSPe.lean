/- Texts AesH, put together by pack.py. -/
import Derived.Test.YtinjafacnekkcaaSPd
import Derived.Deep.RegionHeld
import Derived.Deep.MidRow
import Derived.Deep.CutRange
set_option linter.unusedVariables false
set_option linter.unusedSimpArgs false
namespace Go.Proofs.Ytinjafacnekkcaa
open Go Go.RowKit GfM
theorem zero16' : (Try.prog.info? 22).map (·.size) = some 16 := by kernel_rfl
/-- the state behind the first rounds -/
def encS (W l : List Nat) : Nat → List Nat
  | 0 => keyL l W 0
  | i + 1 => keyL (smixL (shiftL (ssubL (encS W l i)))) W (i + 1)
def encL (W : List Nat) (r : Nat) (l : List Nat) : List Nat := keyL (shiftL (ssubL (encS W l (r - 1)))) W r
theorem key_by (l W : List Nat) (r : Nat) (hl : By l) (hW : ∀ x ∈ W, x < 256) (hr : 16 * r + 16 ≤ W.length) : By (keyL l W r) := by
  refine by_map _ fun k hk => xor_lt _ _ (hl.2 k hk) ?_
  rw [List.getD_eq_getElem?_getD, List.getElem?_eq_getElem (by omega)]
  exact hW _ (List.getElem_mem _)
theorem encS_by (W l : List Nat) (hl : By l) (hW : ∀ x ∈ W, x < 256) : ∀ i, 16 * i + 16 ≤ W.length → By (encS W l i)
  | 0, h => key_by l W 0 hl hW h
  | i + 1, h => key_by _ W (i + 1) (stp_mix.okay _ (stp_shift.okay _ (stp_sub.okay _ (encS_by W l hl hW i (by omega))))) hW h
theorem range_bA (l : List Nat) {w : World} {g : Nat} {t : TypeId} (h : w.heap[g]? = some (.cells (bA l) t (0, 0))) : w.rangeAt g 0 (bA l).toList := by
  intro j v hv
  rw [Nat.zero_add, cells_at h j]
  simpa using hv
theorem bA_one (l : List Nat) : (bA l).all (·.oneCell') = true := by
  rw [← Array.all_toList]; simp [bA, Value.oneCell']
theorem encS_succ (W l : List Nat) (i : Nat) : encS W l (i + 1) = keyL (smixL (shiftL (ssubL (encS W l i)))) W (i + 1) := rfl
theorem all3_c (b : Nat) (s : List Nat) (hs : By s) (p : Nat) (t : TypeId) (w : World) (hB : IsBox w b) (hp : w.heap[p]? = some (.cells #[.func (.func 75) #[] #[], .func (.func 76) #[] #[], .func (.func 77) #[] #[]] t (0, 0))) :
    Calls Try.prog 74 #[.agg (stA s b), .slice (some ⟨p, 0, none⟩) 3 3] w fun e w' => e = .returned (.agg (stA (smixL (shiftL (ssubL s))) b)) ∧ Below w.heap.size w w' :=
  all_c [(75, ssubL), (76, shiftL), (77, smixL)] (by
    intro p hp; simp only [List.mem_cons, List.not_mem_nil, or_false] at hp
    rcases hp with rfl | rfl | rfl
    · exact stp_sub
    · exact stp_shift
    · exact stp_mix) (by simp) s hs b w hB p t hp
theorem all2_c (b : Nat) (s : List Nat) (hs : By s) (p : Nat) (t : TypeId) (w : World) (hB : IsBox w b) (hp : w.heap[p]? = some (.cells #[.func (.func 75) #[] #[], .func (.func 76) #[] #[]] t (0, 0))) :
    Calls Try.prog 74 #[.agg (stA s b), .slice (some ⟨p, 0, none⟩) 2 2] w fun e w' => e = .returned (.agg (stA (shiftL (ssubL s)) b)) ∧ Below w.heap.size w w' :=
  all_c [(75, ssubL), (76, shiftL)] (by
    intro p hp; simp only [List.mem_cons, List.not_mem_nil, or_false] at hp
    rcases hp with rfl | rfl
    · exact stp_sub
    · exact stp_shift) (by simp) s hs b w hB p t hp
set_option maxRecDepth 100000 in
theorem run_field_state (l : List Nat) (b : Nat) (hl : l.length = 16) (E : Operand → Value) (x : Operand) (o : Oper) (ho : o.op = .field 131 x 0) (hx : E x = .agg (stA l b)) (w : World) :
    (execOp E o).run Try.prog w = .ok (.value (.agg (bA l))) w := by
  match l, hl with
  | [a0, a1, a2, a3, a4, a5, a6, a7, a8, a9, a10, a11, a12, a13, a14, a15], _ =>
    unfold execOp
    simp only [ho]
    simp [hx, bA, stA, go_sem, Instr.field]
    rfl
set_option maxRecDepth 100000 in
theorem run_build_state (l : List Nat) (b : Nat) (hl : l.length = 16) (E : Operand → Value) (x y : Operand) (o : Oper) (ho : o.op = .build 131 #[(0, x), (1, y)]) (hx : E x = .agg (bA l)) (hy : E y = .pointer (some ⟨b, 0, none⟩)) (w : World) :
    (execOp E o).run Try.prog w = .ok (.value (.agg (stA l b))) w := by
  match l, hl with
  | [a0, a1, a2, a3, a4, a5, a6, a7, a8, a9, a10, a11, a12, a13, a14, a15], _ =>
    unfold execOp
    simp only [ho]
    simp [hx, hy, bA, stA, go_sem]
    done
set_option maxRecDepth 100000 in
set_option maxHeartbeats 4000000 in
theorem encrypt_c (c b g n cap r : Nat) (W l : List Nat) (hl : By l) (hr1 : 1 ≤ r) (hr : 16 * r + 16 ≤ W.length) (hr2 : r < 100) (w : World) (hC : Cip w c b g n cap r W) :
    Calls Try.prog 59 #[.pointer (some ⟨c, 0, none⟩), .agg (bA l)] w fun e w' => e = .returned (.agg (bA (encL W r l))) ∧ Below w.heap.size w w' := by
  have HC := Lib.hid hC
  have HL := Lib.hid hl
  have hb0 : ∀ (o1 : Obj), ((w.alloc (Obj.cells (bA l) 22)).alloc o1).heap[w.heap.size]? = some (.cells (bA l) 22 (0, 0)) := fun o1 => by
    rw [heap_old' _ _ _ (by simp), heap_new']
  have hb1 : ∀ (o0 : Obj) (Z : Array Value), ((w.alloc o0).alloc (Obj.cells Z 22)).heap[w.heap.size + 1]? = some (.cells Z 22 (0, 0)) := fun o0 Z => by
    rw [show w.heap.size + 1 = (w.alloc o0).heap.size by simp, heap_new']
  have B0 := Lib.hid hb0
  have B1 := Lib.hid hb1
  clear hC hl hb0 hb1
  go_enter Try.func59, Try.ntmps59
  go_wp2
  obtain ⟨W0, hW0⟩ : ∃ W0, W0 = ((w.alloc (Obj.cells (bA l) 22)).alloc (Obj.cells #[.int .u8 0, .int .u8 0, .int .u8 0, .int .u8 0, .int .u8 0, .int .u8 0, .int .u8 0, .int .u8 0, .int .u8 0, .int .u8 0, .int .u8 0, .int .u8 0, .int .u8 0, .int .u8 0, .int .u8 0, .int .u8 0] 22)) := ⟨_, rfl⟩
  have hbel : Below w.heap.size w W0 := by rw [hW0]; exact (((Below.refl _ _).alloc (Nat.le_refl _) _).alloc (by simp) _)
  have g0 : W0.heap[w.heap.size]? = some (.cells (bA l) 22 (0, 0)) := by rw [hW0]; exact B0.out _
  have g1 : ∃ Z, Z.size = 16 ∧ W0.heap[w.heap.size + 1]? = some (.cells Z 22 (0, 0)) := ⟨_, rfl, by rw [hW0]; exact B1.out _ _⟩
  rw [← hW0]
  clear hW0 B0 B1
  have HBL := Lib.hid hbel
  have HG0 := Lib.hid g0
  have HG1 := Lib.hid g1
  have HC0 : Hid (Cip W0 c b g n cap r W) := HC.out.up hbel (Nat.le_refl _)
  have hS0 : ∀ w', Below W0.heap.size W0 w' → w'.rangeAt w.heap.size 0 (bA l).toList ∧ w'.cell? ⟨c, 0, none⟩ = some (.pointer (some ⟨b, 0, none⟩)) := fun w' h =>
    ⟨range_bA l ((h.block _ (lt_of_block g0)).trans g0), (HC0.out.up h (Nat.le_refl _)).c0⟩
  clear hbel g0 g1
  have HKEY : Hid (∀ (i : Nat) (s : List Nat), By s → i ≤ r → ∀ (I : Int), I = (i : Int) → ∀ w', Cip w' c b g n cap r W → Calls Try.prog 73 #[.pointer (some ⟨c, 0, none⟩), .agg (stA s b), .int .i64 I] w' fun e w'' => e = .returned (.agg (stA (keyL s W i) b)) ∧ Below w'.heap.size w' w'') := fun i s hs hi I hI w' hC => hI ▸ key_c c b g n cap r W s hs.1 hs.2 i (by omega) (by omega) w' hC
  have HKB : Hid (By (keyL l W 0)) := key_by l W 0 HL.out HC0.out.fbyte (by omega)
  have HOK : Hid (∀ w', Below W0.heap.size W0 w' → Below W0.heap.size W0 w' ∧ w'.rangeAt w.heap.size 0 (bA l).toList ∧ w'.cell? ⟨c, 0, none⟩ = some (.pointer (some ⟨b, 0, none⟩))) := fun w' h => ⟨h, hS0 w' h⟩
  go_cut [5] from 10 to 17 (fun s5 wx => ∃ q, s5 = .pointer (some ⟨q, 0, none⟩) ∧ W0.heap.size ≤ q ∧ Hid (wx.heap[q]? = some (.cells (stA (encS W l 0) b) 131 (0, 0))) ∧ Hid (Below W0.heap.size W0 wx))
  case first =>
    refine wp_region_held_drew (S := (fun w' => Below W0.heap.size W0 w' ∧ w'.rangeAt w.heap.size 0 (bA l).toList ∧ w'.cell? ⟨c, 0, none⟩ = some (.pointer (some ⟨b, 0, none⟩)))) (by kernel_rfl) (HOK.out _ (Below.refl _ _).drew) ?_
    clear hS0
    intro hS
    change wpAnyH _ _ _ _ _ 10 #[false, false, false, false, false, false, false, false, false, false] _ _
    refine wpAnyH_take (i := 0) (v := ?_) rfl (by kernel_rfl) (by kernel_rfl) (by kernel_rfl) (fun _ _ _ h => h) (Or.inl ⟨by rfl, ?hy⟩) hS ?_
    case hy => intro w' hSw; obtain ⟨hw1, hw2, hw3⟩ := hSw; go_simp; try with_reducible rfl
    simp only [List.getElem_toArray, List.getElem_cons_succ, List.getElem_cons_zero, Act.put, List.setIfInBounds_toArray, List.set_cons_zero, List.set_cons_succ]
    change wpAnyH _ _ _ _ _ 9 #[true, false, false, false, false, false, false, false, false, false] _ _
    refine wpAnyH_take (i := 2) (v := ?_) rfl (by kernel_rfl) (by kernel_rfl) (by kernel_rfl) (fun _ _ _ h => h) (Or.inl ⟨by rfl, ?hy⟩) hS ?_
    case hy => intro w' hSw; obtain ⟨hw1, hw2, hw3⟩ := hSw; go_simp; try with_reducible rfl
    simp only [List.getElem_toArray, List.getElem_cons_succ, List.getElem_cons_zero, Act.put, List.setIfInBounds_toArray, List.set_cons_zero, List.set_cons_succ]
    change wpAnyH _ _ _ _ _ 8 #[true, false, true, false, false, false, false, false, false, false] _ _
    refine wpAnyH_take (i := 3) (v := ?_) rfl (by kernel_rfl) (by kernel_rfl) (by kernel_rfl) (fun _ _ _ h => h) (Or.inl ⟨by rfl, ?hy⟩) hS ?_
    case hy => intro w' hSw; obtain ⟨hw1, hw2, hw3⟩ := hSw; go_simp; try with_reducible rfl
    simp only [List.getElem_toArray, List.getElem_cons_succ, List.getElem_cons_zero, Act.put, List.setIfInBounds_toArray, List.set_cons_zero, List.set_cons_succ]
    change wpAnyH _ _ _ _ _ 7 #[true, false, true, true, false, false, false, false, false, false] _ _
    refine wpAnyH_take (i := 4) (v := ?_) rfl (by kernel_rfl) (by kernel_rfl) (by kernel_rfl) (fun _ _ _ h => h) (Or.inl ⟨by rfl, ?hy⟩) hS ?_
    case hy => intro w' hSw; obtain ⟨hw1, hw2, hw3⟩ := hSw; go_simp; try with_reducible rfl
    simp only [List.getElem_toArray, List.getElem_cons_succ, List.getElem_cons_zero, Act.put, List.setIfInBounds_toArray, List.set_cons_zero, List.set_cons_succ]
    change wpAnyH _ _ _ _ _ 6 #[true, false, true, true, true, false, false, false, false, false] _ _
    refine wpAnyH_take (i := 5) (v := ?_) rfl (by kernel_rfl) (by kernel_rfl) (by kernel_rfl) (fun _ _ _ h => h) (Or.inl ⟨by rfl, ?hy⟩) hS ?_
    case hy => intro w' hSw; obtain ⟨hw1, hw2, hw3⟩ := hSw; go_simp; try with_reducible rfl
    simp only [List.getElem_toArray, List.getElem_cons_succ, List.getElem_cons_zero, Act.put, List.setIfInBounds_toArray, List.set_cons_zero, List.set_cons_succ]
    change wpAnyH _ _ _ _ _ 5 #[true, false, true, true, true, true, false, false, false, false] _ _
    refine wpAnyH_take (i := 1) rfl (by kernel_rfl) (by kernel_rfl) (by kernel_rfl) (fun _ _ _ h => h) (yieldsIf_load_mid (by rfl) _ _ rfl w.heap.size 0 rfl (bA l).toList _ (fun _ h => h.2.1) Try.underlying22 rfl (by rw [zero16']; simp [bA_size, HL.out.1])) hS ?_
    simp only [List.getElem_toArray, List.getElem_cons_succ, List.getElem_cons_zero, Act.put, List.setIfInBounds_toArray, List.set_cons_zero, List.set_cons_succ]
    change wpAnyH _ _ _ _ _ 4 #[true, true, true, true, true, true, false, false, false, false] _ _
    refine wpAnyH_take (i := 6) rfl (by kernel_rfl) (by kernel_rfl) (by kernel_rfl) (fun _ _ _ h => h) (Or.inl ⟨by rfl, fun w' _ => run_build_state l b HL.out.1 _ (.tmp 11) (.tmp 15) _ rfl rfl rfl w'⟩) hS ?_
    simp only [List.getElem_toArray, List.getElem_cons_succ, List.getElem_cons_zero, Act.put, List.setIfInBounds_toArray, List.set_cons_zero, List.set_cons_succ]
    change wpAnyH _ _ _ _ _ 3 #[true, true, true, true, true, true, true, false, false, false] _ _
    refine wpAnyH_ready (rs := [7, 8]) (by kernel_rfl) (by simp) ?_
    refine AllReadyH.cons rfl (fun K hK => ?_) ?_
    · skip
      rw [if_pos (by rfl)]
      go_simp
      refine (HKEY.out 0 l HL.out (by omega) _ rfl _ (HC0.out.up hS.1 (Nat.le_refl _))).mono ?_
      rintro e w1 ⟨rfl, hb1⟩
      refine hK.out _ _ (HOK.out _ (hS.1.trans (hb1.mono hS.1.size))) (fun hS2 => ?_)
      clear hK K
      simp only [List.getElem_toArray, List.getElem_cons_succ, List.getElem_cons_zero, Act.put, List.setIfInBounds_toArray, List.set_cons_zero, List.set_cons_succ]
      change wpAnyH _ _ _ _ _ 2 #[true, true, true, true, true, true, true, true, false, false] _ _
      refine wpAnyH_ready (rs := [8]) (by kernel_rfl) (by simp) ?_
      refine AllReadyH.cons rfl (fun K hK => ?_) AllReadyH.nil
      rw [if_pos (by rfl)]
      go_simp
      refine hK.out _ _ (HOK.out _ (hS2.1.alloc hS2.1.size _)) (fun hS3 => ?_)
      clear hK K
      simp only [List.getElem_toArray, List.getElem_cons_succ, List.getElem_cons_zero, Act.put, List.setIfInBounds_toArray, List.set_cons_zero, List.set_cons_succ]
      change wpAnyH _ _ _ _ _ 1 #[true, true, true, true, true, true, true, true, true, false] _ _
      refine wpAnyH_ready (rs := [9]) (by kernel_rfl) (by simp) ?_
      refine AllReadyH.cons rfl (fun K hK => ?_) AllReadyH.nil
      rw [if_pos (by rfl)]
      refine wp_store_row 131 (.tmp 5) (.tmp 17) rfl w1.heap.size (stA (keyL l W 0) b) rfl rfl 131 _ (heap_new' _ _) (by rw [st17, stA_size, HKB.out.1]) (by rw [stA_size, HKB.out.1]; rfl) (stA_one _ _) ?_
      refine hK.out _ _ (HOK.out _ (below_setRow hS3.1 hS2.1.size _)) (fun hS4 => ?_)
      clear hK K
      simp only [List.getElem_toArray, List.getElem_cons_succ, List.getElem_cons_zero, Act.put, List.setIfInBounds_toArray, List.set_cons_zero, List.set_cons_succ]
      change wpAnyH _ _ _ _ _ 0 #[true, true, true, true, true, true, true, true, true, true] _ _
      refine wpAnyH_done (by kernel_rfl) ?_ _
      go_wp2_with fail
      go_meet
      exact ⟨_, rfl, hS2.1.size, setRow_heap _ _ _ _ _ _ (heap_new' _ _), hS4.1⟩
    · refine AllReadyH.cons rfl (fun K hK => ?_) AllReadyH.nil
      rw [if_pos (by rfl)]
      go_simp
      refine hK.out _ _ (HOK.out _ (hS.1.alloc (Nat.le_refl _) _)) (fun hS2 => ?_)
      clear hK K
      simp only [List.getElem_toArray, List.getElem_cons_succ, List.getElem_cons_zero, Act.put, List.setIfInBounds_toArray, List.set_cons_zero, List.set_cons_succ]
      change wpAnyH _ _ _ _ _ 2 #[true, true, true, true, true, true, true, false, true, false] _ _
      refine wpAnyH_ready (rs := [7]) (by kernel_rfl) (by simp) ?_
      refine AllReadyH.cons rfl (fun K hK => ?_) AllReadyH.nil
      rw [if_pos (by rfl)]
      go_simp
      refine (HKEY.out 0 l HL.out (by omega) _ rfl _ (HC0.out.up hS2.1 (Nat.le_refl _))).mono ?_
      rintro e w1 ⟨rfl, hb1⟩
      refine hK.out _ _ (HOK.out _ (hS2.1.trans (hb1.mono hS2.1.size))) (fun hS3 => ?_)
      clear hK K
      simp only [List.getElem_toArray, List.getElem_cons_succ, List.getElem_cons_zero, Act.put, List.setIfInBounds_toArray, List.set_cons_zero, List.set_cons_succ]
      change wpAnyH _ _ _ _ _ 1 #[true, true, true, true, true, true, true, true, true, false] _ _
      refine wpAnyH_ready (rs := [9]) (by kernel_rfl) (by simp) ?_
      refine AllReadyH.cons rfl (fun K hK => ?_) AllReadyH.nil
      rw [if_pos (by rfl)]
      have hq := (hb1.block W0.heap.size (by simp)).trans (heap_new' W0.drew _)
      refine wp_store_row 131 (.tmp 5) (.tmp 17) rfl W0.heap.size (stA (keyL l W 0) b) rfl rfl 131 _ hq (by rw [st17, stA_size, HKB.out.1]) (by rw [stA_size, HKB.out.1]; rfl) (stA_one _ _) ?_
      refine hK.out _ _ (HOK.out _ (below_setRow hS3.1 (Nat.le_refl _) _)) (fun hS4 => ?_)
      clear hK K
      simp only [List.getElem_toArray, List.getElem_cons_succ, List.getElem_cons_zero, Act.put, List.setIfInBounds_toArray, List.set_cons_zero, List.set_cons_succ]
      change wpAnyH _ _ _ _ _ 0 #[true, true, true, true, true, true, true, true, true, true] _ _
      refine wpAnyH_done (by kernel_rfl) ?_ _
      go_wp2_with fail
      go_meet
      exact ⟨_, rfl, Nat.le_refl _, setRow_heap _ _ _ _ _ _ hq, hS4.1⟩
  case rest =>
    obtain ⟨q, rfl, hq0, hq, hqb⟩ := hcut
    clear hS0 HKB HOK
    have HQ : Hid (W0.heap.size ≤ q) := hq0
    have HZ : Hid (w.heap.size + 1 < W0.heap.size) := by obtain ⟨Z, _, hz⟩ := HG1.out; exact lt_of_block hz
    have HB0 : Hid (IsBox W0 b) := HC0.out.fbox
    have HBY : Hid (∀ i, i ≤ r → By (encS W l i)) := fun i hi => encS_by W l HL.out HC0.out.fbyte i (by omega)
    clear hq0
    go_wp2
    go_loopw [6] (fun vi wr => ∃ i : Nat, i + 1 ≤ r ∧ vi = .int .i64 ((i + 1 : Nat) : Int) ∧ Hid (wr.heap[q]? = some (.cells (stA (encS W l i) b) 131 (0, 0))) ∧ Hid (Below W0.heap.size W0 wr)) (fun vi _ => r - (intOf vi).toNat)
    case atStart => exact ⟨0, by omega, rfl, hq, hqb⟩
    case round =>
      clear hq hqb
      obtain ⟨i, hi, rfl, hq, hqb⟩ := hrel
      have hCr := HC0.out.up hqb.out (Nat.le_refl _)
      have c2 := hCr.c2
      have HCr := Lib.hid hCr
      clear hCr
      by_cases hlt : i + 1 < r
      · have hd : decide (((i + 1 : Nat) : Int) < (r : Int)) = true := by simp; omega
        go_wp2_with (first
          | (refine wpList_load_row rfl 131 (.tmp 5) rfl q rfl _ _ _ _ hq.out Try.underlying131 rfl (by rw [st17, stA_size, (HBY.out i (by omega)).1]) ?_)
          | fail)
        refine (all3_c b _ (HBY.out i (by omega)) wr.heap.size _ _ (HB0.out.later (hqb.out.alloc (hqb.out.size) _) HB0.out.lt) (heap_new' _ _)).mono ?_
        rintro e w1 ⟨rfl, hb1⟩
        have hz1 := hb1.size
        rw [World.size_alloc] at hz1
        have HB1 : Hid (Below wr.heap.size wr w1) := ((Below.refl _ _).alloc (Nat.le_refl _) _).trans (hb1.mono (by simp))
        have hs3 : By (smixL (shiftL (ssubL (encS W l i)))) := stp_mix.okay _ (stp_shift.okay _ (stp_sub.okay _ (HBY.out i (by omega))))
        have HS3 := Lib.hid hs3
        clear hb1 hs3
        go_wp2_with fail
        refine (HKEY.out (i + 1) _ HS3.out (by omega) _ (by omega) _ (HCr.out.up HB1.out (Nat.le_refl _))).mono ?_
        rintro e w2 ⟨rfl, hb2⟩
        have HB2 : Hid (Below wr.heap.size wr w2) := HB1.out.trans (hb2.mono HB1.out.size)
        have HQ2 := Lib.hid ((HB2.out.block q (lt_of_block hq.out)).trans hq.out)
        clear hb2
        go_wp2_with (first
          | (refine wpList_store_row rfl 131 (.tmp 5) (.tmp 31) rfl q _ rfl rfl 131 _ HQ2.out (by rw [st17, stA_size, ← encS_succ, (HBY.out (i + 1) (by omega)).1]) (by rw [stA_size, stA_size, ← encS_succ, (HBY.out (i + 1) (by omega)).1, (HBY.out i (by omega)).1]) (stA_one _ _) ?_)
          | fail)
        go_roundw
        case rel => exact ⟨i + 1, by omega, by go_num, setRow_heap _ _ _ _ _ _ HQ2.out, below_setRow (hqb.out.trans (HB2.out.mono hqb.out.size)) HQ.out _⟩
        case measure => simp [intOf]; omega
      · obtain rfl : r = i + 1 := by omega
        have hd : decide (((i + 1 : Nat) : Int) < ((i + 1 : Nat) : Int)) = false := by simp
        go_wp2
        have HI := Lib.hid (HBY.out i (by omega))
        have HI2 := Lib.hid (stp_shift.okay _ (stp_sub.okay _ (HBY.out i (by omega))))
        have HI3 : Hid (By (encL W (i + 1) l)) := by unfold encL; exact key_by _ W (i + 1) HI2.out HC0.out.fbyte hr
        have HBW : Hid (Below w.heap.size w wr) := HBL.out.trans (hqb.out.mono HBL.out.size)
        obtain ⟨Z, hZ, hZ2⟩ := HG1.out
        have HZ3 := Lib.hid hZ
        have HG3 := Lib.hid ((hqb.out.block _ HZ.out).trans hZ2)
        clear hZ hZ2 c2
        have HOK : Hid (∀ w', Below wr.heap.size wr w' → Below wr.heap.size wr w' ∧ w'.rangeAt q 0 (stA (encS W l i) b).toList ∧ w'.cell? ⟨c, 2, none⟩ = some (.int .i64 ((i + 1 : Nat) : Int))) := fun w' h =>
          ⟨h, fun j v hv => by rw [Nat.zero_add, cells_at ((h.block _ (lt_of_block hq.out)).trans hq.out) j]; simpa using hv, (HCr.out.up h (Nat.le_refl _)).c2⟩
        refine wp_region_held_drew (S := fun w' => w'.rangeAt q 0 (stA (encS W l i) b).toList ∧ w'.cell? ⟨c, 2, none⟩ = some (.int .i64 ((i + 1 : Nat) : Int))) (by kernel_rfl) (HOK.out _ (Below.refl _ _).drew).2 ?_
        intro hS
        change wpAnyH _ _ _ _ _ 11 #[false, false, false, false, false, false, false, false, false, false, false] _ _
        refine wpAnyH_take (i := 0) (v := ?_) rfl (by kernel_rfl) (by kernel_rfl) (by kernel_rfl) (fun _ _ _ h => h) (Or.inl ⟨by rfl, ?hy⟩) hS ?_
        case hy => intro w' hSw; obtain ⟨hw2, hw3⟩ := hSw; go_simp; try with_reducible rfl
        simp only [List.getElem_toArray, List.getElem_cons_succ, List.getElem_cons_zero, Act.put, List.setIfInBounds_toArray, List.set_cons_zero, List.set_cons_succ]
        change wpAnyH _ _ _ _ _ 10 #[true, false, false, false, false, false, false, false, false, false, false] _ _
        refine wpAnyH_take (i := 4) (v := ?_) rfl (by kernel_rfl) (by kernel_rfl) (by kernel_rfl) (fun _ _ _ h => h) (Or.inl ⟨by rfl, ?hy⟩) hS ?_
        case hy => intro w' hSw; obtain ⟨hw2, hw3⟩ := hSw; go_simp; try with_reducible rfl
        simp only [List.getElem_toArray, List.getElem_cons_succ, List.getElem_cons_zero, Act.put, List.setIfInBounds_toArray, List.set_cons_zero, List.set_cons_succ]
        change wpAnyH _ _ _ _ _ 9 #[true, false, false, false, true, false, false, false, false, false, false] _ _
        refine wpAnyH_take (i := 5) (v := ?_) rfl (by kernel_rfl) (by kernel_rfl) (by kernel_rfl) (fun _ _ _ h => h) (Or.inl ⟨by rfl, ?hy⟩) hS ?_
        case hy => intro w' hSw; obtain ⟨hw2, hw3⟩ := hSw; go_simp; try with_reducible rfl
        simp only [List.getElem_toArray, List.getElem_cons_succ, List.getElem_cons_zero, Act.put, List.setIfInBounds_toArray, List.set_cons_zero, List.set_cons_succ]
        change wpAnyH _ _ _ _ _ 8 #[true, false, false, false, true, true, false, false, false, false, false] _ _
        refine wpAnyH_take (i := 6) (v := ?_) rfl (by kernel_rfl) (by kernel_rfl) (by kernel_rfl) (fun _ _ _ h => h) (Or.inl ⟨by rfl, ?hy⟩) hS ?_
        case hy => intro w' hSw; obtain ⟨hw2, hw3⟩ := hSw; go_simp; try with_reducible rfl
        simp only [List.getElem_toArray, List.getElem_cons_succ, List.getElem_cons_zero, Act.put, List.setIfInBounds_toArray, List.set_cons_zero, List.set_cons_succ]
        change wpAnyH _ _ _ _ _ 7 #[true, false, false, false, true, true, true, false, false, false, false] _ _
        refine wpAnyH_take (i := 7) (v := ?_) rfl (by kernel_rfl) (by kernel_rfl) (by kernel_rfl) (fun _ _ _ h => h) (Or.inl ⟨by rfl, ?hy⟩) hS ?_
        case hy => intro w' hSw; obtain ⟨hw2, hw3⟩ := hSw; go_simp; try with_reducible rfl
        simp only [List.getElem_toArray, List.getElem_cons_succ, List.getElem_cons_zero, Act.put, List.setIfInBounds_toArray, List.set_cons_zero, List.set_cons_succ]
        change wpAnyH _ _ _ _ _ 6 #[true, false, false, false, true, true, true, true, false, false, false] _ _
        refine wpAnyH_take (i := 1) rfl (by kernel_rfl) (by kernel_rfl) (by kernel_rfl) (fun _ _ _ h => h) (yieldsIf_load_mid (by rfl) _ _ rfl q 0 rfl (stA (encS W l i) b).toList _ (fun _ h => h.1) Try.underlying131 rfl (by rw [st17]; simp [stA_size, HI.out.1])) hS ?_
        simp only [List.getElem_toArray, List.getElem_cons_succ, List.getElem_cons_zero, Act.put, List.setIfInBounds_toArray, List.set_cons_zero, List.set_cons_succ]
        change wpAnyH _ _ _ _ _ 5 #[true, true, false, false, true, true, true, true, false, false, false] _ _
        have hb0 : Below wr.heap.size wr wr.drew := (Below.refl _ _).drew
        refine wpAnyH_ready (rs := [2]) (by kernel_rfl) (by simp) ?_
        refine AllReadyH.cons rfl (fun K hK => ?_) AllReadyH.nil
        rw [if_pos (by rfl)]
        go_simp
        have hb1 : ∀ o, Below wr.heap.size wr (wr.drew.alloc o) := fun o => hb0.alloc (Nat.le_refl _) o
        refine hK.out _ _ ((HOK.out _ (hb1 _)).2) (fun hS1 => ?_)
        clear hK K
        simp only [List.getElem_toArray, List.getElem_cons_succ, List.getElem_cons_zero, Act.put, List.setIfInBounds_toArray, List.set_cons_zero, List.set_cons_succ]
        change wpAnyH _ _ _ _ _ 4 #[true, true, true, false, true, true, true, true, false, false, false] _ _
        refine wpAnyH_ready (rs := [3]) (by kernel_rfl) (by simp) ?_
        refine AllReadyH.cons rfl (fun K hK => ?_) AllReadyH.nil
        rw [if_pos (by rfl)]
        go_simp
        refine (all2_c b _ HI.out wr.heap.size _ _ (HB0.out.later (hqb.out.trans ((hb1 _).mono hqb.out.size)) HB0.out.lt) (heap_new' wr.drew _)).mono ?_
        rintro e w1 ⟨rfl, hc1⟩
        have hb2 := (hb1 _).trans (hc1.mono (hb1 _).size)
        refine hK.out _ _ ((HOK.out _ hb2).2) (fun hS2 => ?_)
        clear hK K
        simp only [List.getElem_toArray, List.getElem_cons_succ, List.getElem_cons_zero, Act.put, List.setIfInBounds_toArray, List.set_cons_zero, List.set_cons_succ]
        change wpAnyH _ _ _ _ _ 3 #[true, true, true, true, true, true, true, true, false, false, false] _ _
        refine wpAnyH_ready (rs := [8]) (by kernel_rfl) (by simp) ?_
        refine AllReadyH.cons rfl (fun K hK => ?_) AllReadyH.nil
        rw [if_pos (by rfl)]
        go_simp
        refine (HKEY.out (i + 1) _ HI2.out (Nat.le_refl _) _ (by omega) _ (HCr.out.up hb2 (Nat.le_refl _))).mono ?_
        rintro e w2 ⟨rfl, hc2⟩
        have hb3 := hb2.trans (hc2.mono hb2.size)
        refine hK.out _ _ ((HOK.out _ hb3).2) (fun hS3 => ?_)
        clear hK K
        simp only [List.getElem_toArray, List.getElem_cons_succ, List.getElem_cons_zero, Act.put, List.setIfInBounds_toArray, List.set_cons_zero, List.set_cons_succ]
        change wpAnyH _ _ _ _ _ 2 #[true, true, true, true, true, true, true, true, true, false, false] _ _
        refine wpAnyH_take (i := 9) rfl (by kernel_rfl) (by kernel_rfl) (by kernel_rfl) (fun _ _ _ h => h) (Or.inl ⟨by rfl, fun w' _ => run_field_state (encL W (i + 1) l) b HI3.out.1 _ (.tmp 40) _ rfl rfl w'⟩) hS3 ?_
        simp only [List.getElem_toArray, List.getElem_cons_succ, List.getElem_cons_zero, Act.put, List.setIfInBounds_toArray, List.set_cons_zero, List.set_cons_succ]
        change wpAnyH _ _ _ _ _ 1 #[true, true, true, true, true, true, true, true, true, true, false] _ _
        refine wpAnyH_ready (rs := [10]) (by kernel_rfl) (by simp) ?_
        refine AllReadyH.cons rfl (fun K hK => ?_) AllReadyH.nil
        rw [if_pos (by rfl)]
        have hq3 := (hb3.block (w.heap.size + 1) (lt_of_block HG3.out)).trans HG3.out
        refine wp_store_row 22 (.tmp 4) (.tmp 41) rfl (w.heap.size + 1) (bA (encL W (i + 1) l)) rfl rfl 22 _ hq3 (by rw [zero16', bA_size, HI3.out.1]) (by rw [HZ3.out, bA_size, HI3.out.1]) (bA_one _) ?_
        have hqn : w.heap.size + 1 ≠ q := by have := HQ.out; have := HZ.out; omega
        have hcn := HC.out.lt.1
        refine hK.out _ _ (⟨fun j v hv => by rw [Nat.zero_add, cells_at ((setRow_other _ _ _ _ hqn.symm).trans ((hb3.block _ (lt_of_block hq.out)).trans hq.out))]; simpa using hv, ((below_setRow (hb3.mono (Nat.le_of_lt (lt_of_block HG3.out))) (Nat.le_refl _) _).cell (p := ⟨c, 2, none⟩) (by show c < _; omega)).trans HCr.out.c2⟩) (fun hS4 => ?_)
        clear hK K
        simp only [List.getElem_toArray, List.getElem_cons_succ, List.getElem_cons_zero, Act.put, List.setIfInBounds_toArray, List.set_cons_zero, List.set_cons_succ]
        change wpAnyH _ _ _ _ _ 0 #[true, true, true, true, true, true, true, true, true, true, true] _ _
        refine wpAnyH_done (by kernel_rfl) ?_ _
        go_wp2_with fail
        exact bodyPost_ret (results_cell_row rfl _ _ (w.heap.size + 1) 22 (bA (encL W (i + 1) l)) (0, 0) _ rfl (setRow_heap _ _ _ _ _ _ hq3) Try.underlying22 rfl (by rw [zero16', bA_size, HI3.out.1])) rfl ⟨rfl, below_setRow (HBW.out.trans (hb3.mono HBW.out.size)) (by omega) _⟩
end Go.Proofs.Ytinjafacnekkcaa
