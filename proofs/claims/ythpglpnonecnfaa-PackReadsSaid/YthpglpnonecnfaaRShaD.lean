/- The reference's Sum. -/
import Derived.Test.YthpglpnonecnfaaRShaB
import Derived.Test.YthpglpnonecnfaaRShaC
import Derived.Test.YthpglpnonecnfaaHeldT
set_option linter.unusedVariables false
set_option linter.unusedSimpArgs false
namespace Go.Proofs.Ythpglpnonecnfaa
open Go Go.RowKit Sha
theorem range_rowA {w : World} {g : Nat} {A : Array Value} {t : TypeId} (h : w.heap[g]? = some (.cells A t (0, 0))) : w.rangeAt g 0 A.toList := by
  intro j v hv
  rw [Nat.zero_add, cells_at h j]
  rw [Array.getElem?_toList] at hv
  exact hv
set_option maxRecDepth 100000 in
theorem index_u (S : St) (k : Nat) (hk : k < 8) (w : World) : (Instr.index 53 (.agg (wA S.list)) (.int .i64 (k : Int))).run Try.prog w = .ok (.int .u32 ((S.list.getD k 0 : Nat) : Int)) w := by
  rcases (by omega : k = 0 ∨ k = 1 ∨ k = 2 ∨ k = 3 ∨ k = 4 ∨ k = 5 ∨ k = 6 ∨ k = 7) with rfl | rfl | rfl | rfl | rfl | rfl | rfl | rfl <;> rfl
theorem bA_part (L : List Nat) (q c : Nat) (h : q < L.length) (hc : c = L.getD q 0) : (bA (partB L q)).setIfInBounds q (.int .u8 (c : Int)) = bA (partB L (q + 1)) := by
  rw [← partB_set L q h, ← hc]; simp [bA, List.map_set]
theorem part_at (L : List Nat) (q x j : Nat) (hj : j < 4) (h : (L.drop q).take 4 = outW x) : (outW x).getD j 0 = L.getD (q + j) 0 := by
  rw [← h, List.getD_eq_getElem?_getD, List.getD_eq_getElem?_getD, List.getElem?_take_of_lt hj, List.getElem?_drop]
theorem list_len (S : St) : S.list.length = 8 := rfl
theorem info31 : (Try.prog.info? 31).map (·.size) = some 32 := by kernel_rfl
set_option maxRecDepth 100000 in
set_option maxHeartbeats 8000000 in
theorem rsum_c (a : Option Addr) (cap n : Nat) (l : List Nat) (hl : l.length = n) (hn : n ≤ 900000) (w : World) (hB : BytesAt w a cap l) (hnil : a = none → cap = 0) :
    Calls Try.prog 9 #[.slice a n cap] w fun e w' => e = .returned (.agg (bA (sumN l))) ∧ Below w.heap.size w w' := by
  have HB0 : Hid (BytesAt ((w.alloc (.cells #[.int .u8 0, .int .u8 0, .int .u8 0, .int .u8 0, .int .u8 0, .int .u8 0, .int .u8 0, .int .u8 0, .int .u8 0, .int .u8 0, .int .u8 0, .int .u8 0, .int .u8 0, .int .u8 0, .int .u8 0, .int .u8 0, .int .u8 0, .int .u8 0, .int .u8 0, .int .u8 0, .int .u8 0, .int .u8 0, .int .u8 0, .int .u8 0, .int .u8 0, .int .u8 0, .int .u8 0, .int .u8 0, .int .u8 0, .int .u8 0, .int .u8 0, .int .u8 0] 31)).alloc (.cells #[] 5)) a cap l) := hB.up (((Below.refl _ _).alloc (Nat.le_refl _) _).alloc (by simp) _) (Nat.le_refl _)
  have HOWN0 : Hid (((w.alloc (.cells #[.int .u8 0, .int .u8 0, .int .u8 0, .int .u8 0, .int .u8 0, .int .u8 0, .int .u8 0, .int .u8 0, .int .u8 0, .int .u8 0, .int .u8 0, .int .u8 0, .int .u8 0, .int .u8 0, .int .u8 0, .int .u8 0, .int .u8 0, .int .u8 0, .int .u8 0, .int .u8 0, .int .u8 0, .int .u8 0, .int .u8 0, .int .u8 0, .int .u8 0, .int .u8 0, .int .u8 0, .int .u8 0, .int .u8 0, .int .u8 0, .int .u8 0, .int .u8 0] 31)).alloc (.cells #[] 5)).ownsRow (w.heap.size + 1) 5 1 (.slice (some ⟨w.heap.size + 1, 0, none⟩) 0 0) 0 []) := by
    have h := own_none0 (w := w.alloc (.cells #[.int .u8 0, .int .u8 0, .int .u8 0, .int .u8 0, .int .u8 0, .int .u8 0, .int .u8 0, .int .u8 0, .int .u8 0, .int .u8 0, .int .u8 0, .int .u8 0, .int .u8 0, .int .u8 0, .int .u8 0, .int .u8 0, .int .u8 0, .int .u8 0, .int .u8 0, .int .u8 0, .int .u8 0, .int .u8 0, .int .u8 0, .int .u8 0, .int .u8 0, .int .u8 0, .int .u8 0, .int .u8 0, .int .u8 0, .int .u8 0, .int .u8 0, .int .u8 0] 31)) (base := w.heap.size + 1) (by simp)
    show World.ownsRow _ _ _ _ _ _ _
    simpa using h
  have HBE0 : Hid (Below w.heap.size w ((w.alloc (.cells #[.int .u8 0, .int .u8 0, .int .u8 0, .int .u8 0, .int .u8 0, .int .u8 0, .int .u8 0, .int .u8 0, .int .u8 0, .int .u8 0, .int .u8 0, .int .u8 0, .int .u8 0, .int .u8 0, .int .u8 0, .int .u8 0, .int .u8 0, .int .u8 0, .int .u8 0, .int .u8 0, .int .u8 0, .int .u8 0, .int .u8 0, .int .u8 0, .int .u8 0, .int .u8 0, .int .u8 0, .int .u8 0, .int .u8 0, .int .u8 0, .int .u8 0, .int .u8 0] 31)).alloc (.cells #[] 5))) := ((Below.refl _ _).alloc (Nat.le_refl _) _).alloc (by simp) _
  have HZ0 : Hid (((w.alloc (.cells #[.int .u8 0, .int .u8 0, .int .u8 0, .int .u8 0, .int .u8 0, .int .u8 0, .int .u8 0, .int .u8 0, .int .u8 0, .int .u8 0, .int .u8 0, .int .u8 0, .int .u8 0, .int .u8 0, .int .u8 0, .int .u8 0, .int .u8 0, .int .u8 0, .int .u8 0, .int .u8 0, .int .u8 0, .int .u8 0, .int .u8 0, .int .u8 0, .int .u8 0, .int .u8 0, .int .u8 0, .int .u8 0, .int .u8 0, .int .u8 0, .int .u8 0, .int .u8 0] 31)).alloc (.cells #[] 5)).heap[w.heap.size]? = some (.cells (bA (List.replicate 32 0)) 31 (0, 0))) := by
    show _ = _; rw [heap_old' _ _ _ (by simp), heap_new']; rfl
  have HNIL := Lib.hid hnil
  have HL := Lib.hid hl
  have HN := Lib.hid hn
  have HLB := Lib.hid hB.1
  clear hB hnil hl hn
  go_enter Try.func9, Try.ntmps9
  go_wp2_with (first
    | (refine wpList_append_bytes (v := .slice (some ⟨w.heap.size + 1, 0, none⟩) 0 0) (base := w.heap.size + 1) (n := 0) (xs := []) (l := l) rfl (.tmp 9) (.tmp 10) rfl rfl HOWN0.out rfl HL.out HB0.out HNIL.out (by have := HN.out; omega) (by simp) ?_; intro v1 w1 hown1 hgr1; rw [Nat.zero_add, List.nil_append] at hown1; have HOWN1 := Lib.hid hown1; have HB1 : Hid (Below (w.heap.size + 1) ((w.alloc (.cells #[.int .u8 0, .int .u8 0, .int .u8 0, .int .u8 0, .int .u8 0, .int .u8 0, .int .u8 0, .int .u8 0, .int .u8 0, .int .u8 0, .int .u8 0, .int .u8 0, .int .u8 0, .int .u8 0, .int .u8 0, .int .u8 0, .int .u8 0, .int .u8 0, .int .u8 0, .int .u8 0, .int .u8 0, .int .u8 0, .int .u8 0, .int .u8 0, .int .u8 0, .int .u8 0, .int .u8 0, .int .u8 0, .int .u8 0, .int .u8 0, .int .u8 0, .int .u8 0] 31)).alloc (.cells #[] 5)) w1) := (Below.refl _ _).grown hgr1 (by simp) (fun k hk => by simp [Value.ownBlock] at hk; omega); clear hown1 hgr1)
    | fail)
  have HZ1 := Lib.hid ((HB1.out.block _ (Nat.lt_succ_self _)).trans HZ0.out)
  have HBE1 : Hid (Below w.heap.size w w1) := HBE0.out.trans (HB1.out.mono (Nat.le_succ _))
  clear HB0 HOWN0 HBE0 HZ0 HB1
  refine (rpad_c n HN.out w1).mono ?_
  rintro e w2 ⟨v2, rfl, hown2, hb2⟩
  obtain ⟨pa, pc, rfl, hpb, hpl, hpc, hpm, hpn, hpg⟩ := own_bytes (padL_lt n) hown2
  have HPB := Lib.hid hpb
  have HPN := Lib.hid hpn
  have HOWN2 := Lib.hid (own_up HOWN1.out hb2)
  have HZ2 := Lib.hid ((hb2.block _ (lt_of_block HZ1.out)).trans HZ1.out)
  have HBE2 : Hid (Below w.heap.size w w2) := HBE1.out.trans (hb2.mono HBE1.out.size)
  obtain ⟨p, hp⟩ : ∃ p, p = (padL n).length := ⟨_, rfl⟩
  have HPL : Hid ((padL n).length = p ∧ p ≤ 80) := by rw [hp]; exact ⟨rfl, padL_short n⟩
  rw [← hp]
  clear hp hpb hpl hpc hpm hpn hpg hown2 hb2 HOWN1 HZ1 HBE1
  go_wp2_with (first
    | (refine wpList_append_bytes (v := v1) (base := w.heap.size + 1) (n := n) (m := p) (l := padL n) rfl (.tmp 11) (.tmp 14) rfl rfl HOWN2.out rfl HPL.out.1 HPB.out HPN.out (by have := HN.out; have := HPL.out.2; omega) (by have := lt_of_block HZ2.out; omega) ?_; intro v3 w3 hown3 hgr3; rw [bA_app] at hown3; have HOWN3 := Lib.hid hown3; have HB3 : Hid (Below (w.heap.size + 1) w2 w3) := (Below.refl _ _).grown hgr3 (by have := lt_of_block HZ2.out; omega) (fun k hk => (HOWN2.out.lt k hk).1); clear hown3 hgr3)
    | fail)
  have HZ3 := Lib.hid ((HB3.out.block _ (Nat.lt_succ_self _)).trans HZ2.out)
  have HBE3 : Hid (Below w.heap.size w w3) := HBE2.out.trans (HB3.out.mono (Nat.le_succ _))
  obtain ⟨M, hM⟩ : ∃ M, M = l ++ padL n := ⟨_, rfl⟩
  rw [← hM] at HOWN3
  have HMB : Hid (∀ x ∈ M, x < 256) := by
    intro x hx
    rw [hM] at hx
    rcases List.mem_append.1 hx with h | h
    · exact HLB.out x h
    · exact padL_lt n x h
  have HML : Hid (M.length = n + p ∧ M.length % 64 = 0) := by
    have h := padL_len l.length
    rw [HL.out, HPL.out.1] at h
    have e : M.length = n + p := by rw [hM, List.length_append, HL.out, HPL.out.1]
    exact ⟨e, by omega⟩
  have HSN : Hid (sumN l = (blocksN M (M.length / 64)).out) := by
    show _ = _
    rw [HML.out.1, hM, ← HPL.out.1]
    have e := HL.out
    subst e
    rfl
  clear hM HOWN2 HZ2 HBE2 HB3 HPB HPN
  refine (firsts_c w3).mono ?_
  rintro e w4 ⟨rfl, hb4⟩
  have HZ4 := Lib.hid ((hb4.block _ (lt_of_block HZ3.out)).trans HZ3.out)
  have HBE4 : Hid (Below w.heap.size w w4) := HBE3.out.trans (hb4.mono HBE3.out.size)
  have HOWN4 := Lib.hid (own_up HOWN3.out hb4)
  clear hb4 HZ3 HBE3 HOWN3
  have hown4 := HOWN4.out
  rw [← HML.out.1] at hown4
  obtain ⟨ma, mc, hv3, hmb, hml, hmc, hmm, hmn, hmg⟩ := own_bytes HMB.out hown4
  have HMAT := Lib.hid hmb
  have HMN := Lib.hid hmn
  have HMC := Lib.hid hmc
  have HMG := Lib.hid hmg
  clear hmb hmn hmc hmg hmm hml hown4
  subst hv3
  obtain ⟨ML, hML⟩ : ∃ q, q = M.length := ⟨_, rfl⟩
  have HMQ := Lib.hid hML
  rw [← hML] at HMC ⊢
  clear hML HMG
  have HZA : Hid ((w4.alloc (.cells #[.int .u32 0, .int .u32 0, .int .u32 0, .int .u32 0, .int .u32 0, .int .u32 0, .int .u32 0, .int .u32 0] 53)).heap[w4.heap.size]? = some (.cells #[.int .u32 0, .int .u32 0, .int .u32 0, .int .u32 0, .int .u32 0, .int .u32 0, .int .u32 0, .int .u32 0] 53 (0, 0))) := heap_new' _ _
  go_wp2_with (first
    | (refine wpList_store_row rfl 53 (.tmp 4) (.tmp 16) rfl w4.heap.size (wA Sha.HL) rfl rfl 53 _ HZA.out (by rw [eight53]; rfl) (by rfl) (wA_one _) ?_; generalize hW5 : World.setRow _ _ _ = w5; have HS5 : Hid (w5.heap[w4.heap.size]? = some (.cells (wA (blocksN M 0).list) 53 (0, 0))) := (by show _ = _; rw [← hW5]; exact setRow_heap _ _ _ _ _ _ HZA.out); have HB5 : Hid (Below w4.heap.size w4 w5) := (by rw [← hW5]; exact below_setRow ((Below.refl _ _).alloc (Nat.le_refl _) _) (Nat.le_refl _) _); clear hW5)
    | fail)
  have HLT : Hid (w.heap.size < w4.heap.size) := lt_of_block HZ4.out
  clear HZA
  generalize hsb : w4.heap.size = sb at *
  have HSB := Lib.hid hsb
  clear hsb
  go_loopw [5] (fun vi wx => ∃ i x : Nat, x ≤ ML ∧ vi = .int .i64 (x : Int) ∧ Hid (x = 64 * i) ∧ Hid (wx.heap[sb]? = some (.cells (wA (blocksN M i).list) 53 (0, 0))) ∧ Hid (Below sb w4 wx)) (fun vi _ => ML - (intOf vi).toNat)
  case atStart => exact ⟨0, 0, by omega, rfl, rfl, HS5.out, HB5.out⟩
  case round =>
    clear HS5 HB5
    obtain ⟨i, x, hx, rfl, hxi, hsx, hbx⟩ := hrel
    have hmlen := HML.out
    have hmq := HMQ.out
    have hpl := HPL.out.2
    have hnn := HN.out
    by_cases hlt : x < ML
    · have hd : decide ((x : Int) < (ML : Int)) = true := by simp; omega
      have dl : (x : Int) < (ML : Int) := by omega
      have hx64 : x + 64 ≤ ML := by have := hxi.out; omega
      obtain ⟨g0, rfl⟩ : ∃ g0, ma = some ⟨g0, 0, none⟩ := by
        rcases HOWN4.out.2 with ⟨h, _⟩ | ⟨g', cap', cur, h, _⟩
        · omega
        · injection h with h _ _; exact ⟨g', h⟩
      obtain ⟨g, o, hma, hmc2, hmg, hmcell⟩ := HMAT.out.2 (by omega)
      injection hma with hma
      injection hma with h1 h2 _
      subst h1 h2
      obtain ⟨x2, hx2⟩ : ∃ x2, x2 = x + 64 := ⟨_, rfl⟩
      have ex2 : IntKind.i64.wrap ((x : Int) + 64) = (x2 : Int) := by rw [IntWalk.i64_in _ (by omega)]; omega
      have s1 : (0 : Int) ≤ (x : Int) := by omega
      have s2 : (x : Int) ≤ (x2 : Int) := by omega
      have hcml : ML ≤ mc := HMC.out
      have s3 : (x2 : Int) ≤ (mc : Int) := by omega
      have s4 : ¬ mc = x := by omega
      have s5 : x2 - x = 64 := by omega
      have hgs : g0 < sb := by rw [← HSB.out]; exact hmg
      have hbl : ((M.drop (64 * i)).take 64).length = 64 := by
        have h2 := hxi.out
        rw [List.length_take, List.length_drop]; omega
      have hcell : ∀ j, j < 64 → wr.drew.cell? ⟨g0, x + j, none⟩ = some (.int .u8 ((((M.drop (64 * i)).take 64).getD j 0 : Nat) : Int)) := fun j hj => by
        have h1 := hmcell (x + j) (by omega)
        rw [Nat.zero_add] at h1
        refine (hbx.out.cell (p := ⟨g0, x + j, none⟩) hgs).trans (h1.trans ?_)
        congr 3
        rw [List.getD_eq_getElem?_getD, List.getD_eq_getElem?_getD, List.getElem?_take_of_lt hj, List.getElem?_drop]
        congr 2
        have := hxi.out; omega
      have HRB : Hid (Calls Try.prog 23 #[.agg (wA (blocksN M i).list), .slice (some ⟨g0, x, none⟩) 64 (mc - x)] wr.drew fun e w' => e = .returned (.agg (wA (blocksN M (i + 1)).list)) ∧ Below wr.heap.size wr.drew w') :=
        (rblock_c (blocksN M i) (blocks_ok _ _) g0 x (mc - x) (by omega) ((M.drop (64 * i)).take 64) hbl (fun y hy => HMB.out y (List.mem_of_mem_drop (List.mem_of_mem_take hy))) wr.drew (Nat.lt_of_lt_of_le hgs (Nat.le_trans (Nat.le_of_eq HSB.out.symm) hbx.out.size)) hcell)
      have HX2 : Hid (x2 = 64 * (i + 1) ∧ x2 ≤ ML ∧ x < x2) := by have := hxi.out; exact ⟨by omega, by omega, by omega⟩
      have HSBR : Hid (sb ≤ wr.heap.size) := Nat.le_of_lt (lt_of_block hsx.out)
      clear hx2 hcell hbl hx hx64 hmcell hmc2 hmg hgs hcml hmlen hmq hpl hnn hlt
      go_wp2_with fail
      have hS : wr.drew.heap[sb]? = some (.cells (wA (blocksN M i).list) 53 (0, 0)) := hsx.out
      refine wp_region_T (S := fun w' => w'.heap[sb]? = some (.cells (wA (blocksN M i).list) 53 (0, 0))) (z := 7) (by kernel_rfl) ?_
      change wpAnyT _ _ _ _ _ _ 8 #[false, false, false, false, false, false, false, false] _ _
      refine wpAnyT_take (i := 0) rfl (by kernel_rfl) (by kernel_rfl) (by kernel_rfl) (by kernel_rfl) (fun _ _ _ h => h) (yieldsIf_load_mid (by rfl) _ _ rfl sb 0 rfl _ _ (fun w' h => range_rowA h) Try.underlying53 rfl (by rw [eight53, Array.length_toList, wA_size, list_len])) hS ?_
      simp only [List.getElem_toArray, List.getElem_cons_succ, List.getElem_cons_zero, Act.put, List.setIfInBounds_toArray, List.set_cons_zero, List.set_cons_succ]
      change wpAnyT _ _ _ _ _ _ 7 #[true, false, false, false, false, false, false, false] _ _
      refine wpAnyT_take (i := 1) (v := ?_) rfl (by kernel_rfl) (by kernel_rfl) (by kernel_rfl) (by kernel_rfl) (fun _ _ _ h => h) (Or.inl ⟨by rfl, ?hy⟩) hS ?_
      case hy => intro w' hSw; go_simp; try with_reducible rfl
      simp only [List.getElem_toArray, List.getElem_cons_succ, List.getElem_cons_zero, Act.put, List.setIfInBounds_toArray, List.set_cons_zero, List.set_cons_succ]
      change wpAnyT _ _ _ _ _ _ 6 #[true, true, false, false, false, false, false, false] _ _
      refine wpAnyT_take (i := 2) (v := ?_) rfl (by kernel_rfl) (by kernel_rfl) (by kernel_rfl) (by kernel_rfl) (fun _ _ _ h => h) (Or.inl ⟨by rfl, ?hy⟩) hS ?_
      case hy => intro w' hSw; go_simp; try with_reducible rfl
      simp only [List.getElem_toArray, List.getElem_cons_succ, List.getElem_cons_zero, Act.put, List.setIfInBounds_toArray, List.set_cons_zero, List.set_cons_succ]
      change wpAnyT _ _ _ _ _ _ 5 #[true, true, true, false, false, false, false, false] _ _
      refine wpAnyT_take (i := 3) (v := ?_) rfl (by kernel_rfl) (by kernel_rfl) (by kernel_rfl) (by kernel_rfl) (fun _ _ _ h => h) (Or.inl ⟨by rfl, ?hy⟩) hS ?_
      case hy => intro w' hSw; go_simp; try with_reducible rfl
      simp only [List.getElem_toArray, List.getElem_cons_succ, List.getElem_cons_zero, Act.put, List.setIfInBounds_toArray, List.set_cons_zero, List.set_cons_succ]
      change wpAnyT _ _ _ _ _ _ 4 #[true, true, true, true, false, false, false, false] _ _
      refine wpAnyT_take (i := 4) (v := ?_) rfl (by kernel_rfl) (by kernel_rfl) (by kernel_rfl) (by kernel_rfl) (fun _ _ _ h => h) (Or.inl ⟨by rfl, ?hy⟩) hS ?_
      case hy => intro w' hSw; go_simp; try with_reducible rfl
      simp only [List.getElem_toArray, List.getElem_cons_succ, List.getElem_cons_zero, Act.put, List.setIfInBounds_toArray, List.set_cons_zero, List.set_cons_succ]
      change wpAnyT _ _ _ _ _ _ 3 #[true, true, true, true, true, false, false, false] _ _
      refine wpAnyT_take (i := 5) (v := ?_) rfl (by kernel_rfl) (by kernel_rfl) (by kernel_rfl) (by kernel_rfl) (fun _ _ _ h => h) (Or.inl ⟨by rfl, ?hy⟩) hS ?_
      case hy => intro w' hSw; go_simp; try with_reducible rfl
      simp only [List.getElem_toArray, List.getElem_cons_succ, List.getElem_cons_zero, Act.put, List.setIfInBounds_toArray, List.set_cons_zero, List.set_cons_succ]
      change wpAnyT _ _ _ _ _ _ 2 #[true, true, true, true, true, true, false, false] _ _
      refine wpAnyT_ready (rs := [6]) (by kernel_rfl) (by simp) ?_
      refine AllReadyT.cons rfl (fun K hK => ?_) AllReadyT.nil
      rw [if_pos (by rfl)]
      go_simp
      refine (HRB.out).mono ?_
      rintro e w7 ⟨rfl, hb7⟩
      have hs7 := (hb7.block _ (lt_of_block hsx.out)).trans hsx.out
      have hS7 := hs7
      refine hK.out _ _ (fun _ => hS7) ?_
      clear hK K
      simp only [List.getElem_toArray, List.getElem_cons_succ, List.getElem_cons_zero, Act.put, List.setIfInBounds_toArray, List.set_cons_zero, List.set_cons_succ]
      change wpAnyT _ _ _ _ _ _ 1 #[true, true, true, true, true, true, true, false] _ _
      refine wpAnyT_ready (rs := [7]) (by kernel_rfl) (by simp) ?_
      refine AllReadyT.cons rfl (fun K hK => ?_) AllReadyT.nil
      rw [if_pos (by rfl)]
      refine wp_store_row 53 (.tmp 4) (.tmp 29) rfl sb (wA (blocksN M (i + 1)).list) rfl rfl 53 _ hs7 (by rw [eight53, wA_size, list_len]) (by rw [wA_size, wA_size, list_len, list_len]) (wA_one _) ?_
      refine hK.out _ _ (fun h => absurd h (by omega)) ?_
      clear hK K
      simp only [List.getElem_toArray, List.getElem_cons_succ, List.getElem_cons_zero, Act.put, List.setIfInBounds_toArray, List.set_cons_zero, List.set_cons_succ]
      change wpAnyT _ _ _ _ _ _ 0 #[true, true, true, true, true, true, true, true] _ _
      refine wpAnyT_done (by kernel_rfl) ?_ _
      have HN1 : Hid ((w7.setRow sb (wA (blocksN M (i + 1)).list)).heap[sb]? = some (.cells (wA (blocksN M (i + 1)).list) 53 (0, 0))) := setRow_heap _ _ _ _ _ _ hs7
      have HN2 : Hid (Below sb w4 (w7.setRow sb (wA (blocksN M (i + 1)).list))) := below_setRow (hbx.out.drew.trans (hb7.mono HSBR.out)) (Nat.le_refl _) _
      clear hS hs7 hS7 hb7 hsx hbx
      go_wp2
      go_roundw
      case rel => exact ⟨i + 1, x2, HX2.out.2.1, by go_num, HX2.out.1, HN1.out, HN2.out⟩
      case measure => simp [intOf]; have := HX2.out; omega
    · have hd : decide ((x : Int) < (ML : Int)) = false := by simp; omega
      have dl : ¬ (x : Int) < (ML : Int) := by omega
      have hiq : i = M.length / 64 := by have := hxi.out; omega
      obtain ⟨SF, hSF⟩ : ∃ SF, SF = blocksN M i := ⟨_, rfl⟩
      have HL2 : Hid (sumN l = SF.out) := by show _ = _; rw [HSN.out, hSF, hiq]
      have HFO : Hid (St.ok SF) := by rw [hSF]; exact blocks_ok _ _
      rw [← hSF] at hsx
      have HBX := Lib.hid hbx.out
      have HRX := Lib.hid (range_rowA hsx.out)
      have HRX2 : Hid ((wr.alloc (.cells #[.int .u8 0, .int .u8 0, .int .u8 0, .int .u8 0, .int .u8 0, .int .u8 0, .int .u8 0, .int .u8 0, .int .u8 0, .int .u8 0, .int .u8 0, .int .u8 0, .int .u8 0, .int .u8 0, .int .u8 0, .int .u8 0, .int .u8 0, .int .u8 0, .int .u8 0, .int .u8 0, .int .u8 0, .int .u8 0, .int .u8 0, .int .u8 0, .int .u8 0, .int .u8 0, .int .u8 0, .int .u8 0, .int .u8 0, .int .u8 0, .int .u8 0, .int .u8 0] 31)).rangeAt sb 0 (wA SF.list).toList) := by
        have hb1 : Below wr.heap.size wr (wr.alloc (.cells #[.int .u8 0, .int .u8 0, .int .u8 0, .int .u8 0, .int .u8 0, .int .u8 0, .int .u8 0, .int .u8 0, .int .u8 0, .int .u8 0, .int .u8 0, .int .u8 0, .int .u8 0, .int .u8 0, .int .u8 0, .int .u8 0, .int .u8 0, .int .u8 0, .int .u8 0, .int .u8 0, .int .u8 0, .int .u8 0, .int .u8 0, .int .u8 0, .int .u8 0, .int .u8 0, .int .u8 0, .int .u8 0, .int .u8 0, .int .u8 0, .int .u8 0, .int .u8 0] 31)) := (Below.refl _ _).alloc (Nat.le_refl _) _
        exact range_rowA ((hb1.block _ (lt_of_block hsx.out)).trans hsx.out)
      have HO1 : Hid ((wr.alloc (.cells #[.int .u8 0, .int .u8 0, .int .u8 0, .int .u8 0, .int .u8 0, .int .u8 0, .int .u8 0, .int .u8 0, .int .u8 0, .int .u8 0, .int .u8 0, .int .u8 0, .int .u8 0, .int .u8 0, .int .u8 0, .int .u8 0, .int .u8 0, .int .u8 0, .int .u8 0, .int .u8 0, .int .u8 0, .int .u8 0, .int .u8 0, .int .u8 0, .int .u8 0, .int .u8 0, .int .u8 0, .int .u8 0, .int .u8 0, .int .u8 0, .int .u8 0, .int .u8 0] 31)).heap[wr.heap.size]? = some (.cells (bA (partB SF.out (4 * 0))) 31 (0, 0))) := by
        show _ = _; rw [heap_new', Nat.mul_zero, partB_zero, out_len]; rfl
      have HBY : Hid (Below sb w4 (wr.alloc (.cells #[.int .u8 0, .int .u8 0, .int .u8 0, .int .u8 0, .int .u8 0, .int .u8 0, .int .u8 0, .int .u8 0, .int .u8 0, .int .u8 0, .int .u8 0, .int .u8 0, .int .u8 0, .int .u8 0, .int .u8 0, .int .u8 0, .int .u8 0, .int .u8 0, .int .u8 0, .int .u8 0, .int .u8 0, .int .u8 0, .int .u8 0, .int .u8 0, .int .u8 0, .int .u8 0, .int .u8 0, .int .u8 0, .int .u8 0, .int .u8 0, .int .u8 0, .int .u8 0] 31))) := hbx.out.alloc (Nat.le_of_lt (lt_of_block hsx.out)) _
      have HSO : Hid (sb < wr.heap.size) := lt_of_block hsx.out
      clear hx hxi hsx hbx hmlen hmq hpl hnn hlt hiq hSF
      go_wp2_with (first
        | (refine wpList_load_mid rfl 53 (.tmp 4) rfl sb 0 rfl _ _ HRX2.out Try.underlying53 rfl (by rw [eight53, Array.length_toList, wA_size, list_len]) ?_)
        | fail)
      generalize wr.alloc (.cells #[.int .u8 0, .int .u8 0, .int .u8 0, .int .u8 0, .int .u8 0, .int .u8 0, .int .u8 0, .int .u8 0, .int .u8 0, .int .u8 0, .int .u8 0, .int .u8 0, .int .u8 0, .int .u8 0, .int .u8 0, .int .u8 0, .int .u8 0, .int .u8 0, .int .u8 0, .int .u8 0, .int .u8 0, .int .u8 0, .int .u8 0, .int .u8 0, .int .u8 0, .int .u8 0, .int .u8 0, .int .u8 0, .int .u8 0, .int .u8 0, .int .u8 0, .int .u8 0] 31) = w6 at *
      generalize wr.heap.size = ob at *
      go_loopw [31] (fun vi wx => ∃ k : Nat, k ≤ 8 ∧ vi = .int .i64 (k : Int) ∧ Hid (wx.heap[ob]? = some (.cells (bA (partB SF.out (4 * k))) 31 (0, 0))) ∧ Hid (Below sb w4 wx)) (fun vi _ => 8 - (intOf vi).toNat)
      case atStart => exact ⟨0, by omega, rfl, HO1.out, HBY.out⟩
      case round =>
        clear HO1 HBY
        obtain ⟨k, hk, rfl, ho, hbx⟩ := hrel
        by_cases hlt : k < 8
        · have hd2 : decide ((k : Int) < 8) = true := by simp; omega
          have dl2 : (k : Int) < 8 := by omega
          have hv := index_u SF k hlt
          have hxl := getD_w HFO.out k
          have hop := out_part SF k hlt
          obtain ⟨x, hx⟩ : ∃ x, x = SF.list.getD k 0 := ⟨_, rfl⟩
          rw [← hx] at hv hxl hop
          obtain ⟨q, hq4⟩ : ∃ q, q = 4 * k := ⟨_, rfl⟩
          rw [← hq4] at ho hop
          have e4 : IntKind.i64.wrap (4 * (k : Int)) = (q : Int) := by rw [IntWalk.i64_in _ (by omega)]; omega
          have dq0 : (q : Int) < 32 := by omega
          have dn0 : ¬ (q : Int) < 0 := by omega
          obtain ⟨c0, hc0⟩ : ∃ c, c = x / 16777216 % 256 := ⟨_, rfl⟩
          have ec0 : IntKind.u8.wrap ((x : Int) / 16777216) = (c0 : Int) := by rw [IntKind.wrap_u8]; omega
          obtain ⟨q1, hq1⟩ : ∃ q, q = 4 * k + 1 := ⟨_, rfl⟩
          have eq1 : IntKind.i64.wrap ((q : Int) + 1) = (q1 : Int) := by rw [IntWalk.i64_in _ (by omega)]; omega
          have dq1 : (q1 : Int) < 32 := by omega
          have dn1 : ¬ (q1 : Int) < 0 := by omega
          obtain ⟨c1, hc1⟩ : ∃ c, c = x / 65536 % 256 := ⟨_, rfl⟩
          have ec1 : IntKind.u8.wrap ((x : Int) / 65536) = (c1 : Int) := by rw [IntKind.wrap_u8]; omega
          obtain ⟨q2, hq2⟩ : ∃ q, q = 4 * k + 2 := ⟨_, rfl⟩
          have eq2 : IntKind.i64.wrap ((q : Int) + 2) = (q2 : Int) := by rw [IntWalk.i64_in _ (by omega)]; omega
          have dq2 : (q2 : Int) < 32 := by omega
          have dn2 : ¬ (q2 : Int) < 0 := by omega
          obtain ⟨c2, hc2⟩ : ∃ c, c = x / 256 % 256 := ⟨_, rfl⟩
          have ec2 : IntKind.u8.wrap ((x : Int) / 256) = (c2 : Int) := by rw [IntKind.wrap_u8]; omega
          obtain ⟨q3, hq3⟩ : ∃ q, q = 4 * k + 3 := ⟨_, rfl⟩
          have eq3 : IntKind.i64.wrap ((q : Int) + 3) = (q3 : Int) := by rw [IntWalk.i64_in _ (by omega)]; omega
          have dq3 : (q3 : Int) < 32 := by omega
          have dn3 : ¬ (q3 : Int) < 0 := by omega
          obtain ⟨c3, hc3⟩ : ∃ c, c = x / 1 % 256 := ⟨_, rfl⟩
          have ec3 : IntKind.u8.wrap (x : Int) = (c3 : Int) := by rw [IntKind.wrap_u8]; omega
          have fr0 := free_at ho.out q
          have ce0 := (cells_at ho.out q).trans (bA_get _ q (by rw [partB_len _ _ (by rw [out_len]; omega), out_len]; omega))
          have hb1' := block_at ho.out q (.int .u8 (c0 : Int))
          rw [bA_part SF.out q c0 (by rw [out_len]; omega) (by rw [hc0, show q = q + 0 by omega, ← part_at SF.out q x 0 (by omega) hop]; rfl)] at hb1'
          rw [show q + 1 = q1 by omega] at hb1'
          have fr1 := free_at hb1' q1
          have ce1 := (cells_at hb1' q1).trans (bA_get _ q1 (by rw [partB_len _ _ (by rw [out_len]; omega), out_len]; omega))
          have hb2' := block_at hb1' q1 (.int .u8 (c1 : Int))
          rw [bA_part SF.out q1 c1 (by rw [out_len]; omega) (by rw [hc1, show q1 = q + 1 by omega, ← part_at SF.out q x 1 (by omega) hop]; rfl)] at hb2'
          rw [show q1 + 1 = q2 by omega] at hb2'
          have fr2 := free_at hb2' q2
          have ce2 := (cells_at hb2' q2).trans (bA_get _ q2 (by rw [partB_len _ _ (by rw [out_len]; omega), out_len]; omega))
          have hb3' := block_at hb2' q2 (.int .u8 (c2 : Int))
          rw [bA_part SF.out q2 c2 (by rw [out_len]; omega) (by rw [hc2, show q2 = q + 2 by omega, ← part_at SF.out q x 2 (by omega) hop]; rfl)] at hb3'
          rw [show q2 + 1 = q3 by omega] at hb3'
          have fr3 := free_at hb3' q3
          have ce3 := (cells_at hb3' q3).trans (bA_get _ q3 (by rw [partB_len _ _ (by rw [out_len]; omega), out_len]; omega))
          have hb4' := block_at hb3' q3 (.int .u8 (c3 : Int))
          rw [bA_part SF.out q3 c3 (by rw [out_len]; omega) (by rw [hc3, show q3 = q + 3 by omega, ← part_at SF.out q x 3 (by omega) hop]; simp [outW])] at hb4'
          rw [show q3 + 1 = q + 4 by omega] at hb4'
          obtain ⟨W4, hW4⟩ : ∃ W4, W4 = ((((wr.setCell ⟨ob, q, none⟩ (.int .u8 (c0 : Int))).setCell ⟨ob, q1, none⟩ (.int .u8 (c1 : Int))).setCell ⟨ob, q2, none⟩ (.int .u8 (c2 : Int))).setCell ⟨ob, q3, none⟩ (.int .u8 (c3 : Int))) := ⟨_, rfl⟩
          have HX : Hid (W4.heap[ob]? = some (.cells (bA (partB SF.out (4 * (k + 1)))) 31 (0, 0))) := by
            show _ = _; rw [hW4, hb4', show 4 * (k + 1) = q + 4 by omega]
          have HBN : Hid (Below sb w4 W4) := by show Below _ _ _; rw [hW4]; exact (((hbx.out.setCell (p := ⟨ob, q, none⟩) (Nat.le_of_lt HSO.out) _).setCell (p := ⟨ob, q1, none⟩) (Nat.le_of_lt HSO.out) _).setCell (p := ⟨ob, q2, none⟩) (Nat.le_of_lt HSO.out) _).setCell (p := ⟨ob, q3, none⟩) (Nat.le_of_lt HSO.out) _
          have HWE := Lib.hid hW4
          have HK := Lib.hid hlt
          clear hW4 hb1' hb2' hb3' hb4' hc0 hc1 hc2 hc3 hq1 hq2 hq3 hq4 hx hop hxl hk hlt ho hbx
          go_wp2
          rw [← HWE.out]
          go_roundw
          case rel => exact ⟨k + 1, by have := HK.out; omega, by go_num, HX.out, HBN.out⟩
          case measure => simp [intOf]; have := HK.out; omega
        · have hk8 : k = 8 := by omega
          have hd2 : decide ((k : Int) < 8) = false := by simp; omega
          have HZ : Hid (wr.heap[ob]? = some (.cells (bA (sumN l)) 31 (0, 0))) := by
            have h := ho.out
            rw [hk8, show 4 * 8 = SF.out.length by rw [out_len], partB_full, ← HL2.out] at h
            exact h
          have HLS : Hid ((sumN l).length = 32) := sum_len l
          have HZR : Hid (wr.heap[w.heap.size]? = some (.cells (bA (List.replicate 32 0)) 31 (0, 0))) := (hbx.out.block _ HLT.out).trans HZ4.out
          have HBF : Hid (Below w.heap.size w wr) := HBE4.out.trans (hbx.out.mono (Nat.le_of_lt HLT.out))
          clear ho hk8 hk hlt hbx
          go_wp2_with (first
            | (refine wpList_load_row rfl 31 (.tmp 6) rfl ob rfl _ _ _ _ HZ.out Try.underlying31 rfl (by rw [info31, bA_size, HLS.out]) ?_)
            | (refine wpList_store_row rfl 31 (.tmp 2) (.tmp 62) rfl w.heap.size (bA (sumN l)) rfl rfl 31 _ HZR.out (by rw [info31, bA_size, HLS.out]) (by rw [bA_size, bA_size, HLS.out, List.length_replicate]) (bA_one _) ?_)
            | fail)
          exact bodyPost_ret (results_cell_row rfl _ _ w.heap.size 31 (bA (sumN l)) (0, 0) _ rfl (setRow_heap _ _ _ _ _ _ HZR.out) Try.underlying31 rfl (by rw [info31, bA_size, HLS.out])) rfl ⟨rfl, below_setRow HBF.out (Nat.le_refl _) _⟩
end Go.Proofs.Ythpglpnonecnfaa
