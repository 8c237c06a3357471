/- The contracts of Hash.Sum and Table.Sum. -/
import Derived.Test.YthpglpnonecnfaaShaI
set_option linter.unusedVariables false
set_option linter.unusedSimpArgs false
namespace Go.Proofs.Ythpglpnonecnfaa
open Go Go.RowKit Sha
theorem still_load_mid {P : Program} {ops : Array Oper} {w : World} {Q : Act → Prop} {a : Act} {op : Oper} {rest : List Oper} (ty : TypeId) (x : Operand) (ho : op.op = .load ty x) (b o : Nat) (cs : List Value) (d : TypeDesc)
    (hw : Region.wanted op (yielded ops a.tmps) = true) (hx : a.eval x = .pointer (some ⟨b, o, none⟩)) (hc : w.rangeAt b o cs) (hu : P.underlying ty = some d) (hd : d.isRow = true) (hi : (P.info? ty).map (·.size) = some cs.length)
    (h : wpStill P ops w Q rest (a.put op.dst (.agg cs.toArray))) : wpStill P ops w Q (op :: rest) a := by
  refine wpStill_step fun K hK => ?_
  rw [if_pos hw]
  unfold Oper.still execOp
  simp only [ho, hx, Instr.loadAt, Instr.sureAddr, Sem.run_bind, Sem.run_pure, Result.andThen_ok, run_loadVar_mid w b o ty cs d hc hu hd hi]
  exact ⟨rfl, hK _ h⟩
theorem padL_lt (n : Nat) : ∀ x ∈ padL n, x < 256 := by
  intro x hx
  rw [padL_split] at hx
  rcases List.mem_append.1 hx with h | h
  · rcases List.mem_cons.1 h with h | h
    · omega
    · rw [(List.mem_replicate.1 h).2]; omega
  · exact highB_lt _ _ x h
theorem padL_short (n : Nat) : (padL n).length ≤ 80 := by
  rw [padL_split]; simp [highB_len]; omega
theorem info32 : (Try.prog.info? 77).map (·.size) = some 32 := by kernel_rfl
theorem bA_one (l : List Nat) : (bA l).all (·.oneCell') = true := by
  rw [← Array.all_toList]; simp [bA, Value.oneCell']
theorem out_len (S : St) : S.out.length = 32 := by simp [St.out, outW]
theorem out_part (S : St) (k : Nat) (h : k < 8) : (S.out.drop (4 * k)).take 4 = outW (S.list.getD k 0) := by
  rcases (by omega : k = 0 ∨ k = 1 ∨ k = 2 ∨ k = 3 ∨ k = 4 ∨ k = 5 ∨ k = 6 ∨ k = 7) with rfl | rfl | rfl | rfl | rfl | rfl | rfl | rfl <;> rfl
theorem high4 (x : Nat) : highB 4 x = outW x := by
  simp [highB, upB, outW, List.range, List.range.loop]
theorem part_copy (L : List Nat) (q : Nat) (h : q + 4 ≤ L.length) (c : List Nat) (hc : c = (L.drop q).take 4) : splice ((partB L q).map fun (n : Nat) => Value.int .u8 (n : Int)) q (c.map fun (n : Nat) => Value.int .u8 (n : Int)) = (partB L (q + 4)).map fun (n : Nat) => Value.int .u8 (n : Int) := by
  have hcl : c.length = 4 := by rw [hc]; simp; omega
  unfold splice partB
  rw [List.length_map, hcl, ← List.map_take, ← List.map_drop, ← List.map_append, ← List.map_append]
  congr 1
  rw [List.take_append_of_le_length (by simp; omega), List.take_take, Nat.min_self, List.drop_append, List.length_take, Nat.min_eq_left (by omega), List.drop_of_length_le (by simp; omega), List.nil_append, List.drop_replicate, hc, List.take_add, List.append_assoc]
  congr 3
  omega
set_option maxRecDepth 100000 in
theorem index_s (S : St) (k : Nat) (hk : k < 8) (w : World) : (Instr.index 100 (.agg (wA S.list)) (.int .i64 (k : Int))).run Try.prog w = .ok (.int .u32 ((S.list.getD k 0 : Nat) : Int)) w := by
  rcases (by omega : k = 0 ∨ k = 1 ∨ k = 2 ∨ k = 3 ∨ k = 4 ∨ k = 5 ∨ k = 6 ∨ k = 7) with rfl | rfl | rfl | rfl | rfl | rfl | rfl | rfl <;> rfl
set_option maxRecDepth 100000 in
set_option maxHeartbeats 8000000 in
theorem hsum_c (B hq t : Nat) (m : List Nat) (r : Value) (w : World) (hBq : B ≤ hq) (hBw : B ≤ w.heap.size) (hm : ∀ x ∈ m, x < 256) (hml : m.length ≤ 900000)
    (hS : HS w B hq t m r m.length) (hT : w.heap[t]? = some (.cells (wA (KT ++ HL)) 80 (0, 0))) :
    Calls Try.prog 51 #[.pointer (some ⟨hq, 0, none⟩)] w fun e w' => e = .returned (.agg (bA (sumN m))) ∧ Below B w w' := by
  obtain ⟨ra, rc, hrv, _⟩ := own_bytes (fun x hx => hm x (List.mem_of_mem_drop hx)) hS.2
  obtain ⟨rl, hrl⟩ : ∃ rl, rl = m.length % 64 := ⟨_, rfl⟩
  rw [← hrl] at hrv
  clear hrl
  subst hrv
  have HSW := Lib.hid hS
  have HTT := Lib.hid hT
  have HB := Lib.hid (And.intro hBq hBw)
  have HMB := Lib.hid hm
  have HML := Lib.hid hml
  have HOK := Lib.hid (blocks_ok m (m.length / 64))
  obtain ⟨S0, hS0⟩ : ∃ S, S = blocksN m (m.length / 64) := ⟨_, rfl⟩
  rw [← hS0] at HOK
  have HS0 := Lib.hid hS0
  have hq0 := hS.1
  rw [← hS0] at hq0
  obtain ⟨xa, xb, xc, xd, xe, xf, xg, xh⟩ := S0
  obtain ⟨n, hn⟩ : ∃ n, n = m.length := ⟨_, rfl⟩
  rw [← hn] at hq0
  have HNM := Lib.hid hn
  have HQ0 : Hid (∀ w', Below w.heap.size w w' → w'.heap[hq]? = some (.cells (hashA t [xa, xb, xc, xd, xe, xf, xg, xh] (.slice ra rl rc) (n : Int)) 102 (0, 0))) := fun w' h => (h.block hq (lt_of_block hq0)).trans hq0
  have HZ0 : Hid (((w.alloc (.cells #[.int .u8 0, .int .u8 0, .int .u8 0, .int .u8 0, .int .u8 0, .int .u8 0, .int .u8 0, .int .u8 0, .int .u8 0, .int .u8 0, .int .u8 0, .int .u8 0, .int .u8 0, .int .u8 0, .int .u8 0, .int .u8 0, .int .u8 0, .int .u8 0, .int .u8 0, .int .u8 0, .int .u8 0, .int .u8 0, .int .u8 0, .int .u8 0, .int .u8 0, .int .u8 0, .int .u8 0, .int .u8 0, .int .u8 0, .int .u8 0, .int .u8 0, .int .u8 0] 77)).alloc (.cells #[.int .u8 0, .int .u8 0, .int .u8 0, .int .u8 0, .int .u8 0, .int .u8 0, .int .u8 0, .int .u8 0, .int .u8 0, .int .u8 0, .int .u8 0, .int .u8 0, .int .u8 0, .int .u8 0, .int .u8 0, .int .u8 0, .int .u8 0, .int .u8 0, .int .u8 0, .int .u8 0, .int .u8 0, .int .u8 0, .int .u8 0, .int .u8 0, .int .u8 0, .int .u8 0, .int .u8 0, .int .u8 0, .int .u8 0, .int .u8 0, .int .u8 0, .int .u8 0] 77)).heap[w.heap.size]? = some (.cells (bA (List.replicate 32 0)) 77 (0, 0))) := by
    show _ = _; rw [heap_old' _ _ _ (by simp), heap_new']; rfl
  have HZ1 : Hid (((w.alloc (.cells #[.int .u8 0, .int .u8 0, .int .u8 0, .int .u8 0, .int .u8 0, .int .u8 0, .int .u8 0, .int .u8 0, .int .u8 0, .int .u8 0, .int .u8 0, .int .u8 0, .int .u8 0, .int .u8 0, .int .u8 0, .int .u8 0, .int .u8 0, .int .u8 0, .int .u8 0, .int .u8 0, .int .u8 0, .int .u8 0, .int .u8 0, .int .u8 0, .int .u8 0, .int .u8 0, .int .u8 0, .int .u8 0, .int .u8 0, .int .u8 0, .int .u8 0, .int .u8 0] 77)).alloc (.cells #[.int .u8 0, .int .u8 0, .int .u8 0, .int .u8 0, .int .u8 0, .int .u8 0, .int .u8 0, .int .u8 0, .int .u8 0, .int .u8 0, .int .u8 0, .int .u8 0, .int .u8 0, .int .u8 0, .int .u8 0, .int .u8 0, .int .u8 0, .int .u8 0, .int .u8 0, .int .u8 0, .int .u8 0, .int .u8 0, .int .u8 0, .int .u8 0, .int .u8 0, .int .u8 0, .int .u8 0, .int .u8 0, .int .u8 0, .int .u8 0, .int .u8 0, .int .u8 0] 77)).heap[w.heap.size + 1]? = some (.cells (bA (List.replicate 32 0)) 77 (0, 0))) := by
    show _ = _; rw [show w.heap.size + 1 = (w.alloc (.cells #[.int .u8 0, .int .u8 0, .int .u8 0, .int .u8 0, .int .u8 0, .int .u8 0, .int .u8 0, .int .u8 0, .int .u8 0, .int .u8 0, .int .u8 0, .int .u8 0, .int .u8 0, .int .u8 0, .int .u8 0, .int .u8 0, .int .u8 0, .int .u8 0, .int .u8 0, .int .u8 0, .int .u8 0, .int .u8 0, .int .u8 0, .int .u8 0, .int .u8 0, .int .u8 0, .int .u8 0, .int .u8 0, .int .u8 0, .int .u8 0, .int .u8 0, .int .u8 0] 77)).heap.size by simp, heap_new']; rfl
  have HBZ : Hid (Below w.heap.size w ((w.alloc (.cells #[.int .u8 0, .int .u8 0, .int .u8 0, .int .u8 0, .int .u8 0, .int .u8 0, .int .u8 0, .int .u8 0, .int .u8 0, .int .u8 0, .int .u8 0, .int .u8 0, .int .u8 0, .int .u8 0, .int .u8 0, .int .u8 0, .int .u8 0, .int .u8 0, .int .u8 0, .int .u8 0, .int .u8 0, .int .u8 0, .int .u8 0, .int .u8 0, .int .u8 0, .int .u8 0, .int .u8 0, .int .u8 0, .int .u8 0, .int .u8 0, .int .u8 0, .int .u8 0] 77)).alloc (.cells #[.int .u8 0, .int .u8 0, .int .u8 0, .int .u8 0, .int .u8 0, .int .u8 0, .int .u8 0, .int .u8 0, .int .u8 0, .int .u8 0, .int .u8 0, .int .u8 0, .int .u8 0, .int .u8 0, .int .u8 0, .int .u8 0, .int .u8 0, .int .u8 0, .int .u8 0, .int .u8 0, .int .u8 0, .int .u8 0, .int .u8 0, .int .u8 0, .int .u8 0, .int .u8 0, .int .u8 0, .int .u8 0, .int .u8 0, .int .u8 0, .int .u8 0, .int .u8 0] 77))) := ((Below.refl _ _).alloc (Nat.le_refl _) _).alloc (by simp) _
  clear hS hT hm hml hS0 hBq hBw hq0 hn
  go_enter Try.func51, Try.ntmps51
  go_wp2_with fail
  obtain ⟨W2, hW2⟩ : ∃ W2, W2 = ((w.alloc (.cells #[.int .u8 0, .int .u8 0, .int .u8 0, .int .u8 0, .int .u8 0, .int .u8 0, .int .u8 0, .int .u8 0, .int .u8 0, .int .u8 0, .int .u8 0, .int .u8 0, .int .u8 0, .int .u8 0, .int .u8 0, .int .u8 0, .int .u8 0, .int .u8 0, .int .u8 0, .int .u8 0, .int .u8 0, .int .u8 0, .int .u8 0, .int .u8 0, .int .u8 0, .int .u8 0, .int .u8 0, .int .u8 0, .int .u8 0, .int .u8 0, .int .u8 0, .int .u8 0] 77)).alloc (.cells #[.int .u8 0, .int .u8 0, .int .u8 0, .int .u8 0, .int .u8 0, .int .u8 0, .int .u8 0, .int .u8 0, .int .u8 0, .int .u8 0, .int .u8 0, .int .u8 0, .int .u8 0, .int .u8 0, .int .u8 0, .int .u8 0, .int .u8 0, .int .u8 0, .int .u8 0, .int .u8 0, .int .u8 0, .int .u8 0, .int .u8 0, .int .u8 0, .int .u8 0, .int .u8 0, .int .u8 0, .int .u8 0, .int .u8 0, .int .u8 0, .int .u8 0, .int .u8 0] 77)) := ⟨_, rfl⟩
  rw [← hW2] at HZ0 HZ1 HBZ ⊢
  clear hW2
  have HQ2 := Lib.hid (HQ0.out W2 HBZ.out)
  have HQ2s : Hid (W2.drew.rangeAt hq 1 [.int .u32 (xa : Int), .int .u32 (xb : Int), .int .u32 (xc : Int), .int .u32 (xd : Int), .int .u32 (xe : Int), .int .u32 (xf : Int), .int .u32 (xg : Int), .int .u32 (xh : Int)]) := hash_s t [xa, xb, xc, xd, xe, xf, xg, xh] (.slice ra rl rc) n W2 hq HQ2.out
  have c0 := (cells_at HQ2.out 0).trans (show _ = some (Value.pointer (some ⟨t, 0, none⟩)) from rfl)
  have c9 := (cells_at HQ2.out 9).trans (show _ = some (Value.slice ra rl rc) from rfl)
  have c10 := (cells_at HQ2.out 10).trans (show _ = some (Value.int .i64 (n : Int)) from rfl)
  have HE3 : Hid ((W2.alloc (.cells #[.pointer (some ⟨t, 0, none⟩), .int .u32 (xa : Int), .int .u32 (xb : Int), .int .u32 (xc : Int), .int .u32 (xd : Int), .int .u32 (xe : Int), .int .u32 (xf : Int), .int .u32 (xg : Int), .int .u32 (xh : Int), .slice ra rl rc, .int .i64 0] 102)).drew.heap[W2.heap.size]? = some (.cells (hashA t [xa, xb, xc, xd, xe, xf, xg, xh] (.slice ra rl rc) 0) 102 (0, 0))) := heap_new' _ _
  have HB3 : Hid (Below W2.heap.size W2 (W2.alloc (.cells #[.pointer (some ⟨t, 0, none⟩), .int .u32 (xa : Int), .int .u32 (xb : Int), .int .u32 (xc : Int), .int .u32 (xd : Int), .int .u32 (xe : Int), .int .u32 (xf : Int), .int .u32 (xg : Int), .int .u32 (xh : Int), .slice ra rl rc, .int .i64 0] 102)).drew) := ((Below.refl _ _).alloc (Nat.le_refl _) _).drew
  have c10 : (W2.alloc (.cells #[.pointer (some ⟨t, 0, none⟩), .int .u32 (xa : Int), .int .u32 (xb : Int), .int .u32 (xc : Int), .int .u32 (xd : Int), .int .u32 (xe : Int), .int .u32 (xf : Int), .int .u32 (xg : Int), .int .u32 (xh : Int), .slice ra rl rc, .int .i64 0] 102)).drew.cell? ⟨hq, 10, none⟩ = some (.int .i64 (n : Int)) := (HB3.out.cell (p := ⟨hq, 10, none⟩) (lt_of_block HQ2.out)).trans c10
  refine wp_region_still_tail 13 (by kernel_rfl) (by kernel_rfl) ?_
  simp only [List.take_succ_cons, List.take_zero, List.drop_succ_cons, List.drop_zero]
  change wpStill _ _ W2.drew _ _ _
  repeat (first
    | (refine still_load_mid 100 (.tmp 16) rfl hq 1 _ _ (by rfl) rfl HQ2s.out Try.underlying100 rfl (by rw [eight100]; rfl) ?_)
    | still_step)
  refine wpStill_nil ?_
  change wpList _ _ _ _ _ W2.drew
  go_wp2_with fail
  generalize (W2.alloc (.cells #[.pointer (some ⟨t, 0, none⟩), .int .u32 (xa : Int), .int .u32 (xb : Int), .int .u32 (xc : Int), .int .u32 (xd : Int), .int .u32 (xe : Int), .int .u32 (xf : Int), .int .u32 (xg : Int), .int .u32 (xh : Int), .slice ra rl rc, .int .i64 0] 102)).drew = W3 at *
  refine (pad_c n (by have := HNM.out; have := HML.out; omega) W3).mono ?_
  rintro e w4 ⟨v4, rfl, hown4, hb4⟩
  obtain ⟨pa, pc, rfl, hpb, hpl, hpc, hpm, hpn, hpg⟩ := own_bytes (padL_lt n) hown4
  have HBW4 : Hid (Below w.heap.size w w4) := (HBZ.out.trans (HB3.out.mono HBZ.out.size)).trans (hb4.mono (Nat.le_trans HBZ.out.size HB3.out.size))
  have HE4 := Lib.hid ((hb4.block _ (lt_of_block HE3.out)).trans HE3.out)
  have HZ04 := Lib.hid ((hb4.block _ (Nat.lt_of_lt_of_le (lt_of_block HZ0.out) HB3.out.size)).trans ((HB3.out.block _ (lt_of_block HZ0.out)).trans HZ0.out))
  have HZ14 := Lib.hid ((hb4.block _ (Nat.lt_of_lt_of_le (lt_of_block HZ1.out) HB3.out.size)).trans ((HB3.out.block _ (lt_of_block HZ1.out)).trans HZ1.out))
  have HEL : Hid (w.heap.size + 1 < W2.heap.size ∧ W2.heap.size < W3.heap.size ∧ W3.heap.size ≤ w4.heap.size) := ⟨lt_of_block HZ1.out, lt_of_block HE3.out, hb4.size⟩
  have HPB := Lib.hid hpb
  have HPN := Lib.hid hpn
  have HPG := Lib.hid hpg
  clear hpb hpn hpg hpl hpc hpm hown4 hb4 HB3 HE3 HZ0 HZ1 HBZ HQ0 HQ2 HQ2s c0 c9 c10
  generalize W2.heap.size = eb at *
  generalize W3.heap.size = s3 at *
  go_wp2_with fail
  have HW5 : Hid (HS (w4.alloc (.cells #[.slice pa (padL n).length pc] 27)) B eb t m (.slice ra rl rc) 0) := by
    refine ⟨?_, own_up (own_up HSW.out.2 HBW4.out) ((Below.refl _ _).alloc (Nat.le_refl _) _)⟩
    rw [heap_old' _ _ _ (lt_of_block HE4.out), HE4.out, ← HS0.out]; rfl
  have HBW5 : Hid (Below w.heap.size w (w4.alloc (.cells #[.slice pa (padL n).length pc] 27))) := HBW4.out.alloc HBW4.out.size _
  have hrb : ∀ g, (Value.slice ra rl rc).ownBlock = some g → g < w.heap.size := fun g h => (HSW.out.2.lt g h).2
  refine (hwrite_c B eb t m (.slice ra rl rc) 0 w4.heap.size 0 1 [(pa, pc, padL n)] (w4.alloc (.cells #[.slice pa (padL n).length pc] 27)) (by have := HB.out.2; have := HEL.out; omega) (Nat.le_trans HB.out.2 HBW5.out.size) HMB.out HW5.out ((HBW5.out.block _ (lt_of_block HTT.out)).trans HTT.out) ?_ ⟨by have := lt_of_block HE4.out; omega, fun h => by have := hrb _ h; have := HBW4.out.size; omega, by simp⟩ (by simp) (by have := padL_short n; simp [catP]; omega) (by have := padL_short n; have := HML.out; simp [catP]; omega)).mono ?_
  · intro k s hs
    have hk : k = 0 := by have := (List.getElem?_eq_some_iff.1 hs).1; simpa using this
    subst hk
    simp at hs
    subst hs
    refine ⟨(cells_at (heap_new' _ _) 0).trans rfl, HPB.out.up ((Below.refl _ _).alloc (Nat.le_refl _) _) (Nat.le_refl _), HPN.out, fun g o h => ?_⟩
    have h1 := (HPG.out g o none h).1
    have h2 := HEL.out
    exact ⟨by omega, fun h => by have := hrb _ h; omega⟩
  rintro e w6 ⟨rfl, r6, hs6, hf6⟩
  have hcat : catP [(pa, pc, padL n)] = padL n := by simp [catP]
  rw [hcat] at hs6
  have HZ06 := Lib.hid ((hf6.2 w.heap.size (by have := HEL.out; simp; omega) (by have := HEL.out; omega) (fun h => by have := hrb _ h; omega)).trans ((heap_old' _ _ _ (lt_of_block HZ04.out)).trans HZ04.out))
  have HZ16 := Lib.hid ((hf6.2 (w.heap.size + 1) (by have := HEL.out; simp; omega) (by have := HEL.out; omega) (fun h => by have := hrb _ h; omega)).trans ((heap_old' _ _ _ (lt_of_block HZ14.out)).trans HZ14.out))
  have HB6 : Hid (Below B w w6) := (HBW5.out.mono HB.out.2).trans hf6.1
  obtain ⟨SF, hSF⟩ : ∃ SF, SF = blocksN (m ++ padL n) ((m ++ padL n).length / 64) := ⟨_, rfl⟩
  have HL : Hid (sumN m = SF.out) := by
    show _ = _
    rw [hSF, HNM.out, List.length_append]; rfl
  have HFO : Hid (St.ok SF) := by rw [hSF]; exact blocks_ok _ _
  have hh6 := hs6.1
  rw [← hSF] at hh6
  have HR6 := Lib.hid (hash_s t SF.list r6 _ w6 eb hh6)
  clear hs6 hf6 hSF hh6 hcat HZ04 HZ14 HE4 HBW4 HBW5 HW5 HPB HPN HPG
  go_wp2_with (first
    | (refine wpList_load_mid rfl 100 (.tmp 34) rfl eb 1 rfl _ _ HR6.out Try.underlying100 rfl (by rw [eight100]; rfl) ?_)
    | fail)
  obtain ⟨N6, hN6⟩ : ∃ N : Nat, N = (m ++ padL n).length := ⟨_, rfl⟩
  go_loopw [36] (fun vi wx => ∃ k : Nat, k ≤ 8 ∧ vi = .int .i64 (k : Int) ∧ Hid (wx.heap[w.heap.size + 1]? = some (.cells (bA (partB SF.out (4 * k))) 77 (0, 0))) ∧ Hid (wx.heap[w.heap.size]? = some (.cells (bA (List.replicate 32 0)) 77 (0, 0))) ∧ Hid (Below B w wx) ∧ Hid (w.heap.size ≤ wx.heap.size)) (fun vi _ => 8 - (intOf vi).toNat)
  case atStart => exact ⟨0, by omega, rfl, by show _ = _; rw [Nat.mul_zero, partB_zero, out_len]; exact HZ16.out, HZ06.out, HB6.out, HB6.out.size⟩
  case round =>
    clear HZ16 HZ06 HB6 HR6
    obtain ⟨k, hk, rfl, hz1, hz0, hbel, hw7⟩ := hrel
    by_cases hlt : k < 8
    · have hd : decide ((k : Int) < 8) = true := by simp; omega
      have dl : (k : Int) < 8 := by omega
      have hv := index_s SF k hlt
      have hxl := getD_w HFO.out k
      obtain ⟨x, hx⟩ : ∃ x, x = SF.list.getD k 0 := ⟨_, rfl⟩
      have HXO : Hid (outW x = (SF.out.drop (4 * k)).take 4) := by show _ = _; rw [hx, out_part SF k hlt]
      rw [← hx] at hv hxl
      have ex : IntKind.u64.wrap (x : Int) = (x : Int) := by rw [IntKind.wrap_u64]; omega
      obtain ⟨q, hq4⟩ : ∃ q, q = 4 * k := ⟨_, rfl⟩
      have HQ4 := Lib.hid hq4
      rw [← hq4] at hz1 HXO
      have e4 : IntKind.i64.wrap (4 * (k : Int)) = (q : Int) := by rw [IntWalk.i64_in _ (by omega)]; omega
      have s1 : (0 : Int) ≤ (q : Int) := by omega
      have s2 : (q : Int) ≤ 32 := by omega
      have s3 : ¬ (32 : Nat) = q := by omega
      have s4 : ¬ q = 32 := by omega
      have hq28 : q ≤ 28 := by omega
      have HK := Lib.hid hlt
      clear hx hq4 hk
      go_wp2_with fail
      refine wp_region_held_drew (S := fun _ => True) (by kernel_rfl) trivial ?_
      intro hS
      clear hS
      change wpAnyH _ _ _ _ _ 7 #[false, false, false, false, false, false, false] _ _
      refine wpAnyH_take (i := 0) (v := ?_) rfl (by kernel_rfl) (by kernel_rfl) (by kernel_rfl) (fun _ _ _ h => h) (Or.inl ⟨by rfl, ?hy⟩) trivial ?_
      case hy => intro w' hSw; go_simp; try with_reducible rfl
      simp only [List.getElem_toArray, List.getElem_cons_succ, List.getElem_cons_zero, Act.put, List.setIfInBounds_toArray, List.set_cons_zero, List.set_cons_succ]
      change wpAnyH _ _ _ _ _ 6 #[true, false, false, false, false, false, false] _ _
      refine wpAnyH_take (i := 1) (v := ?_) rfl (by kernel_rfl) (by kernel_rfl) (by kernel_rfl) (fun _ _ _ h => h) (Or.inl ⟨by rfl, ?hy⟩) trivial ?_
      case hy => intro w' hSw; go_simp; try with_reducible rfl
      simp only [List.getElem_toArray, List.getElem_cons_succ, List.getElem_cons_zero, Act.put, List.setIfInBounds_toArray, List.set_cons_zero, List.set_cons_succ]
      change wpAnyH _ _ _ _ _ 5 #[true, true, false, false, false, false, false] _ _
      refine wpAnyH_take (i := 2) (v := ?_) rfl (by kernel_rfl) (by kernel_rfl) (by kernel_rfl) (fun _ _ _ h => h) (Or.inl ⟨by rfl, ?hy⟩) trivial ?_
      case hy => intro w' hSw; go_simp; try with_reducible rfl
      simp only [List.getElem_toArray, List.getElem_cons_succ, List.getElem_cons_zero, Act.put, List.setIfInBounds_toArray, List.set_cons_zero, List.set_cons_succ]
      change wpAnyH _ _ _ _ _ 4 #[true, true, true, false, false, false, false] _ _
      refine wpAnyH_take (i := 3) (v := ?_) rfl (by kernel_rfl) (by kernel_rfl) (by kernel_rfl) (fun _ _ _ h => h) (Or.inl ⟨by rfl, ?hy⟩) trivial ?_
      case hy => intro w' hSw; go_simp; try with_reducible rfl
      simp only [List.getElem_toArray, List.getElem_cons_succ, List.getElem_cons_zero, Act.put, List.setIfInBounds_toArray, List.set_cons_zero, List.set_cons_succ]
      change wpAnyH _ _ _ _ _ 3 #[true, true, true, true, false, false, false] _ _
      refine wpAnyH_take (i := 4) (v := ?_) rfl (by kernel_rfl) (by kernel_rfl) (by kernel_rfl) (fun _ _ _ h => h) (Or.inl ⟨by rfl, ?hy⟩) trivial ?_
      case hy => intro w' hSw; go_simp; try with_reducible rfl
      simp only [List.getElem_toArray, List.getElem_cons_succ, List.getElem_cons_zero, Act.put, List.setIfInBounds_toArray, List.set_cons_zero, List.set_cons_succ]
      change wpAnyH _ _ _ _ _ 2 #[true, true, true, true, true, false, false] _ _
      refine wpAnyH_ready (rs := [5]) (by kernel_rfl) (by simp) ?_
      refine AllReadyH.cons rfl (fun K hK => ?_) AllReadyH.nil
      rw [if_pos (by rfl)]
      go_simp
      refine (high_c 4 x (by omega) (by omega) (by omega) 4 (x : Int) rfl rfl wr.drew).mono ?_
      rintro e w7 ⟨b7, rfl, hb71, hb72, hbl7, hbe7⟩
      refine hK.out _ _ (trivial) (fun _ => ?_)
      clear hK K
      simp only [List.getElem_toArray, List.getElem_cons_succ, List.getElem_cons_zero, Act.put, List.setIfInBounds_toArray, List.set_cons_zero, List.set_cons_succ]
      change wpAnyH _ _ _ _ _ 1 #[true, true, true, true, true, true, false] _ _
      have hz7 : w7.heap[w.heap.size + 1]? = some (.cells ((partB SF.out q).map fun (n : Nat) => Value.int .u8 (n : Int)).toArray 77 (0, 0)) := (hbe7.block _ (lt_of_block hz1.out)).trans hz1.out
      have hy7 : w7.heap[w.heap.size]? = some (.cells (bA (List.replicate 32 0)) 77 (0, 0)) := (hbe7.block _ (lt_of_block hz0.out)).trans hz0.out
      have hB7 : Below B w w7 := (hbel.out.drew).trans (hbe7.mono (Nat.le_trans HB.out.2 hw7.out))
      refine wpAnyH_ready (rs := [6]) (by kernel_rfl) (by simp) ?_
      refine AllReadyH.cons rfl (fun K hK => ?_) AllReadyH.nil
      refine step_copy_splice rfl (.tmp 42) (.tmp 45) 27 27 rfl 5 Try.underlying27 (by kernel_rfl) _ _ (32 - q) (32 - q) 4 4 rfl rfl (w.heap.size + 1) q _ 77 hz7 ((highB 4 x).map fun (n : Nat) => Value.int .u8 (n : Int)) (by rw [List.length_map, highB_len]; show 4 = min 4 (32 - q); omega) (fun _ => ⟨rfl, _, rfl, fun j v hv => ?c1⟩) (by simp [highB_len, partB_len _ _ (show q ≤ SF.out.length by rw [out_len]; omega), out_len]; omega) (by simp [Value.oneCell']) (w.heap.size + 1) w7 (Below.refl _ _) (Nat.le_refl _) ?_
      case c1 => rw [add_plain, Nat.zero_add, cells_at hbl7 j]; simpa [bA] using hv
      intro w8 hg8 hb8
      refine hK.out _ _ (trivial) (fun _ => ?_)
      clear hK K
      simp only [List.getElem_toArray, List.getElem_cons_succ, List.getElem_cons_zero, Act.put, List.setIfInBounds_toArray, List.set_cons_zero, List.set_cons_succ]
      change wpAnyH _ _ _ _ _ 0 #[true, true, true, true, true, true, true] _ _
      refine wpAnyH_done (by kernel_rfl) ?_ _
      have HX : Hid (w8.heap[w.heap.size + 1]? = some (.cells (bA (partB SF.out (4 * (k + 1)))) 77 (0, 0))) := by
        show _ = _
        rw [hg8.out, show 4 * (k + 1) = q + 4 by have := HQ4.out; omega, part_copy SF.out q (by rw [out_len]; omega) (highB 4 x) (by rw [← HXO.out]; exact high4 x)]
        rfl
      have HY : Hid (w8.heap[w.heap.size]? = some (.cells (bA (List.replicate 32 0)) 77 (0, 0))) := (hb8.block _ (by omega)).trans hy7
      have HBN : Hid (Below B w w8) := hB7.trans (hb8.mono (by have := HB.out.2; omega))
      clear hg8 hb8 hz7 hy7 hB7 hbl7 hbe7 hb71 hb72 hz1 hz0 hbel
      go_wp2
      go_roundw
      case rel => exact ⟨k + 1, by have := HK.out; omega, by go_num, HX.out, HY.out, HBN.out, HBN.out.size⟩
      case measure => simp [intOf]; have := HK.out; omega
    · have hk8 : k = 8 := by omega
      have hd : decide ((k : Int) < 8) = false := by simp; omega
      have HZ : Hid (wr.heap[w.heap.size + 1]? = some (.cells (bA (sumN m)) 77 (0, 0))) := by
        have h := hz1.out
        rw [hk8, show 4 * 8 = SF.out.length by rw [out_len], partB_full, ← HL.out] at h
        exact h
      have HLS : Hid ((sumN m).length = 32) := sum_len m
      clear hz1 hk8 hk hlt
      go_wp2_with (first
        | (refine wpList_load_row rfl 77 (.tmp 3) rfl (w.heap.size + 1) rfl _ _ _ _ HZ.out Try.underlying77 rfl (by rw [info32, bA_size, HLS.out]) ?_)
        | (refine wpList_store_row rfl 77 (.tmp 2) (.tmp 48) rfl w.heap.size (bA (sumN m)) rfl rfl 77 _ hz0.out (by rw [info32, bA_size, HLS.out]) (by rw [bA_size, bA_size, HLS.out, List.length_replicate]) (bA_one _) ?_)
        | fail)
      exact bodyPost_ret (results_cell_row rfl _ _ w.heap.size 77 (bA (sumN m)) (0, 0) _ rfl (setRow_heap _ _ _ _ _ _ hz0.out) Try.underlying77 rfl (by rw [info32, bA_size, HLS.out])) rfl ⟨rfl, below_setRow hbel.out HB.out.2 _⟩
set_option maxRecDepth 100000 in
set_option maxHeartbeats 8000000 in
theorem tsum_c (t ps po pc : Nat) (P : Parts) (w : World) (hT : w.heap[t]? = some (.cells (wA (KT ++ HL)) 80 (0, 0))) (hps : ps < w.heap.size)
    (hP : ∀ k s, P[k]? = some s → w.cell? ⟨ps, po + k, none⟩ = some (.slice s.1 s.2.2.length s.2.1) ∧ BytesAt w s.1 s.2.1 s.2.2 ∧ (s.1 = none → s.2.1 = 0) ∧ ∀ g o, s.1 = some ⟨g, o, none⟩ → g < w.heap.size)
    (hPl : P.length ≤ 1000000) (hM : (catP P).length ≤ 900000) :
    Calls Try.prog 41 #[.pointer (some ⟨t, 0, none⟩), .slice (some ⟨ps, po, none⟩) P.length pc] w fun e w' => e = .returned (.agg (bA (sumN (catP P)))) ∧ Below w.heap.size w w' := by
  have HZ0 : Hid ((w.alloc (.cells #[.int .u8 0, .int .u8 0, .int .u8 0, .int .u8 0, .int .u8 0, .int .u8 0, .int .u8 0, .int .u8 0, .int .u8 0, .int .u8 0, .int .u8 0, .int .u8 0, .int .u8 0, .int .u8 0, .int .u8 0, .int .u8 0, .int .u8 0, .int .u8 0, .int .u8 0, .int .u8 0, .int .u8 0, .int .u8 0, .int .u8 0, .int .u8 0, .int .u8 0, .int .u8 0, .int .u8 0, .int .u8 0, .int .u8 0, .int .u8 0, .int .u8 0, .int .u8 0] 77)).heap[w.heap.size]? = some (.cells (bA (List.replicate 32 0)) 77 (0, 0))) := by
    show _ = _; rw [heap_new']; rfl
  have HB0 : Hid (Below w.heap.size w (w.alloc (.cells #[.int .u8 0, .int .u8 0, .int .u8 0, .int .u8 0, .int .u8 0, .int .u8 0, .int .u8 0, .int .u8 0, .int .u8 0, .int .u8 0, .int .u8 0, .int .u8 0, .int .u8 0, .int .u8 0, .int .u8 0, .int .u8 0, .int .u8 0, .int .u8 0, .int .u8 0, .int .u8 0, .int .u8 0, .int .u8 0, .int .u8 0, .int .u8 0, .int .u8 0, .int .u8 0, .int .u8 0, .int .u8 0, .int .u8 0, .int .u8 0, .int .u8 0, .int .u8 0] 77))) := (Below.refl _ _).alloc (Nat.le_refl _) _
  have HP := Lib.hid hP
  have HTT := Lib.hid hT
  have HPS := Lib.hid hps
  have HM := Lib.hid hM
  have HPL := Lib.hid hPl
  clear hP hT hps hM hPl
  go_enter Try.func41, Try.ntmps41
  go_wp2_with fail
  refine (hnew_c t _ ((HB0.out.block _ (lt_of_block HTT.out)).trans HTT.out)).mono ?_
  rintro e w1 ⟨rfl, hh1, hb1⟩
  generalize w.alloc (.cells #[.int .u8 0, .int .u8 0, .int .u8 0, .int .u8 0, .int .u8 0, .int .u8 0, .int .u8 0, .int .u8 0, .int .u8 0, .int .u8 0, .int .u8 0, .int .u8 0, .int .u8 0, .int .u8 0, .int .u8 0, .int .u8 0, .int .u8 0, .int .u8 0, .int .u8 0, .int .u8 0, .int .u8 0, .int .u8 0, .int .u8 0, .int .u8 0, .int .u8 0, .int .u8 0, .int .u8 0, .int .u8 0, .int .u8 0, .int .u8 0, .int .u8 0, .int .u8 0] 77) = w0 at *
  have HBW1 : Hid (Below w.heap.size w w1) := HB0.out.trans (hb1.mono HB0.out.size)
  have HH1 := Lib.hid hh1
  have HZ1 := Lib.hid ((hb1.block _ (lt_of_block HZ0.out)).trans HZ0.out)
  have HLT : Hid (w.heap.size < w0.heap.size ∧ w0.heap.size < w1.heap.size) := ⟨lt_of_block HZ0.out, lt_of_block hh1⟩
  clear hh1 hb1 HB0 HZ0
  generalize w0.heap.size = hq at *
  go_wp2_with fail
  have hS1 : HS w1 w.heap.size hq t [] (.slice none 0 0) 0 := ⟨HH1.out, World.ownsRow_nil _ _ _ _⟩
  refine (hwrite_c w.heap.size hq t [] (.slice none 0 0) 0 ps po pc P w1 (by have := HLT.out; omega) HBW1.out.size (fun x hx => by cases hx) hS1 ((HBW1.out.block _ (lt_of_block HTT.out)).trans HTT.out) ?_ ⟨by have := HLT.out; have := HPS.out; omega, (fun h => by cases h), by have := HLT.out; have := HPS.out; omega⟩ HPL.out (by have := HM.out; omega) (by have := HM.out; simp; omega)).mono ?_
  · intro k s hs
    obtain ⟨h1, h2, h3, h4⟩ := HP.out k s hs
    exact ⟨(HBW1.out.cell (p := ⟨ps, po + k, none⟩) HPS.out).trans h1, h2.up HBW1.out (Nat.le_refl _), h3, fun g o h => ⟨by have := h4 g o h; have := HLT.out; omega, fun h => by cases h⟩⟩
  rintro e w2 ⟨rfl, r2, hs2, hf2⟩
  rw [List.nil_append, Nat.zero_add] at hs2
  have HS2 := Lib.hid hs2
  have HB2 : Hid (Below w.heap.size w w2) := HBW1.out.trans hf2.1
  have HZ2 := Lib.hid ((hf2.2 w.heap.size (by have := HLT.out; omega) (by have := HLT.out; omega) (fun h => by cases h)).trans HZ1.out)
  have HT2 := Lib.hid ((HB2.out.block _ (lt_of_block HTT.out)).trans HTT.out)
  clear hs2 hf2 hS1 HBW1 HH1 HZ1
  go_wp2_with fail
  refine (hsum_c (w.heap.size + 1) hq t (catP P) r2 w2 (by have := HLT.out; omega) (Nat.lt_of_lt_of_le (lt_of_block HZ2.out) (Nat.le_refl _)) ?_ HM.out ?_ HT2.out).mono ?_
  · intro x hx
    unfold catP at hx
    rw [List.mem_flatten] at hx
    obtain ⟨l, hl, hx⟩ := hx
    rw [List.mem_map] at hl
    obtain ⟨s, hs, rfl⟩ := hl
    obtain ⟨i, hi, he⟩ := List.getElem_of_mem hs
    exact (HP.out i s (by rw [List.getElem?_eq_getElem hi, he])).2.1.1 x hx
  · refine ⟨HS2.out.1, HS2.out.2.1, ?_⟩
    rcases HS2.out.2.2 with h | ⟨g, cap, cur, h1, h2, h3, h4⟩
    · exact .inl h
    · refine .inr ⟨g, cap, cur, h1, ?_, h3, h4⟩
      rcases Nat.lt_or_eq_of_le h2 with h | h
      · exact h
      · exfalso
        rw [← h, HZ2.out] at h3
        injection h3 with h3
        injection h3 with _ h3 _
        exact absurd h3 (by decide)
  rintro e w3 ⟨rfl, hb3⟩
  have HB3 : Hid (Below w.heap.size w w3) := HB2.out.trans (hb3.mono (Nat.le_succ _))
  have HZ3 := Lib.hid ((hb3.block _ (Nat.lt_succ_self _)).trans HZ2.out)
  have HLS : Hid ((sumN (catP P)).length = 32) := sum_len _
  clear hb3 HB2 HZ2 HS2 HT2
  go_wp2_with (first
    | (refine wpList_store_row rfl 77 (.tmp 4) (.tmp 12) rfl w.heap.size (bA (sumN (catP P))) rfl rfl 77 _ HZ3.out (by rw [info32, bA_size, HLS.out]) (by rw [bA_size, bA_size, HLS.out, List.length_replicate]) (bA_one _) ?_)
    | fail)
  exact bodyPost_ret (results_cell_row rfl _ _ w.heap.size 77 (bA (sumN (catP P))) (0, 0) _ rfl (setRow_heap _ _ _ _ _ _ HZ3.out) Try.underlying77 rfl (by rw [info32, bA_size, HLS.out])) rfl ⟨rfl, below_setRow HB3.out (Nat.le_refl _) _⟩
end Go.Proofs.Ythpglpnonecnfaa
