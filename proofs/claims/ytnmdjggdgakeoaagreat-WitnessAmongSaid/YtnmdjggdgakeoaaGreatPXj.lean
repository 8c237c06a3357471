/- Lemmas for the proof. -/
import Derived.Test.YtnmdjggdgakeoaaGreatPXb
import Derived.Test.YtnmdjggdgakeoaaGreatProg
import Derived.Test.YtnmdjggdgakeoaaGreatPXc
import Derived.Deep.Cut
import Derived.Laws.MakeOwn
import Derived.Laws.Tables
import Derived.Laws.Rows
set_option maxRecDepth 100000
set_option maxHeartbeats 16000000
set_option linter.unusedVariables false
set_option linter.unusedSimpArgs false
set_option linter.unusedSectionVars false
namespace Go.Proofs.YtnmdjggdgakeoaaGreat
open Go Go.RowKit
structure Wds (B : Array Value) (n : Nat) (N : List Nat) : Prop where
 size : B.size = 18 * n
 len : N.length = 8 * n
 byte : ∀ x ∈ N, x < 256
 now : ∀ k j, k < n -> j < 8 -> B[18 * k + (8 + j)]? = some (.int .u8 ((N.getD (8 * k + j) 0 : Nat) : Int))
 las : ∀ k j, k < n -> j < 8 -> ∃ c : Nat, c < 256 /\ B[18 * k + j]? = some (.int .u8 (c : Int))
 pen : ∀ k, k < n -> ∃ b, B[18 * k + 16]? = some (.bool b)
 mar : ∀ k, k < n -> ∃ b, B[18 * k + 17]? = some (.bool b)
structure DevB where
 d : Nat
 wb : Nat
 n : Nat
def actV (x : Int × Int × Int) : List Value := [.int .i64 x.1, .int .i64 x.2.1, .int .i64 x.2.2]
structure Dev (w : World) (D : DevB) (av : Value) (N : List Nat) : Prop where
 blk : w.heap[D.d]? = some (.cells #[.slice (some ⟨D.wb, 0, none⟩) D.n D.n, .bool false, .int .i64 0, .slice none 0 0, av] 159 (0, 0))
 words : ∃ B, w.heap[D.wb]? = some (.cells B 238 (0, 0)) /\ Wds B D.n N
 acts : ∃ k L, k <= 16384 /\ L.length = k /\ w.ownsRow 0 190 3 av k (cellsK actV L)
 lt : D.n <= 8192
 ne : D.d ≠ D.wb /\ av.ownBlock ≠ some D.d /\ av.ownBlock ≠ some D.wb
def devS (D : DevB) (av : Value) : BSet := fun k => k = D.d \/ k = D.wb \/ av.ownBlock = some k
theorem Dev.on {w : World} {D : DevB} {av : Value} {N : List Nat} (h : Dev w D av N) : On (devS D av) (fun w => Dev w D av N) w := by
 obtain ⟨B, hB, hW⟩ := h.words
 obtain ⟨k, L, h1, h2, h3⟩ := h.acts
 refine ⟨h, ?_, fun w' he => ⟨(he _ (.inl rfl)).trans h.blk, ⟨B, (he _ (.inr (.inl rfl))).trans hB, hW⟩, ⟨k, L, h1, h2, (On.own h3).keep w' fun i hi => he i (.inr (.inr hi))⟩, h.lt, h.ne⟩⟩
 rintro i (rfl | rfl | hi)
 ·exact (Array.getElem?_eq_some_iff.1 h.blk).1
 ·exact (Array.getElem?_eq_some_iff.1 hB).1
 ·exact (On.own h3).lt i hi
theorem devLen_c (w : World) {D : DevB} {av : Value} {N : List Nat} (h : Dev w D av N) :
  Calls Tryz.prog 122 #[.pointer (some ⟨D.d, 0, none⟩)] w fun r w' => r = .returned (.int .i64 ((8 * D.n : Nat) : Int)) /\ Below w.heap.size w w' := by
 have c0 : w.cell? ⟨D.d, 0, none⟩ = some (.slice (some ⟨D.wb, 0, none⟩) D.n D.n) := (cells_atK h.blk 0).trans rfl
 have hn := h.lt
 clear h
 go_enter Tryz.func122, Tryz.ntmps122
 go_wp2
 go_ret
 refine ⟨by go_num, Below.refl _ _⟩
theorem devReady_c (w : World) {D : DevB} {av : Value} {N : List Nat} (h : Dev w D av N) (at_ n : Nat) (ha : at_ + n <= 8 * D.n) :
  Calls Tryz.prog 84 #[.pointer (some ⟨D.d, 0, none⟩), .int .i64 (at_ : Int), .int .i64 (n : Int)] w fun r w' => r = .returned (.int .i64 0) /\ Below w.heap.size w w' := by
 have c0 : w.cell? ⟨D.d, 0, none⟩ = some (.slice (some ⟨D.wb, 0, none⟩) D.n D.n) := (cells_atK h.blk 0).trans rfl
 have c1 : w.cell? ⟨D.d, 1, none⟩ = some (.bool false) := (cells_atK h.blk 1).trans rfl
 have hn := h.lt
 have HL := Lib.hid (devLen_c w h)
 have HO := Lib.hid h.on;have HB := Lib.hid (fun (w' : World) (hb : Below w.heap.size w w') => devLen_c w' (h.on.below hb).holds)
 clear h
 go_enter Tryz.func84, Tryz.ntmps84
 clear HL HB HO;go_wp2
 go_ret
 exact ⟨rfl, Below.refl _ _⟩
theorem setW_block {w : World} {b : Nat} {A : Array Value} {t : TypeId} {z : Nat × Nat} (h : w.heap[b]? = some (.cells A t z)) (o : Nat) (v : Value) : (w.setCell ⟨b, o, none⟩ v).heap[b]? = some (.cells (A.setIfInBounds o v) t z) := by
 have hl := (Array.getElem?_eq_some_iff.1 h).1
 simp [World.setCell, Array.getElem?_modify, h]
theorem frozen_no {w : World} {b : Nat} {A : Array Value} {t : TypeId} (h : w.heap[b]? = some (.cells A t (0, 0))) (o : Nat) : w.frozen? ⟨b, o, none⟩ = false := by simp [World.frozen?, h]
theorem Wds.setPen {B : Array Value} {n : Nat} {N : List Nat} (h : Wds B n N) (k : Nat) (hk : k < n) (b : Bool) : Wds (B.setIfInBounds (18 * k + 16) (.bool b)) n N := by
 have hs := h.size
 refine ⟨by simp [hs], h.len, h.byte, fun i j hi hj => ?_, fun i j hi hj => ?_, fun i hi => ?_, fun i hi => ?_⟩
 ·rw [Array.getElem?_setIfInBounds_ne (by omega)]; exact h.now i j hi hj
 ·rw [Array.getElem?_setIfInBounds_ne (by omega)]; exact h.las i j hi hj
 ·by_cases e : i = k
  ·subst e; exact ⟨b, by rw [Array.getElem?_setIfInBounds_self_of_lt (by omega)]⟩
  ·rw [Array.getElem?_setIfInBounds_ne (by omega)]; exact h.pen i hi
 ·rw [Array.getElem?_setIfInBounds_ne (by omega)]; exact h.mar i hi
theorem Wds.setLas {B : Array Value} {n : Nat} {N : List Nat} (h : Wds B n N) (k j : Nat) (hk : k < n) (hj : j < 8) (c : Nat) (hc : c < 256) : Wds (B.setIfInBounds (18 * k + j) (.int .u8 (c : Int))) n N := by
 have hs := h.size
 refine ⟨by simp [hs], h.len, h.byte, fun i j' hi hj' => ?_, fun i j' hi hj' => ?_, fun i hi => ?_, fun i hi => ?_⟩
 ·rw [Array.getElem?_setIfInBounds_ne (by omega)]; exact h.now i j' hi hj'
 ·by_cases e : 18 * k + j = 18 * i + j'
  ·rw [<- e, Array.getElem?_setIfInBounds_self_of_lt (by omega)]; exact ⟨c, hc, rfl⟩
  ·rw [Array.getElem?_setIfInBounds_ne e]; exact h.las i j' hi hj'
 ·rw [Array.getElem?_setIfInBounds_ne (by omega)]; exact h.pen i hi
 ·rw [Array.getElem?_setIfInBounds_ne (by omega)]; exact h.mar i hi
theorem Wds.setMar {B : Array Value} {n : Nat} {N : List Nat} (h : Wds B n N) (k : Nat) (hk : k < n) (b : Bool) : Wds (B.setIfInBounds (18 * k + 17) (.bool b)) n N := by
 have hs := h.size
 refine ⟨by simp [hs], h.len, h.byte, fun i j hi hj => ?_, fun i j hi hj => ?_, fun i hi => ?_, fun i hi => ?_⟩
 ·rw [Array.getElem?_setIfInBounds_ne (by omega)]; exact h.now i j hi hj
 ·rw [Array.getElem?_setIfInBounds_ne (by omega)]; exact h.las i j hi hj
 ·rw [Array.getElem?_setIfInBounds_ne (by omega)]; exact h.pen i hi
 ·by_cases e : i = k
  ·subst e; exact ⟨b, by rw [Array.getElem?_setIfInBounds_self_of_lt (by omega)]⟩
  ·rw [Array.getElem?_setIfInBounds_ne (by omega)]; exact h.mar i hi
theorem Wds.setNow {B : Array Value} {n : Nat} {N : List Nat} (h : Wds B n N) (k j : Nat) (hk : k < n) (hj : j < 8) (c : Nat) (hc : c < 256) : Wds (B.setIfInBounds (18 * k + (8 + j)) (.int .u8 (c : Int))) n (N.set (8 * k + j) c) := by
 have hs := h.size
 have hl := h.len
 refine ⟨by simp [hs], by simp [hl], fun x hx => ?_, fun i j' hi hj' => ?_, fun i j' hi hj' => ?_, fun i hi => ?_, fun i hi => ?_⟩
 ·rcases List.mem_or_eq_of_mem_set hx with hx | rfl
  ·exact h.byte x hx
  ·exact hc
 ·by_cases e : 18 * k + (8 + j) = 18 * i + (8 + j')
  ·rw [<- e, Array.getElem?_setIfInBounds_self_of_lt (by omega), show 8 * i + j' = 8 * k + j by omega]
   simp [List.getD, show 8 * k + j < N.length by omega]
  ·rw [Array.getElem?_setIfInBounds_ne e, h.now i j' hi hj']
   simp [List.getD, List.getElem?_set, show 8 * k + j ≠ 8 * i + j' by omega]
 ·rw [Array.getElem?_setIfInBounds_ne (by omega)]; exact h.las i j' hi hj'
 ·rw [Array.getElem?_setIfInBounds_ne (by omega)]; exact h.pen i hi
 ·rw [Array.getElem?_setIfInBounds_ne (by omega)]; exact h.mar i hi
def WdFn (f : FuncId) : Prop := (∀ args w, (callFunc f args).run Tryz.prog w = .ok (.enter f args) w) /\ ∀ (w : World) (wb k n : Nat) (N : List Nat) (B : Array Value), k < n -> n <= 8192 -> w.heap[wb]? = some (.cells B 238 (0, 0)) -> Wds B n N ->
 Calls Tryz.prog f #[.pointer (some ⟨wb, 18 * k, none⟩)] w fun r w' => (∃ u, r = .returned u) /\ (∃ B', w'.heap[wb]? = some (.cells B' 238 (0, 0)) /\ Wds B' n N) /\ Chg (· = wb) w w'
theorem stored_w : WdFn 356 := by
 refine ⟨fun args w => by go_simp, ?_⟩
 intro w wb k n N B hk hn hb hW;obtain ⟨pb, hp⟩ := hW.pen k hk
 obtain ⟨mb, hm⟩ := hW.mar k hk
 have c16 : w.cell? ⟨wb, 18 * k + 16, none⟩ = some (.bool pb) := (cells_atK hb _).trans hp
 have c17 : w.cell? ⟨wb, 18 * k + 17, none⟩ = some (.bool mb) := (cells_atK hb _).trans hm
 have f16 := frozen_no hb (18 * k + 16)
 have f17 := frozen_no hb (18 * k + 17)
 have HE : Hid ((∃ B', ((w.setCell ⟨wb, 18 * k + 16, none⟩ (.bool true)).setCell ⟨wb, 18 * k + 17, none⟩ (.bool false)).heap[wb]? = some (.cells B' 238 (0, 0)) /\ Wds B' n N) /\ Chg (· = wb) w ((w.setCell ⟨wb, 18 * k + 16, none⟩ (.bool true)).setCell ⟨wb, 18 * k + 17, none⟩ (.bool false))) :=
  Lib.hid ⟨⟨_, setW_block (setW_block hb _ _) _ _, (hW.setPen k hk true).setMar k hk false⟩, (Chg.setCell (S := (· = wb)) w wb _ _ rfl).trans' (Chg.setCell (S := (· = wb)) _ wb _ _ rfl)⟩
 clear hb hW hp hm
 go_enter Tryz.func356, Tryz.ntmps356
 go_wp2
 refine bodyPost_end (results_none rfl _ _ _) rfl ?_
 exact ⟨⟨_, rfl⟩, HE.out⟩
theorem flushed_w : WdFn 357 := by
 refine ⟨fun args w => by go_simp, ?_⟩
 intro w wb k n N B hk hn hb hW;obtain ⟨pb, hp⟩ := hW.pen k hk
 obtain ⟨mb, hm⟩ := hW.mar k hk
 have c16 : w.cell? ⟨wb, 18 * k + 16, none⟩ = some (.bool pb) := (cells_atK hb _).trans hp
 have c17 : w.cell? ⟨wb, 18 * k + 17, none⟩ = some (.bool mb) := (cells_atK hb _).trans hm
 have f17 := frozen_no hb (18 * k + 17)
 have HE : Hid ((∃ B', (w.setCell ⟨wb, 18 * k + 17, none⟩ (.bool pb)).heap[wb]? = some (.cells B' 238 (0, 0)) /\ Wds B' n N) /\ Chg (· = wb) w (w.setCell ⟨wb, 18 * k + 17, none⟩ (.bool pb))) :=
  Lib.hid ⟨⟨_, setW_block hb _ _, hW.setMar k hk pb⟩, Chg.setCell (S := (· = wb)) w wb _ _ rfl⟩
 clear hb hW hp hm
 go_enter Tryz.func357, Tryz.ntmps357
 go_wp2
 refine bodyPost_end (results_none rfl _ _ _) rfl ?_
 exact ⟨⟨_, rfl⟩, HE.out⟩
theorem fenced_w : WdFn 262 := by
 refine ⟨fun args w => by go_simp, ?_⟩
 intro w wb k n N B hk hn hb hW;obtain ⟨pb, hp⟩ := hW.pen k hk
 obtain ⟨mb, hm⟩ := hW.mar k hk
 have c16 : w.cell? ⟨wb, 18 * k + 16, none⟩ = some (.bool pb) := (cells_atK hb _).trans hp
 have c17 : w.cell? ⟨wb, 18 * k + 17, none⟩ = some (.bool mb) := (cells_atK hb _).trans hm
 cases mb with
 | false =>
  go_enter Tryz.func262, Tryz.ntmps262
  go_wp2
  refine bodyPost_end (results_none rfl _ _ _) rfl ?_
  exact ⟨⟨_, rfl⟩, ⟨_, hb, hW⟩, Chg.refl _ _⟩
 | true =>
  have n0 := (cells_atK hb (18 * k + 8)).trans (hW.now k 0 hk (by omega))
  have n1 := (cells_atK hb (18 * k + 8 + 1)).trans (hW.now k 1 hk (by omega))
  have n2 := (cells_atK hb (18 * k + 8 + 2)).trans (hW.now k 2 hk (by omega))
  have n3 := (cells_atK hb (18 * k + 8 + 3)).trans (hW.now k 3 hk (by omega))
  have n4 := (cells_atK hb (18 * k + 8 + 4)).trans (hW.now k 4 hk (by omega))
  have n5 := (cells_atK hb (18 * k + 8 + 5)).trans (hW.now k 5 hk (by omega))
  have n6 := (cells_atK hb (18 * k + 8 + 6)).trans (hW.now k 6 hk (by omega))
  have n7 := (cells_atK hb (18 * k + 8 + 7)).trans (hW.now k 7 hk (by omega))
  obtain ⟨y0, _, hy0⟩ := hW.las k 0 hk (by omega)
  have l0 := (cells_atK hb (18 * k)).trans hy0
  have f0 := frozen_no hb (18 * k)
  obtain ⟨y1, _, hy1⟩ := hW.las k 1 hk (by omega)
  have l1 := (cells_atK hb (18 * k + 1)).trans hy1
  have f1 := frozen_no hb (18 * k + 1)
  obtain ⟨y2, _, hy2⟩ := hW.las k 2 hk (by omega)
  have l2 := (cells_atK hb (18 * k + 2)).trans hy2
  have f2 := frozen_no hb (18 * k + 2)
  obtain ⟨y3, _, hy3⟩ := hW.las k 3 hk (by omega)
  have l3 := (cells_atK hb (18 * k + 3)).trans hy3
  have f3 := frozen_no hb (18 * k + 3)
  obtain ⟨y4, _, hy4⟩ := hW.las k 4 hk (by omega)
  have l4 := (cells_atK hb (18 * k + 4)).trans hy4
  have f4 := frozen_no hb (18 * k + 4)
  obtain ⟨y5, _, hy5⟩ := hW.las k 5 hk (by omega)
  have l5 := (cells_atK hb (18 * k + 5)).trans hy5
  have f5 := frozen_no hb (18 * k + 5)
  obtain ⟨y6, _, hy6⟩ := hW.las k 6 hk (by omega)
  have l6 := (cells_atK hb (18 * k + 6)).trans hy6
  have f6 := frozen_no hb (18 * k + 6)
  obtain ⟨y7, _, hy7⟩ := hW.las k 7 hk (by omega)
  have l7 := (cells_atK hb (18 * k + 7)).trans hy7
  have f7 := frozen_no hb (18 * k + 7)
  have f16 := frozen_no hb (18 * k + 16)
  have f17 := frozen_no hb (18 * k + 17)
  have HB := Lib.hid hb;have HW := Lib.hid hW;clear hb hW hp hm hy0 hy1 hy2 hy3 hy4 hy5 hy6 hy7
  go_enter Tryz.func262, Tryz.ntmps262
  go_wp2
  refine bodyPost_end (results_none rfl _ _ _) rfl ?_
  have hD : ∀ j, j < 8 -> (N[8 * k + j]?).getD 0 < 256 := fun j hj => HW.out.byte _ (by
   have hl := HW.out.len
   rw [List.getElem?_eq_getElem (show 8 * k + j < N.length by omega)]
   exact List.getElem_mem _)
  exact ⟨⟨_, rfl⟩, ⟨_, setW_block (setW_block (setW_block (setW_block (setW_block (setW_block (setW_block (setW_block (setW_block (setW_block HB.out _ _) _ _) _ _) _ _) _ _) _ _) _ _) _ _) _ _) _ _, ((((((((((HW.out.setLas k 0 hk (by omega) _ (hD 0 (by omega))).setLas k 1 hk (by omega) _ (hD 1 (by omega))).setLas k 2 hk (by omega) _ (hD 2 (by omega))).setLas k 3 hk (by omega) _ (hD 3 (by omega))).setLas k 4 hk (by omega) _ (hD 4 (by omega))).setLas k 5 hk (by omega) _ (hD 5 (by omega))).setLas k 6 hk (by omega) _ (hD 6 (by omega))).setLas k 7 hk (by omega) _ (hD 7 (by omega))).setPen k hk false).setMar k hk false)⟩, ((((((((((Chg.setCell (S := (· = wb)) _ wb _ _ rfl).trans' (Chg.setCell (S := (· = wb)) _ wb _ _ rfl)).trans' (Chg.setCell (S := (· = wb)) _ wb _ _ rfl)).trans' (Chg.setCell (S := (· = wb)) _ wb _ _ rfl)).trans' (Chg.setCell (S := (· = wb)) _ wb _ _ rfl)).trans' (Chg.setCell (S := (· = wb)) _ wb _ _ rfl)).trans' (Chg.setCell (S := (· = wb)) _ wb _ _ rfl)).trans' (Chg.setCell (S := (· = wb)) _ wb _ _ rfl)).trans' (Chg.setCell (S := (· = wb)) _ wb _ _ rfl)).trans' (Chg.setCell (S := (· = wb)) _ wb _ _ rfl))⟩
theorem Dev.words_to {w w' : World} {D : DevB} {av : Value} {N N' : List Nat} (h : Dev w D av N) (hc : Chg (· = D.wb) w w') (hB : ∃ B', w'.heap[D.wb]? = some (.cells B' 238 (0, 0)) /\ Wds B' D.n N') : Dev w' D av N' := by
 obtain ⟨k, L, h1, h2, h3⟩ := h.acts
 refine ⟨(hc.block _ (Array.getElem?_eq_some_iff.1 h.blk).1 h.ne.1).trans h.blk, hB, ⟨k, L, h1, h2, (On.own h3).keep w' fun i hi => hc.block i ((On.own h3).lt i hi) ?_⟩, h.lt, h.ne⟩
 rintro rfl
 exact h.ne.2.2 hi
theorem devEach_c {f : FuncId} (hf : WdFn f) {D : DevB} {av : Value} {N : List Nat} (lo hi : Nat) (hlo : lo <= hi) (hhi : hi <= D.n) (w : World) (h : Dev w D av N) :
  Calls Tryz.prog 261 #[.pointer (some ⟨D.d, 0, none⟩), .int .i64 (lo : Int), .int .i64 (hi : Int), .func (.func f) #[] #[]] w fun r w' => (∃ u, r = .returned u) /\ Dev w' D av N /\ Chg (· = D.wb) w w' := by
 have hn := h.lt
 have HF := Lib.hid hf;have HD := Lib.hid h;clear hf h
 go_enter Tryz.func261, Tryz.ntmps261
 go_wp2
 go_loopw [8] (fun v8 wr => ∃ k : Nat, k <= hi /\ v8 = .int .i64 (k : Int) /\ Hid (Dev wr D av N) /\ Hid (Chg (· = D.wb) w wr)) (fun v8 _ => hi - (intOf v8).toNat)
 case atStart => exact ⟨lo, hlo, rfl, HD.out, Chg.refl _ _⟩
 case round =>
  obtain ⟨k, hk, rfl, hdv, hch⟩ := hrel
  by_cases hlt : k < hi
  ·have dl : (k : Int) < (hi : Int) := by omega
   have c0 : wr.cell? ⟨D.d, 0, none⟩ = some (.slice (some ⟨D.wb, 0, none⟩) D.n D.n) := (cells_atK hdv.out.blk 0).trans rfl
   obtain ⟨B, hB, hW⟩ := hdv.out.words
   have hcl := HF.out.2 wr D.wb k D.n N B (by omega) hn hB hW
   rw [Nat.mul_comm 18 k] at hcl
   have hent := HF.out.1
   have ek : IntKind.i64.wrap ((k : Int) + 1) = (k : Int) + 1 := IntWalk.i64_in _ (by omega)
   have HC := Lib.hid hcl;clear hcl hW hB;go_wp2_with fail
   refine HC.out.mono ?_
   rintro r w1 ⟨⟨u, rfl⟩, hB1, hc1⟩
   have HDV := Lib.hid (hdv.out.words_to hc1 hB1)
   have HCH := Lib.hid (hch.out.trans' hc1)
   clear hB1 hc1 HC hdv hch c0;go_wp2
   go_roundw
   case rel => exact ⟨k + 1, by omega, by go_num, HDV.out, HCH.out⟩
   case measure => simp [intOf]; omega
  ·have dl : ¬ (k : Int) < (hi : Int) := by omega
   go_wp2
   refine bodyPost_end (results_none rfl _ _ _) rfl ?_
   exact ⟨⟨_, rfl⟩, hdv.out, hch.out⟩
theorem actRT : RowTy Tryz.prog (fun x => .agg (actV x).toArray) actV 3 24 157 190 :=
 ⟨Tryz.underlying157, ⟨.agg #[.int .i64 0, .int .i64 0, .int .i64 0], by kernel_rfl, rfl⟩, fun x => rfl, fun _ => rfl, fun x v hv => by simp [actV] at hv; rcases hv with rfl | rfl | rfl <;> rfl, by decide⟩
def opsNvAct : {o : Array Oper // some o = (Tryz.f85.body.bind (Fre.findR 7))} := ⟨_, rfl⟩
theorem fitNvAct : Fre.fit .any opsNvAct.1 44 = true := by kernel_rfl
theorem sizeNvAct : opsNvAct.1.size = 11 := by kernel_rfl
theorem tailNvAct : Fre.lateFitT .any opsNvAct.1 7 0 = true := by kernel_rfl
def VNvAct (d q : Nat) (av : Value) (x : Int × Int × Int) (B : Nat) (i : Nat) (v : Value) (w : World) : Prop := match i with
 | 0 => v = .pointer (some ⟨d, 0, none⟩)
 | 1 => v = .pointer (some ⟨d, 0, none⟩)
 | 2 => v = .pointer (some ⟨d, 0, none⟩)
 | 3 => v = .pointer (some ⟨d, 4, none⟩)
 | 4 => v = av
 | 5 => v = .agg #[.int .i64 x.1, .int .i64 x.2.1, .int .i64 x.2.2]
 | 6 => ∃ b, v = .slice (some ⟨b, 0, none⟩) 1 1 /\ B <= b /\ w.heap[b]? = some (.cells (actV x).toArray 190 (0, 0))
 | _ => True
section
variable {u1 u2 u4 u5 u6 u7 u8 u9 u10 u11 u12 u13 u14 u15 u16 u17 u18 u19 u20 u21 u22 u23 u24 u25 u26 u27 u28 u29 u30 u31 u32 u33 u34 u35 u36 u37 u38 u39 u40 u41 u42 u43 : Value}
theorem kpNvAct (d q : Nat) (av : Value) (x : Int × Int × Int) (B : Nat) : ∀ j v w w', j < 7 -> VNvAct d q av x B j v w -> Fre.Kept w w' -> VNvAct d q av x B j v w' := by
 intro j v w w' hj h hs
 rcases cs7 hj with rfl | rfl | rfl | rfl | rfl | rfl | rfl
 any_goals exact h
 ·change ∃ b, v = .slice (some ⟨b, 0, none⟩) 1 1 /\ B <= b /\ w.heap[b]? = some (.cells (actV x).toArray 190 (0, 0)) at h
  obtain ⟨b, h1, h2, h3⟩ := h
  exact ⟨b, h1, h2, (hs.block _ (Array.getElem?_eq_some_iff.1 h3).1).trans h3⟩
theorem finNvAct (d q : Nat) (av : Value) (x : Int × Int × Int) (B : Nat) (vs : Nat -> Value) : Fre.finT opsNvAct.1 vs #[.pointer (some ⟨d, 0, none⟩), u1, u2, .pointer (some ⟨q, 0, none⟩), u4, u5, u6, u7, u8, u9, u10, u11, u12, u13, u14, u15, u16, u17, u18, u19, u20, u21, u22, u23, u24, u25, u26, u27, u28, u29, u30, u31, u32, u33, u34, u35, u36, u37, u38, u39, u40, u41, u42, u43] 7 = #[.pointer (some ⟨d, 0, none⟩), u1, u2, .pointer (some ⟨q, 0, none⟩), u4, u5, u6, u7, u8, u9, u10, u11, u12, u13, u14, u15, u16, u17, u18, u19, u20, u21, u22, u23, u24, u25, u26, u27, u28, u29, u30, u31, u32, u33, vs 0, vs 1, vs 2, vs 3, vs 4, vs 5, vs 6, u41, u42, u43] := by kernel_rfl
variable {d q : Nat} {av : Value} {x : Int × Int × Int} {B : Nat} {a0 : Act} {w0 : World} (h0 : w0.cell? ⟨d, 4, none⟩ = some av) (hd : d < w0.heap.size) (h1 : w0.heap[q]? = some (.cells (actV x).toArray 190 (0, 0))) (hB : B <= w0.heap.size)
include h0 hd h1 hB
theorem stNvAct_0 (g90 : a0.tmps.getD 0 undef = .pointer (some ⟨d, 0, none⟩)) : Fre.StepB Tryz.prog opsNvAct.1 a0 w0 (VNvAct d q av x B) Fre.Kept 0 := by
 rintro E w hc hf hE hV hN hS _ ⟨⟩
 simp only [opsNvAct, gA, gS, gZ]
 have b0 : E (.tmp 0) = .pointer (some ⟨d, 0, none⟩) := (hE 0 (by kernel_rfl)).trans g90
 clear g90;refine Fre.dv (v := .pointer (some ⟨d, 0, none⟩)) ?_
 go_simp
theorem stNvAct_1 (g90 : a0.tmps.getD 0 undef = .pointer (some ⟨d, 0, none⟩)) : Fre.StepB Tryz.prog opsNvAct.1 a0 w0 (VNvAct d q av x B) Fre.Kept 1 := by
 rintro E w hc hf hE hV hN hS _ ⟨⟩
 simp only [opsNvAct, gA, gS, gZ]
 have b0 : E (.tmp 0) = .pointer (some ⟨d, 0, none⟩) := (hE 0 (by kernel_rfl)).trans g90
 clear g90;refine Fre.dv (v := .pointer (some ⟨d, 0, none⟩)) ?_
 go_simp
theorem stNvAct_2 : Fre.StepB Tryz.prog opsNvAct.1 a0 w0 (VNvAct d q av x B) Fre.Kept 2 := by
 rintro E w hc hf hE hV hN hS _ ⟨⟩
 simp only [opsNvAct, gA, gS, gZ]
 have d1 : E (.tmp 35) = .pointer (some ⟨d, 0, none⟩) := hV 1 35 (by kernel_rfl) (by kernel_rfl)
 refine Fre.dv (v := .pointer (some ⟨d, 0, none⟩)) ?_
 go_simp
theorem stNvAct_3 : Fre.StepB Tryz.prog opsNvAct.1 a0 w0 (VNvAct d q av x B) Fre.Kept 3 := by
 rintro E w hc hf hE hV hN hS _ ⟨⟩
 simp only [opsNvAct, gA, gS, gZ]
 have d2 : E (.tmp 36) = .pointer (some ⟨d, 0, none⟩) := hV 2 36 (by kernel_rfl) (by kernel_rfl)
 refine Fre.dv (v := .pointer (some ⟨d, 4, none⟩)) ?_
 go_simp
theorem stNvAct_4 : Fre.StepB Tryz.prog opsNvAct.1 a0 w0 (VNvAct d q av x B) Fre.Kept 4 := by
 rintro E w hc hf hE hV hN hS _ ⟨⟩
 simp only [opsNvAct, gA, gS, gZ]
 have d3 : E (.tmp 37) = .pointer (some ⟨d, 4, none⟩) := hV 3 37 (by kernel_rfl) (by kernel_rfl)
 have c0 : w.cell? ⟨d, 4, none⟩ = some av := (hS.cell (p := ⟨d, 4, none⟩) hd).trans h0
 refine Fre.dv (v := av) ?_
 go_simp
theorem stNvAct_5 (g93 : a0.tmps.getD 3 undef = .pointer (some ⟨q, 0, none⟩)) : Fre.StepB Tryz.prog opsNvAct.1 a0 w0 (VNvAct d q av x B) Fre.Kept 5 := by
 rintro E w hc hf hE hV hN hS _ ⟨⟩
 simp only [opsNvAct, gA, gS, gZ]
 have b3 : E (.tmp 3) = .pointer (some ⟨q, 0, none⟩) := (hE 3 (by kernel_rfl)).trans g93
 clear g93;have hb := (hS.block q (Array.getElem?_eq_some_iff.1 h1).1).trans h1
 have c0 : w.cell? ⟨q, 0, none⟩ = some (.int .i64 x.1) := (cells_atK hb 0).trans rfl
 have c1 : w.cell? ⟨q, 1, none⟩ = some (.int .i64 x.2.1) := (cells_atK hb 1).trans rfl
 have c2 : w.cell? ⟨q, 2, none⟩ = some (.int .i64 x.2.2) := (cells_atK hb 2).trans rfl
 refine Fre.dv (v := .agg #[.int .i64 x.1, .int .i64 x.2.1, .int .i64 x.2.2]) ?_
 go_simp
theorem stNvAct_6 : Fre.StepB Tryz.prog opsNvAct.1 a0 w0 (VNvAct d q av x B) Fre.Kept 6 := by
 rintro E w hc hf hE hV hN hS _ ⟨⟩
 simp only [opsNvAct, gA, gS, gZ]
 have d5 : E (.tmp 39) = .agg #[.int .i64 x.1, .int .i64 x.2.1, .int .i64 x.2.2] := hV 5 39 (by kernel_rfl) (by kernel_rfl)
 exact Fre.Does.value (v := .slice (some ⟨w.heap.size, 0, none⟩) 1 1) (w' := w.alloc (.cells (actV x).toArray 190)) (actRT.run_build E _ (by decide) (.tmp 39) rfl (p := x) d5) ⟨⟨_, rfl, Nat.le_trans hB hS.size, World.alloc_heap_new _ _⟩, (Below.refl _ w).alloc (Nat.le_refl _) _⟩
variable (d q av x B w0)
theorem regionNvAct {QQ : Exit -> Act -> World -> Prop} (hQ : ∀ (vs : Nat -> Value) w, (∀ j, j < 7 -> VNvAct d q av x B j (vs j) w) -> Fre.Kept w0 w -> wpList Tryz.prog opsNvAct.1 QQ (opsNvAct.1.toList.drop 7) ⟨#[.pointer (some ⟨d, 0, none⟩), u1, u2, .pointer (some ⟨q, 0, none⟩), u4, u5, u6, u7, u8, u9, u10, u11, u12, u13, u14, u15, u16, u17, u18, u19, u20, u21, u22, u23, u24, u25, u26, u27, u28, u29, u30, u31, u32, u33, vs 0, vs 1, vs 2, vs 3, vs 4, vs 5, vs 6, u41, u42, u43], []⟩ w) (hQ2 : ∀ (vs : Nat -> Value) w, (∀ j, j < 7 -> j ≠ 0 -> VNvAct d q av x B j (vs j) w) -> Fre.Kept w0 w -> wpList Tryz.prog opsNvAct.1 QQ (opsNvAct.1[7]'(by rw [sizeNvAct]; omega) :: opsNvAct.1[0]'(by rw [sizeNvAct]; omega) :: opsNvAct.1.toList.drop 8) ⟨#[.pointer (some ⟨d, 0, none⟩), u1, u2, .pointer (some ⟨q, 0, none⟩), u4, u5, u6, u7, u8, u9, u10, u11, u12, u13, u14, u15, u16, u17, u18, u19, u20, u21, u22, u23, u24, u25, u26, u27, u28, u29, u30, u31, u32, u33, u34, vs 1, vs 2, vs 3, vs 4, vs 5, vs 6, u41, u42, u43], []⟩ w) : (Code.region 7 opsNvAct.1 true).wp Tryz.prog QQ ⟨#[.pointer (some ⟨d, 0, none⟩), u1, u2, .pointer (some ⟨q, 0, none⟩), u4, u5, u6, u7, u8, u9, u10, u11, u12, u13, u14, u15, u16, u17, u18, u19, u20, u21, u22, u23, u24, u25, u26, u27, u28, u29, u30, u31, u32, u33, u34, u35, u36, u37, u38, u39, u40, u41, u42, u43], []⟩ w0 := by
 refine Fre.region_lateT 44 7 0 (by omega) (by rw [sizeNvAct]; omega) (by kernel_rfl) fitNvAct rfl tailNvAct (by rw [sizeNvAct]; omega) (VNvAct d q av x B) (kpNvAct d q av x B) (fun i hi => ?_) (fun vs w h1 h2 => ?_) (fun vs w h1 h3 h2 => ?_)
 case refine_2 => show wpList _ _ _ _ ⟨Fre.finT opsNvAct.1 vs #[.pointer (some ⟨d, 0, none⟩), u1, u2, .pointer (some ⟨q, 0, none⟩), u4, u5, u6, u7, u8, u9, u10, u11, u12, u13, u14, u15, u16, u17, u18, u19, u20, u21, u22, u23, u24, u25, u26, u27, u28, u29, u30, u31, u32, u33, u34, u35, u36, u37, u38, u39, u40, u41, u42, u43] 7, []⟩ w; rw [finNvAct d q av x B vs]; exact hQ vs w h1 h2
 case refine_3 =>
  have e3 : vs 0 = u34 := (Option.some.inj (h3 34 (by kernel_rfl))).symm
  show wpList _ _ _ _ ⟨Fre.finT opsNvAct.1 vs #[.pointer (some ⟨d, 0, none⟩), u1, u2, .pointer (some ⟨q, 0, none⟩), u4, u5, u6, u7, u8, u9, u10, u11, u12, u13, u14, u15, u16, u17, u18, u19, u20, u21, u22, u23, u24, u25, u26, u27, u28, u29, u30, u31, u32, u33, u34, u35, u36, u37, u38, u39, u40, u41, u42, u43] 7, []⟩ w; rw [finNvAct d q av x B vs, e3]; exact hQ2 vs w h1 h2
 rcases cs7 hi with rfl | rfl | rfl | rfl | rfl | rfl | rfl
 ·exact stNvAct_0 h0 hd h1 hB rfl
 ·exact stNvAct_1 h0 hd h1 hB rfl
 ·exact stNvAct_2 h0 hd h1 hB
 ·exact stNvAct_3 h0 hd h1 hB
 ·exact stNvAct_4 h0 hd h1 hB
 ·exact stNvAct_5 h0 hd h1 hB rfl
 ·exact stNvAct_6 h0 hd h1 hB
end
theorem own_sl {w : World} {base : Nat} {e : TypeId} {size : Nat} {v : Value} {n : Nat} {xs : List Value} (h : w.ownsRow base e size v n xs) : ∃ a c, v = .slice a n c := by
 rcases h.2 with ⟨rfl, rfl⟩ | ⟨g, cap, cur, h1, _⟩
 ·exact ⟨_, _, rfl⟩
 ·exact ⟨_, _, h1⟩
theorem Dev.acted {w w5 w6 : World} {D : DevB} {av v' : Value} {N : List Nat} {k : Nat} {M : List (Int × Int × Int)} (h : Dev w D av N) (hb : Below w.heap.size w w5) (hk : k + 1 <= 16384) (hM : M.length = k + 1)
  (hO : w6.ownsRow 0 190 3 v' (k + 1) (cellsK actV M)) (hg : w5.grownBy w6 av.ownBlock) (hat : v'.ownBlock = av.ownBlock \/ v'.ownBlock = some w5.heap.size) :
  Dev (w6.setCell ⟨D.d, 4, none⟩ v') D v' N /\ Chg (devS D av) w (w6.setCell ⟨D.d, 4, none⟩ v') /\ ∀ k, devS D v' k -> devS D av k \/ w.heap.size <= k := by
 have hd := (Array.getElem?_eq_some_iff.1 h.blk).1
 obtain ⟨B, hB, hW⟩ := h.words
 have hw := (Array.getElem?_eq_some_iff.1 hB).1
 have hs5 := hb.size
 have hs6 := hg.size
 have hne : v'.ownBlock ≠ some D.d /\ v'.ownBlock ≠ some D.wb := by
  rcases hat with e | e
  ·rw [e]; exact h.ne.2
  ·rw [e]; constructor <;> intro e' <;> injection e' with e' <;> omega
 have hd6 := (hg.block _ (by omega) (fun e => h.ne.2.1 e.symm)).trans ((hb.block _ hd).trans h.blk)
 have hw6 := (hg.block _ (by omega) (fun e => h.ne.2.2 e.symm)).trans ((hb.block _ hw).trans hB)
 have hset : ∀ q, q ≠ D.d -> (w6.setCell ⟨D.d, 4, none⟩ v').heap[q]? = w6.heap[q]? := fun q hq => Below.heap_setCell _ _ _ _ (by first | exact fun e => hq e | exact fun e => hq e.symm)
 refine ⟨⟨?_, ⟨B, (hset _ (Ne.symm h.ne.1)).trans hw6, hW⟩, ⟨k + 1, M, hk, hM, (On.own hO).keep _ fun i hi => hset i fun e => hne.1 (by rw [<- e]; exact hi)⟩, h.lt, h.ne.1, hne⟩, ?_, ?_⟩
 ·exact setW_block hd6 4 v'
 ·exact ((Chg.of_below hb).trans' (Chg.grown hg fun k e _ => .inr (.inr e))).trans' (Chg.setCell _ _ _ _ (.inl rfl))
 ·rintro i (rfl | rfl | hi)
  ·exact .inl (.inl rfl)
  ·exact .inl (.inr (.inl rfl))
  ·rcases hat with e | e
   ·exact .inl (.inr (.inr (by rw [<- e]; exact hi)))
   ·rw [e] at hi; injection hi with hi; exact .inr (by omega)
theorem devAct_c {D : DevB} {av : Value} {N : List Nat} (x : Int × Int × Int) (w : World) (h : Dev w D av N) :
  Calls Tryz.prog 85 #[.pointer (some ⟨D.d, 0, none⟩), .agg #[.int .i64 x.1, .int .i64 x.2.1, .int .i64 x.2.2]] w fun r w' => r = .returned (.int .i64 0) /\ ∃ av', Dev w' D av' N /\ Chg (devS D av) w w' /\ ∀ k, devS D av' k -> devS D av k \/ w.heap.size <= k := by
 have hn := h.lt
 have HD := Lib.hid h;obtain ⟨k, L, hk, hL, hO⟩ := h.acts
 have HO := Lib.hid hO;have HL := Lib.hid hL;have hd := (Array.getElem?_eq_some_iff.1 h.blk).1
 obtain ⟨w1, hw1⟩ : ∃ w1, w1 = w.alloc (.cells (actV x).toArray 190) := ⟨_, rfl⟩
 have hb1 : Below w.heap.size w w1 := by rw [hw1]; exact (Below.refl _ w).alloc (Nat.le_refl _) _
 have hd1 : Dev w1 D av N := (h.on.below hb1).holds
 have hx1 : w1.heap[w.heap.size]? = some (.cells (actV x).toArray 190 (0, 0)) := by rw [hw1]; exact World.alloc_heap_new _ _
 have c2 : w1.cell? ⟨D.d, 2, none⟩ = some (.int .i64 0) := (cells_atK hd1.blk 2).trans rfl
 have c4 : w1.cell? ⟨D.d, 4, none⟩ = some av := (cells_atK hd1.blk 4).trans rfl
 have HB1 := Lib.hid hb1;have HD1 := Lib.hid hd1;have HX1 := Lib.hid hx1;have HW1 := Lib.hid hw1;have HDL := Lib.hid hd;have HO1 : Hid (w1.ownsRow 0 190 3 av k (cellsK actV L)) := Lib.hid ((On.own hO).below hb1).holds
 clear h hO hb1 hd1 hx1 hL hd;obtain ⟨va, vc, rfl⟩ := own_sl HO.out
 obtain ⟨x1, x2, x3⟩ := x
 simp only
 go_enter Tryz.func85, Tryz.ntmps85
 go_upto_region 1 with fail
 rw [show w.alloc (Obj.cells #[Value.int IntKind.i64 x1, Value.int IntKind.i64 x2, Value.int IntKind.i64 x3] 190) = w1 from hw1.symm]
 by_cases hlt : k < 16384
 ·have dl : (k : Int) < 16384 := by omega
  have HLT := Lib.hid hlt;clear hlt hk hn hw1
  go_upto_region 7 with fail
  refine regionNvAct D.d w.heap.size (.slice va k vc) (x1, x2, x3) w1.heap.size w1 c4 (Nat.lt_of_lt_of_le HDL.out HB1.out.size) HX1.out (Nat.le_refl _) ?_ ?_
  ·intro vs w5 hv hk5
   have v4 : vs 4 = .slice va k vc := hv 4 (by omega)
   obtain ⟨b6, v6, z6, f6⟩ := hv 6 (by omega)
   have v0 : vs 0 = .pointer (some ⟨D.d, 0, none⟩) := hv 0 (by omega)
   rw [v0, v4, v6]
   clear v4 v6 v0;have HO5 : Hid (w5.ownsRow 0 190 3 (.slice va k vc) k (cellsK actV L)) := Lib.hid ((On.own HO1.out).below hk5).holds
   have HB5 : Hid (Below w.heap.size w w5) := Lib.hid (HB1.out.trans (hk5.mono HB1.out.size))
   have HF6 : Hid (RowK actV 3 w5 (some ⟨b6, 0, none⟩) [(x1, x2, x3)]) := Lib.hid (rowK_one (fun _ => rfl) f6)
   clear hv hk5 z6 f6;refine actRT.wpList_append_at rfl (.tmp 38) (.tmp 40) rfl (base := 0) (v := .slice va k vc) (n := k) (L := L) rfl HO5.out (a := some ⟨b6, 0, none⟩) (m := 1) (cap := 1) (M := [(x1, x2, x3)]) rfl rfl HF6.out (fun h => by cases h) (by rintro _ ⟨⟩; rfl) (by have := HLT.out; unfold maxLen; omega) (by have := HLT.out; omega) (Nat.zero_le _) ?_
   intro v7 w7 hown7 hgr7 hnil7 hat7;obtain ⟨a7, c7, rfl⟩ := own_sl hown7
   have hfin := Dev.acted HD.out HB5.out (by have := HLT.out; omega) (by rw [List.length_append, HL.out]; rfl) hown7 hgr7 hat7
   have HFIN := Lib.hid hfin;have e6 := (hgr7.block D.d (Nat.lt_of_lt_of_le HDL.out HB5.out.size) (fun e => HD.out.ne.2.1 e.symm)).trans ((HB5.out.block _ HDL.out).trans HD.out.blk)
   have c47 : w7.cell? ⟨D.d, 4, none⟩ = some (.slice va k vc) := (cells_atK e6 4).trans rfl
   have f47 := frozen_no e6 4
   clear hown7 hgr7 hnil7 hat7 hfin e6 c2 c4;go_wp2
   go_ret
   exact ⟨rfl, _, HFIN.out⟩
  ·intro vs w5 hv hk5
   have v4 : vs 4 = .slice va k vc := hv 4 (by omega) (by omega)
   obtain ⟨b6, v6, z6, f6⟩ := hv 6 (by omega) (by omega)
   rw [v4, v6]
   clear v4 v6;have HO5 : Hid (w5.ownsRow 0 190 3 (.slice va k vc) k (cellsK actV L)) := Lib.hid ((On.own HO1.out).below hk5).holds
   have HB5 : Hid (Below w.heap.size w w5) := Lib.hid (HB1.out.trans (hk5.mono HB1.out.size))
   have HF6 : Hid (RowK actV 3 w5 (some ⟨b6, 0, none⟩) [(x1, x2, x3)]) := Lib.hid (rowK_one (fun _ => rfl) f6)
   clear hv hk5 z6 f6;refine actRT.wpList_append_at rfl (.tmp 38) (.tmp 40) rfl (base := 0) (v := .slice va k vc) (n := k) (L := L) rfl HO5.out (a := some ⟨b6, 0, none⟩) (m := 1) (cap := 1) (M := [(x1, x2, x3)]) rfl rfl HF6.out (fun h => by cases h) (by rintro _ ⟨⟩; rfl) (by have := HLT.out; unfold maxLen; omega) (by have := HLT.out; omega) (Nat.zero_le _) ?_
   intro v7 w7 hown7 hgr7 hnil7 hat7;obtain ⟨a7, c7, rfl⟩ := own_sl hown7
   have hfin := Dev.acted HD.out HB5.out (by have := HLT.out; omega) (by rw [List.length_append, HL.out]; rfl) hown7 hgr7 hat7
   have HFIN := Lib.hid hfin;have e6 := (hgr7.block D.d (Nat.lt_of_lt_of_le HDL.out HB5.out.size) (fun e => HD.out.ne.2.1 e.symm)).trans ((HB5.out.block _ HDL.out).trans HD.out.blk)
   have c47 : w7.cell? ⟨D.d, 4, none⟩ = some (.slice va k vc) := (cells_atK e6 4).trans rfl
   have f47 := frozen_no e6 4
   clear hown7 hgr7 hnil7 hat7 hfin e6 c2 c4;simp only [opsNvAct, List.getElem_toArray, List.getElem_cons_succ, List.getElem_cons_zero, List.drop_succ_cons, List.drop_zero]
   go_wp2
   go_ret
   exact ⟨rfl, _, HFIN.out⟩
 ·have dl : ¬ (k : Int) < 16384 := by omega
  clear hlt hk hn hw1;go_wp2
  go_ret
  exact ⟨rfl, _, HD1.out, Lib.hid (Chg.of_below HB1.out), fun k hk => .inl hk⟩
def splL (N : List Nat) (p : Nat) (l : List Nat) : List Nat := N.take p ++ l ++ N.drop (p + l.length)
theorem splL_nil (N : List Nat) (p : Nat) : splL N p [] = N := by simp [splL]
theorem splL_len {N : List Nat} {p : Nat} {l : List Nat} (h : p + l.length <= N.length) : (splL N p l).length = N.length := by
 simp [splL]; omega
theorem splL_get {N : List Nat} {p : Nat} {l : List Nat} (h : p + l.length <= N.length) (i : Nat) : (splL N p l)[i]? = if p <= i /\ i < p + l.length then l[i - p]? else N[i]? := by
 unfold splL;rw [List.append_assoc, List.getElem?_append, List.getElem?_append]
 simp only [List.length_take, List.getElem?_take, List.getElem?_drop, show min p N.length = p by omega]
 split
 ·next h1 => rw [if_neg (by omega)]
 ·next h1 =>
  split
  ·next h2 => rw [if_pos (by omega)]
  ·next h2 => rw [if_neg (by omega)]; congr 1; omega
theorem splL_set {N : List Nat} {p : Nat} {l : List Nat} (h : p + l.length <= N.length) (i : Nat) (hi : i < l.length) : splL N p (l.take (i + 1)) = (splL N p (l.take i)).set (p + i) (l.getD i 0) := by
 apply List.ext_getElem?
 intro j;have h1 : (l.take (i + 1)).length = i + 1 := by simp; omega
 have h2 : (l.take i).length = i := by simp; omega
 rw [List.getElem?_set, splL_get (by rw [h1]; omega), splL_get (by rw [h2]; omega), splL_len (by rw [h2]; omega), h1, h2]
 by_cases e : p + i = j
 ·subst e
  rw [if_pos rfl, if_pos (by omega), if_pos (by omega)]
  simp [List.getElem?_take, List.getD, hi]
 ·rw [if_neg e]
  by_cases h3 : p <= j /\ j < p + i
  ·rw [if_pos (by omega), if_pos h3, List.getElem?_take, List.getElem?_take, if_pos (by omega), if_pos (by omega)]
  ·rw [if_neg (by omega), if_neg h3]
theorem bytesAt_chg {S : BSet} {w w' : World} {a : Option Addr} {cap : Nat} {l : List Nat} (h : BytesAt w a cap l) (hc : Chg S w w') (ha : ∀ q, a = some q -> ¬ S q.block) : BytesAt w' a cap l := by
 refine ⟨h.1, fun h0 => ?_⟩
 obtain ⟨g, o, h1, h2, h3, h4⟩ := h.2 h0
 subst h1;have hk := hc.block g h3 (ha _ rfl)
 exact ⟨g, o, rfl, h2, Nat.lt_of_lt_of_le h3 hc.size, fun j hj => by rw [<- h4 j hj]; simp [World.cell?, hk]⟩
theorem devStore_c {D : DevB} {av : Value} {N : List Nat} (p n : Nat) (a : Option Addr) (cap : Nat) (l : List Nat) (hl : l.length = n) (hp : p + n <= 8 * D.n) (w : World) (h : Dev w D av N) (hB : BytesAt w a cap l) (ha : ∀ q, a = some q -> ¬ devS D av q.block /\ q.block < w.heap.size) :
  Calls Tryz.prog 315 #[.pointer (some ⟨D.d, 0, none⟩), .int .i64 (p : Int), .slice a n cap] w fun r w' => r = .returned (.int .i64 0) /\ ∃ av', Dev w' D av' (splL N p l) /\ Chg (devS D av) w w' /\ ∀ k, devS D av' k -> devS D av k \/ w.heap.size <= k := by
 have hn := h.lt
 have HRD := Lib.hid (devReady_c w h p n hp)
 have HD := Lib.hid h;have HB := Lib.hid hB;have HA := Lib.hid ha;have HL := Lib.hid hl;have HP := Lib.hid hp;have HN := Lib.hid hn;clear h hB ha hl hp hn
 go_enter Tryz.func315, Tryz.ntmps315
 go_wp2_with fail
 refine HRD.out.mono ?_
 rintro r w1 ⟨rfl, hb1⟩
 have HD1 := Lib.hid (HD.out.on.below hb1).holds
 have HB1 := Lib.hid hb1;have HAC := Lib.hid (devAct_c (1, (p : Int), (n : Int)) w1 HD1.out)
 clear hb1 HRD;go_wp2_with fail
 refine HAC.out.mono ?_
 rintro r w2 ⟨rfl, av2, hd2, hc2, hs2⟩
 have HD2 := Lib.hid hd2;have HC2 : Hid (Chg (devS D av) w w2) := Lib.hid ((Chg.of_below HB1.out).trans' hc2)
 have HS2 : Hid (∀ k, devS D av2 k -> devS D av k \/ w.heap.size <= k) := Lib.hid fun k hk => (hs2 k hk).imp id fun e => Nat.le_trans HB1.out.size e
 have HBY2 := Lib.hid (bytesAt_chg HB.out HC2.out fun q hq => (HA.out q hq).1)
 clear hd2 hc2 hs2 HAC;go_wp2
 go_loopw [30] (fun v30 wr => ∃ k : Nat, k <= n /\ v30 = .int .i64 (k : Int) /\ Hid (Dev wr D av2 (splL N p (l.take k))) /\ Hid (Chg (· = D.wb) w2 wr)) (fun v30 _ => n - (intOf v30).toNat)
 case atStart => exact ⟨0, Nat.zero_le _, rfl, by rw [List.take_zero, splL_nil]; exact HD2.out, Chg.refl _ _⟩
 case round =>
  obtain ⟨k, hk, rfl, hdv, hch⟩ := hrel
  by_cases hlt : k < n
  ·have dl : (k : Int) < (n : Int) := by omega
   obtain ⟨q, o, rfl, hsp, hq, hcells⟩ := HBY2.out.2 (by rw [HL.out]; omega)
   have hP := HP.out
   have hN := HN.out
   have hln := HL.out
   have c0 : wr.cell? ⟨D.d, 0, none⟩ = some (.slice (some ⟨D.wb, 0, none⟩) D.n D.n) := (cells_atK hdv.out.blk 0).trans rfl
   have cq : wr.cell? ⟨q, o + k, none⟩ = some (.int .u8 ((l.getD k 0 : Nat) : Int)) := by
    have hb := (hch.out.block q hq (fun e => (HA.out _ rfl).1 (.inr (.inl e))))
    have h1 := hcells k (by omega)
    rw [<- h1]; simp [World.cell?, hb]
   obtain ⟨B, hB, hW⟩ := hdv.out.words
   obtain ⟨m, hm⟩ : ∃ m, m = (p + k) / 8 := ⟨_, rfl⟩
   have hmn : m < D.n := by omega
   have ho : 18 * m + (8 + (p + k) % 8) = m * 18 + 8 + (p + k) % 8 := by omega
   have cw := (cells_atK hB (18 * m + (8 + (p + k) % 8))).trans (hW.now m ((p + k) % 8) hmn (by omega))
   have fw := frozen_no hB (18 * m + (8 + (p + k) % 8))
   have hB2 := setW_block hB (18 * m + (8 + (p + k) % 8)) (.int .u8 ((l.getD k 0 : Nat) : Int))
   have hW2 := hW.setNow m ((p + k) % 8) hmn (by omega) (l.getD k 0) (getD_lt HB.out.1 k)
   rw [ho] at cw fw hB2 hW2;obtain ⟨_, _, hWN⟩ := HD.out.words
   have hLN := hWN.len
   clear hWN;rw [show 8 * m + (p + k) % 8 = p + k by omega, <- splL_set (by rw [hLN, hln]; exact hP) k (by omega)] at hW2
   have hm0 : ¬ (m : Int) < 0 := by omega
   have hmD : (m : Int) < (D.n : Int) := by omega
   have ek : IntKind.i64.wrap ((k : Int) + 1) = (k : Int) + 1 := IntWalk.i64_in _ (by omega)
   have ep : IntKind.i64.wrap ((p : Int) + (k : Int)) = ((p + k : Nat) : Int) := by rw [IntWalk.i64_in _ (by omega)]; omega
   have hq8 : wrap64 (((p : Int) + (k : Int)).tdiv 8) = (m : Int) := by
    have ht : ((p : Int) + (k : Int)).tdiv 8 = (m : Int) := by rw [Int.tdiv_eq_ediv_of_nonneg (by omega)]; omega
    rw [ht];exact IntWalk.wrap64_in _ (by omega)
   have HE : Hid (Dev (wr.setCell ⟨D.wb, m * 18 + 8 + (p + k) % 8, none⟩ (.int .u8 ((l.getD k 0 : Nat) : Int))) D av2 (splL N p (l.take (k + 1)))) :=
    Lib.hid (hdv.out.words_to (Chg.setCell (S := (· = D.wb)) wr D.wb _ _ rfl) ⟨_, hB2, hW2⟩)
   have HC : Hid (Chg (· = D.wb) w2 (wr.setCell ⟨D.wb, m * 18 + 8 + (p + k) % 8, none⟩ (.int .u8 ((l.getD k 0 : Nat) : Int)))) := Lib.hid (hch.out.trans' (Chg.setCell (S := (· = D.wb)) wr D.wb _ _ rfl))
   clear hm ho hB hW hB2 hW2 hdv hch hcells;clear hP hN hln;go_wp2
   go_roundw
   case rel => exact ⟨k + 1, by omega, by go_num, HE.out, HC.out⟩
   case measure => simp [intOf]; omega
  ·have dl : ¬ (k : Int) < (n : Int) := by omega
   have hkn : k = n := by omega
   subst hkn;have hsp : l.take k = l := by rw [<- HL.out]; exact List.take_length
   rw [hsp] at hdv;have HC3 : Hid (Chg (devS D av) w wr) := Lib.hid (HC2.out.trans hch.out fun i hi => .inl (.inr (.inl hi)))
   by_cases hk0 : k = 0
   ·have dk : (k : Int) = 0 := by omega
    have dk' : ¬ (0 : Int) < (k : Int) := by omega
    go_wp2
    go_ret
    exact ⟨rfl, av2, hdv.out, HC3.out, HS2.out⟩
   ·have dk : (0 : Int) < (k : Int) := by omega
    have hP := HP.out
    have hN := HN.out
    obtain ⟨m, hm⟩ : ∃ m, m = p / 8 := ⟨_, rfl⟩
    obtain ⟨m2, hm2⟩ : ∃ m2, m2 = (p + k - 1) / 8 := ⟨_, rfl⟩
    have HEA := Lib.hid (devEach_c stored_w m (m2 + 1) (by omega) (by omega) wr hdv.out)
    have t1 : (p : Int) / 8 = (m : Int) := by omega
    have t2 : ((p : Int) + (k : Int) - 1).tdiv 8 = (m2 : Int) := by rw [Int.tdiv_eq_ediv_of_nonneg (by omega)]; omega
    have w00 : wrap64 ((p : Int) + (k : Int)) = (p : Int) + (k : Int) := IntWalk.wrap64_in _ (by omega)
    have w0 : wrap64 ((p : Int) + (k : Int) - 1) = (p : Int) + (k : Int) - 1 := IntWalk.wrap64_in _ (by clear w00; omega)
    have w1 : wrap64 (m : Int) = (m : Int) := IntWalk.wrap64_in _ (by clear w0 w00; omega)
    have w2 : wrap64 (m2 : Int) = (m2 : Int) := IntWalk.wrap64_in _ (by clear w0 w00 w1; omega)
    have w3 : wrap64 ((m2 : Int) + 1) = ((m2 + 1 : Nat) : Int) := IntWalk.wrap64_in _ (by clear w0 w00 w1 w2; omega)
    have Q1 : Hid (wrap64 ((p : Int) / 8) = (m : Int)) := Lib.hid (by rw [t1]; exact w1)
    have Q2 : Hid (wrap64 (wrap64 ((wrap64 (wrap64 ((p : Int) + (k : Int)) - 1)).tdiv 8) + 1) = ((m2 + 1 : Nat) : Int)) := Lib.hid (by rw [w00, w0, t2, w2]; exact w3)
    clear w0 w00 w1 w2 w3 t1 t2;clear hP hN hm hm2;go_wp2_with fail
    rw [Q1.out, Q2.out]
    refine HEA.out.mono ?_
    rintro r w5 ⟨⟨u, rfl⟩, hd5, hc5⟩
    have HF : Hid (∃ av', Dev w5 D av' (splL N p l) /\ Chg (devS D av) w w5 /\ ∀ k, devS D av' k -> devS D av k \/ w.heap.size <= k) := Lib.hid ⟨av2, hd5, HC3.out.trans hc5 fun i hi => .inl (.inr (.inl hi)), HS2.out⟩
    clear hd5 hc5 HEA Q1 Q2;go_wp2
    go_ret
    exact ⟨rfl, HF.out⟩
theorem devDo_c {D : DevB} {av : Value} {N : List Nat} (w : World) (h : Dev w D av N) :
  Calls Tryz.prog 69 #[.pointer (some ⟨D.d, 0, none⟩)] w fun r w' => r = .returned (.int .i64 0) /\ ∃ av', Dev w' D av' N /\ Chg (devS D av) w w' /\ ∀ k, devS D av' k -> devS D av k \/ w.heap.size <= k := by
 have HRD : Hid (Calls Tryz.prog 84 #[.pointer (some ⟨D.d, 0, none⟩), .int .i64 0, .int .i64 0] w fun r w' => r = .returned (.int .i64 0) /\ Below w.heap.size w w') := Lib.hid (devReady_c w h 0 0 (Nat.zero_le _))
 have HD := Lib.hid h;clear h
 go_enter Tryz.func69, Tryz.ntmps69
 go_wp2_with fail
 refine HRD.out.mono ?_
 rintro r w1 ⟨rfl, hb1⟩
 have HD1 := Lib.hid (HD.out.on.below hb1).holds
 have HB1 := Lib.hid hb1;have HAC := Lib.hid (devAct_c (4, 0, 0) w1 HD1.out)
 clear hb1 HRD;go_wp2_with fail
 refine HAC.out.mono ?_
 rintro r w2 ⟨rfl, av2, hd2, hc2, hs2⟩
 have HF : Hid (∃ av', Dev w2 D av' N /\ Chg (devS D av) w w2 /\ ∀ k, devS D av' k -> devS D av k \/ w.heap.size <= k) := Lib.hid ⟨av2, hd2, (Chg.of_below HB1.out).trans' hc2, fun k hk => (hs2 k hk).imp id fun e => Nat.le_trans HB1.out.size e⟩
 clear hd2 hc2 hs2 HAC;go_wp2
 go_ret
 exact ⟨rfl, HF.out⟩
theorem devFence_c {D : DevB} {av : Value} {N : List Nat} (w : World) (h : Dev w D av N) :
  Calls Tryz.prog 204 #[.pointer (some ⟨D.d, 0, none⟩)] w fun r w' => r = .returned (.int .i64 0) /\ ∃ av', Dev w' D av' N /\ Chg (devS D av) w w' /\ ∀ k, devS D av' k -> devS D av k \/ w.heap.size <= k := by
 have HRD : Hid (Calls Tryz.prog 84 #[.pointer (some ⟨D.d, 0, none⟩), .int .i64 0, .int .i64 0] w fun r w' => r = .returned (.int .i64 0) /\ Below w.heap.size w w') := Lib.hid (devReady_c w h 0 0 (Nat.zero_le _))
 have HD := Lib.hid h;clear h
 go_enter Tryz.func204, Tryz.ntmps204
 go_wp2_with fail
 refine HRD.out.mono ?_
 rintro r w1 ⟨rfl, hb1⟩
 have HD1 := Lib.hid (HD.out.on.below hb1).holds
 have HB1 := Lib.hid hb1;have HAC := Lib.hid (devAct_c (3, 0, 0) w1 HD1.out)
 clear hb1 HRD;go_wp2_with fail
 refine HAC.out.mono ?_
 rintro r w2 ⟨rfl, av2, hd2, hc2, hs2⟩
 have HEA : Hid (Calls Tryz.prog 261 #[.pointer (some ⟨D.d, 0, none⟩), .int .i64 0, .int .i64 (D.n : Int), .func (.func 262) #[] #[]] w2 fun r w' => (∃ u, r = .returned u) /\ Dev w' D av2 N /\ Chg (· = D.wb) w2 w') := Lib.hid (devEach_c fenced_w 0 D.n (Nat.zero_le _) (Nat.le_refl _) w2 hd2)
 have HC2 : Hid (Chg (devS D av) w w2) := Lib.hid ((Chg.of_below HB1.out).trans' hc2)
 have HS2 : Hid (∀ k, devS D av2 k -> devS D av k \/ w.heap.size <= k) := Lib.hid fun k hk => (hs2 k hk).imp id fun e => Nat.le_trans HB1.out.size e
 have c0 : w2.cell? ⟨D.d, 0, none⟩ = some (.slice (some ⟨D.wb, 0, none⟩) D.n D.n) := (cells_atK hd2.blk 0).trans rfl
 clear hd2 hc2 hs2 HAC;go_wp2_with fail
 refine HEA.out.mono ?_
 rintro r w5 ⟨⟨u, rfl⟩, hd5, hc5⟩
 have HF : Hid (∃ av', Dev w5 D av' N /\ Chg (devS D av) w w5 /\ ∀ k, devS D av' k -> devS D av k \/ w.heap.size <= k) := Lib.hid ⟨av2, hd5, HC2.out.trans hc5 fun i hi => .inl (.inr (.inl hi)), HS2.out⟩
 clear hd5 hc5 HEA c0;go_wp2
 go_ret
 exact ⟨rfl, HF.out⟩
theorem devFlush_c {D : DevB} {av : Value} {N : List Nat} (p n : Nat) (hp : p + n <= 8 * D.n) (h8 : D.n % 8 = 0) (w : World) (h : Dev w D av N) :
  Calls Tryz.prog 316 #[.pointer (some ⟨D.d, 0, none⟩), .int .i64 (p : Int), .int .i64 (n : Int)] w fun r w' => r = .returned (.int .i64 0) /\ ∃ av', Dev w' D av' N /\ Chg (devS D av) w w' /\ ∀ k, devS D av' k -> devS D av k \/ w.heap.size <= k := by
 have hn := h.lt
 have HRD := Lib.hid (devReady_c w h p n hp)
 have HD := Lib.hid h;have HP := Lib.hid hp;have HN := Lib.hid hn;have H8 := Lib.hid h8;clear h hp hn h8
 go_enter Tryz.func316, Tryz.ntmps316
 go_wp2_with fail
 refine HRD.out.mono ?_
 rintro r w1 ⟨rfl, hb1⟩
 have HD1 := Lib.hid (HD.out.on.below hb1).holds
 have HB1 := Lib.hid hb1;have HAC := Lib.hid (devAct_c (2, (p : Int), (n : Int)) w1 HD1.out)
 clear hb1 HRD;go_wp2_with fail
 refine HAC.out.mono ?_
 rintro r w2 ⟨rfl, av2, hd2, hc2, hs2⟩
 have HD2 := Lib.hid hd2;have HC2 : Hid (Chg (devS D av) w w2) := Lib.hid ((Chg.of_below HB1.out).trans' hc2)
 have HS2 : Hid (∀ k, devS D av2 k -> devS D av k \/ w.heap.size <= k) := Lib.hid fun k hk => (hs2 k hk).imp id fun e => Nat.le_trans HB1.out.size e
 clear hd2 hc2 hs2 HAC
 by_cases hk0 : n = 0
 ·have dk : (n : Int) = 0 := by omega
  have dk' : ¬ (0 : Int) < (n : Int) := by omega
  go_wp2
  go_ret
  exact ⟨rfl, av2, HD2.out, HC2.out, HS2.out⟩
 ·have dk : (0 : Int) < (n : Int) := by omega
  have hP := HP.out
  have hN := HN.out
  have h8 := H8.out
  obtain ⟨m, hm⟩ : ∃ m, m = p / 64 := ⟨_, rfl⟩
  obtain ⟨m2, hm2⟩ : ∃ m2, m2 = (p + n - 1) / 64 := ⟨_, rfl⟩
  have HEA := Lib.hid (devEach_c flushed_w (m * 8) ((m2 + 1) * 8) (by omega) (by omega) w2 HD2.out)
  have t1 : (p : Int) / 64 = (m : Int) := by omega
  have t2 : ((p : Int) + (n : Int) - 1).tdiv 64 = (m2 : Int) := by rw [Int.tdiv_eq_ediv_of_nonneg (by omega)]; omega
  have hm9 : m2 < 100000 := by omega
  have hm8 : m < 100000 := by omega
  have w00 : wrap64 ((p : Int) + (n : Int)) = (p : Int) + (n : Int) := IntWalk.wrap64_in _ (by omega)
  have w0 : wrap64 ((p : Int) + (n : Int) - 1) = (p : Int) + (n : Int) - 1 := IntWalk.wrap64_in _ (by clear w00; omega)
  have x1 : (m : Int) * 8 = ((m * 8 : Nat) : Int) := by push_cast; rfl
  have x2 : ((m2 : Int) + 1) * 8 = (((m2 + 1) * 8 : Nat) : Int) := by push_cast; rfl
  have X1 := Lib.hid x1
  have X2 := Lib.hid x2
  clear hP hN h8 hm hm2 x1 x2;go_wp2_with fail
  rw [X1.out, X2.out]
  refine HEA.out.mono ?_
  rintro r w5 ⟨⟨u, rfl⟩, hd5, hc5⟩
  have HF : Hid (∃ av', Dev w5 D av' N /\ Chg (devS D av) w w5 /\ ∀ k, devS D av' k -> devS D av k \/ w.heap.size <= k) := Lib.hid ⟨av2, hd5, HC2.out.trans hc5 fun i hi => .inl (.inr (.inl hi)), HS2.out⟩
  clear hd5 hc5 HEA w0 w00 t1 t2;go_wp2
  go_ret
  exact ⟨rfl, HF.out⟩
def zWord : Array Value := #[.int .u8 0, .int .u8 0, .int .u8 0, .int .u8 0, .int .u8 0, .int .u8 0, .int .u8 0, .int .u8 0, .int .u8 0, .int .u8 0, .int .u8 0, .int .u8 0, .int .u8 0, .int .u8 0, .int .u8 0, .int .u8 0, .bool false, .bool false]
theorem wordInfo : (Tryz.prog.info? 238).map (fun i => (i.zero, i.size, i.bytes)) = some (some (.agg zWord), 18, 18) := by kernel_rfl
theorem wds_zero (n : Nat) : Wds (madeCells zWord (n * 18)) n (List.replicate (8 * n) 0) := by
 have hg : ∀ i, i < n * 18 -> (madeCells zWord (n * 18))[i]? = zWord[i % 18]? := fun i hi => by
  have h18 : i % 18 < 18 := Nat.mod_lt _ (by omega)
  have hz : zWord.size = 18 := rfl
  simp [madeCells, hi, hz]
  rw [getElem!_pos zWord (i % 18) (by rw [hz]; exact h18), Array.getElem?_eq_getElem (by rw [hz]; exact h18)]
 refine ⟨by rw [size_madeCells, Nat.mul_comm], by simp, fun x hx => by rw [List.eq_of_mem_replicate hx]; omega, fun k j hk hj => ?_, fun k j hk hj => ⟨0, by omega, ?_⟩, fun k hk => ⟨false, ?_⟩, fun k hk => ⟨false, ?_⟩⟩
 ·rw [hg _ (by omega), show (18 * k + (8 + j)) % 18 = 8 + j by omega]
  have e0 : (List.replicate (8 * n) 0).getD (8 * k + j) 0 = 0 := by simp [List.getD, List.getElem?_replicate, show 8 * k + j < 8 * n by omega]
  rw [e0];rcases cs8 hj with rfl | rfl | rfl | rfl | rfl | rfl | rfl | rfl <;> rfl
 ·rw [hg _ (by omega), show (18 * k + j) % 18 = j by omega]
  rcases cs8 hj with rfl | rfl | rfl | rfl | rfl | rfl | rfl | rfl <;> rfl
 ·rw [hg _ (by omega), show (18 * k + 16) % 18 = 16 by omega]; rfl
 ·rw [hg _ (by omega), show (18 * k + 17) % 18 = 17 by omega]; rfl
theorem mk_words (n : Nat) (hn : n <= 8192) (w : World) :
  (Instr.makeSlice 156 (.int .i64 (n : Int)) (.int .i64 (n : Int))).run Tryz.prog w = .ok (.slice (some ⟨w.heap.size, 0, none⟩) n n) (w.alloc (.cells (madeCells zWord (n * 18)) 238)) := by
 obtain ⟨i, hi, hh⟩ := Option.map_eq_some_iff.1 wordInfo
 simp only [Prod.mk.injEq] at hh
 obtain ⟨hz, hs, hb⟩ := hh
 have h := run_makeSlice (P := Tryz.prog) w 156 238 i (.agg zWord) Tryz.underlying156 hi hz .i64 .i64 (n : Int) (n : Int) (by omega) (Int.le_refl _) (by rw [hs]; omega) (by rw [hb]; omega) (by omega)
 rw [h, Int.toNat_natCast, hs]
 rfl
theorem devNew_c (n : Nat) (h1 : 1 <= n) (hn : n <= 1024) (w : World) :
  Calls Tryz.prog 46 #[.int .i64 (n : Int)] w fun r w' => ∃ D, r = .returned (.pointer (some ⟨D.d, 0, none⟩)) /\ D.n = 8 * n /\ Dev w' D (.slice none 0 0) (List.replicate (64 * n) 0) /\ w.heap.size <= D.d /\ w.heap.size <= D.wb /\ Below w.heap.size w w' := by
 have hcast : ((8 * n : Nat) : Int) = 8 * (n : Int) := by push_cast; rfl
 have hmk := mk_words (8 * n) (by omega)
 rw [hcast] at hmk;have e1 : max (n : Int) 0 = (n : Int) := by omega
 have e2 : min (n : Int) 1024 = (n : Int) := by omega
 have e3 : IntKind.i64.wrap (8 * (n : Int)) = ((8 * n : Nat) : Int) := by rw [IntWalk.i64_in _ (by omega)]; omega
 have HE : Hid (Dev ((w.alloc (.cells (madeCells zWord (8 * n * 18)) 238)).alloc (.cells #[.slice (some ⟨w.heap.size, 0, none⟩) (8 * n) (8 * n), .bool false, .int .i64 0, .slice none 0 0, .slice none 0 0] 159)) ⟨w.heap.size + 1, w.heap.size, 8 * n⟩ (.slice none 0 0) (List.replicate (64 * n) 0)) := by
  refine Lib.hid ⟨?_, ⟨_, (Below.heap_alloc _ _ _ (by show w.heap.size < _; rw [World.size_alloc]; omega)).trans (World.alloc_heap_new _ _), ?_⟩, ⟨0, [], by omega, rfl, ⟨by simp [cellsK], .inl ⟨rfl, rfl⟩⟩⟩, by show 8 * n <= 8192; omega, Nat.succ_ne_self _, by simp [Value.ownBlock], by simp [Value.ownBlock]⟩
  ·have := World.alloc_heap_new (w.alloc (.cells (madeCells zWord (8 * n * 18)) 238)) (.cells #[.slice (some ⟨w.heap.size, 0, none⟩) (8 * n) (8 * n), .bool false, .int .i64 0, .slice none 0 0, .slice none 0 0] 159)
   rwa [World.size_alloc] at this
  ·rw [show 64 * n = 8 * (8 * n) by omega]; exact wds_zero (8 * n)
 clear hn h1 hcast
 go_enter Tryz.func46, Tryz.ntmps46
 go_wp2
 go_ret
 refine ⟨⟨w.heap.size + 1, w.heap.size, 8 * n⟩, rfl, rfl, HE.out, Nat.le_succ _, Nat.le_refl _, ?_⟩
 exact ((Below.refl _ w).alloc (Nat.le_refl _) _).alloc (by rw [World.size_alloc]; omega) _
theorem devDown_c (w : World) {D : DevB} {av : Value} {N : List Nat} (h : Dev w D av N) :
  Calls Tryz.prog 68 #[.pointer (some ⟨D.d, 0, none⟩)] w fun r w' => r = .returned (.bool false) /\ w' = w := by
 have c1 : w.cell? ⟨D.d, 1, none⟩ = some (.bool false) := (cells_atK h.blk 1).trans rfl
 clear h
 go_enter Tryz.func68, Tryz.ntmps68
 go_wp2
 go_ret
 exact ⟨rfl, rfl⟩
def regA (c : Nat) (R : List Nat) : Array Value := #[.int .u64 (c : Int)] ++ bA R
theorem regA_size {c : Nat} {R : List Nat} (h : R.length = 32) : (regA c R).size = 33 := by simp [regA, bA_size, h]
theorem reg33 : (Tryz.prog.info? 116).map (·.size) = some 33 := by kernel_rfl
def trA (d c : Nat) (R : List Nat) : Array Value := regA c R ++ #[.func (.func 68) #[.pointer (some ⟨d, 0, none⟩)] #[], .func (.func 69) #[.pointer (some ⟨d, 0, none⟩)] #[]]
def TrAt (w : World) (t d c : Nat) (R : List Nat) : Prop := w.heap[t]? = some (.cells (trA d c R) 166 (0, 0))
theorem wpList_build_c {P : Program} {ops : Array Oper} {rest : List Oper} {o : Oper} {A : Act} {w : World} {Q : Exit -> Act -> World -> Prop} (hgd : o.guard = none) (t : TypeId) (parts : List (Nat × Operand)) (ho : o.op = .build t parts.toArray) (cells : Array Value)
  (hb : P.built t (parts.map fun (i, x) => (i, A.eval x)) = some cells) (h : wpList P ops Q rest (A.put o.dst (.agg cells)) w) : wpList P ops Q (o :: rest) A w := by
 have hb' : P.built t (parts.toArray.map fun (i, x) => (i, A.eval x)).toList = some cells := by rw [List.map_toArray]; exact hb
 exact wpList_plain hgd fun _ hK => wp_build t parts.toArray ho (by rw [hb']; rfl) (by rw [hb']; exact hK _ _ h)
theorem built_tr0 (d c a0 a1 a2 a3 a4 a5 a6 a7 a8 a9 a10 a11 a12 a13 a14 a15 a16 a17 a18 a19 a20 a21 a22 a23 a24 a25 a26 a27 a28 a29 a30 a31 : Nat) : Tryz.prog.built 166 [(0, .agg (regA c [a0, a1, a2, a3, a4, a5, a6, a7, a8, a9, a10, a11, a12, a13, a14, a15, a16, a17, a18, a19, a20, a21, a22, a23, a24, a25, a26, a27, a28, a29, a30, a31])), (1, .func (.func 68) #[.pointer (some ⟨d, 0, none⟩)] #[]), (2, .func (.func 69) #[.pointer (some ⟨d, 0, none⟩)] #[])] = some (trA d c [a0, a1, a2, a3, a4, a5, a6, a7, a8, a9, a10, a11, a12, a13, a14, a15, a16, a17, a18, a19, a20, a21, a22, a23, a24, a25, a26, a27, a28, a29, a30, a31]) := by kernel_rfl
theorem built_tr (d c : Nat) (R : List Nat) (hR : R.length = 32) : Tryz.prog.built 166 [(0, .agg (regA c R)), (1, .func (.func 68) #[.pointer (some ⟨d, 0, none⟩)] #[]), (2, .func (.func 69) #[.pointer (some ⟨d, 0, none⟩)] #[])] = some (trA d c R) := by
 match R, hR with
 | [a0, a1, a2, a3, a4, a5, a6, a7, a8, a9, a10, a11, a12, a13, a14, a15, a16, a17, a18, a19, a20, a21, a22, a23, a24, a25, a26, a27, a28, a29, a30, a31], _ => exact built_tr0 d c a0 a1 a2 a3 a4 a5 a6 a7 a8 a9 a10 a11 a12 a13 a14 a15 a16 a17 a18 a19 a20 a21 a22 a23 a24 a25 a26 a27 a28 a29 a30 a31
theorem trA_0 (d c : Nat) (R : List Nat) : (trA d c R)[0]? = some (.int .u64 (c : Int)) := by unfold trA regA; rw [Array.append_assoc, Array.getElem?_append_left (by simp)]; rfl
attribute [local irreducible] trA regA
theorem trAt_c (d c : Nat) (R : List Nat) (hR : R.length = 32) (w : World) :
  Calls Tryz.prog 49 #[.pointer (some ⟨d, 0, none⟩), .agg (regA c R)] w fun r w' => ∃ t, r = .returned (.pointer (some ⟨t, 0, none⟩)) /\ w.heap.size <= t /\ TrAt w' t d c R /\ Below w.heap.size w w' := by
 have HZ : Hid ((w.alloc (.cells (regA c R) 116)).heap[w.heap.size]? = some (.cells (regA c R) 116 (0, 0))) := Lib.hid (World.alloc_heap_new _ _)
 have H33 := Lib.hid (regA_size (c := c) hR)
 have HBT := Lib.hid (built_tr d c R hR)
 clear hR
 go_enter Tryz.func49, Tryz.ntmps49
 go_wp2_with (first
  | (refine wpList_build_c rfl 166 [(0, .tmp 7), (1, .tmp 9), (2, .tmp 11)] rfl (trA d c R) ?_ ?_; exact HBT.out)
  | (refine load_row_w rfl 116 (.tmp 3) rfl w.heap.size rfl _ _ _ _ HZ.out Tryz.underlying116 rfl (by rw [reg33, H33.out]) ?_)
  | fail)
 go_ret
 refine ⟨w.heap.size + 1, rfl, Nat.le_succ _, ?_, ((Below.refl _ w).alloc (Nat.le_refl _) _).alloc (by rw [World.size_alloc]; omega) _⟩
 have := World.alloc_heap_new (w.alloc (.cells (regA c R) 116)) (.cells (trA d c R) 166)
 rwa [World.size_alloc] at this
end Go.Proofs.YtnmdjggdgakeoaaGreat
namespace Go.Proofs.YtnmdjggdgakeoaaGreat
open Go Go.RowKit
theorem setC_block (b : Nat) (t : TypeId) : ∀ (vs : List Value) (o : Nat) (w : World) (A : Array Value), w.heap[b]? = some (.cells A t (0, 0)) ->
  ∃ A', (w.setCells b o vs).heap[b]? = some (.cells A' t (0, 0)) /\ A'.size = A.size /\ (∀ j, j < vs.length -> o + j < A.size -> A'[o + j]? = vs[j]?) /\ ∀ j, j < o \/ o + vs.length <= j -> A'[j]? = A[j]?
 | [], o, w, A, h => ⟨A, h, rfl, fun j hj => absurd hj (by simp), fun _ _ => rfl⟩
 | v :: vs, o, w, A, h => by
  obtain ⟨A', h1, h2, h3, h4⟩ := setC_block b t vs (o + 1) _ _ (setW_block h o v)
  refine ⟨A', h1, by simpa using h2, fun j hj hs => ?_, fun j hj => ?_⟩
  ·cases j with
   | zero =>
    rw [Nat.add_zero, h4 o (.inl (by omega))]
    simp only [Nat.add_zero] at hs
    simp [hs]
   | succ j =>
    have := h3 j (by simpa using hj) (by simp; omega)
    rw [show o + (j + 1) = o + 1 + j by omega, this]; rfl
  ·rw [h4 j (by simp at hj; omega)]
   have : o ≠ j := by simp at hj; omega
   simp [Array.getElem?_setIfInBounds, this]
theorem Chg.setCells {S : BSet} (b : Nat) (hb : S b) : ∀ (vs : List Value) (o : Nat) (w : World), Chg S w (w.setCells b o vs)
 | [], _, w => Chg.refl _ _
 | v :: vs, o, w => (Chg.setCell w b o v hb).trans' (Chg.setCells b hb vs (o + 1) _)
theorem below_setR {B : Nat} {a w : World} (h : Below B a w) (g : Nat) (hg : B <= g) (cs : Array Value) : Below B a (w.setRow g cs) :=
 ⟨h.os, h.tape, h.output, by show _ <= (w.heap.modify g _).size; rw [Array.size_modify]; exact h.size, fun k hk => by
  have hne : g ≠ k := by omega
  have e : (w.setRow g cs).heap[k]? = w.heap[k]? := by simp [World.setRow, Array.getElem?_modify, hne]
  exact e.trans (h.block k hk)⟩
theorem trA_size {d c : Nat} {R : List Nat} (h : R.length = 32) : (trA d c R).size = 35 := by unfold trA; rw [Array.size_append, regA_size h]; rfl
theorem trA_lo {d c : Nat} {R : List Nat} (h : R.length = 32) (j : Nat) (hj : j < 33) : (trA d c R)[j]? = (regA c R)[j]? := by unfold trA; rw [Array.getElem?_append_left (by rw [regA_size h]; exact hj)]
theorem trA_hi {d c c' : Nat} {R R' : List Nat} (h : R.length = 32) (h' : R'.length = 32) (j : Nat) (hj : 33 <= j) : (trA d c R)[j]? = (trA d c' R')[j]? := by
 unfold trA; rw [Array.getElem?_append_right (by rw [regA_size h]; exact hj), Array.getElem?_append_right (by rw [regA_size h']; exact hj), regA_size h, regA_size h']
theorem trA_33 {d c : Nat} {R : List Nat} (h : R.length = 32) : (trA d c R)[33]? = some (.func (.func 68) #[.pointer (some ⟨d, 0, none⟩)] #[]) := by
 unfold trA; rw [Array.getElem?_append_right (by rw [regA_size h]; omega), regA_size h]; rfl
theorem trA_34 {d c : Nat} {R : List Nat} (h : R.length = 32) : (trA d c R)[34]? = some (.func (.func 69) #[.pointer (some ⟨d, 0, none⟩)] #[]) := by
 unfold trA; rw [Array.getElem?_append_right (by rw [regA_size h]; omega), regA_size h]; rfl
theorem regA_0 (c : Nat) (R : List Nat) : (regA c R)[0]? = some (.int .u64 (c : Int)) := by unfold regA; rw [Array.getElem?_append_left (by simp)]; rfl
theorem regA_one {c : Nat} {R : List Nat} : (regA c R).all (·.oneCell') = true := by
 rw [Array.all_eq_true_iff_forall_mem];intro v hv;unfold regA at hv
 rcases Array.mem_append.1 hv with h | h
 ·simp at h; rw [h]; rfl
 ·simp [bA] at h; obtain ⟨a, _, rfl⟩ := h; rfl
theorem TrAt.set {w : World} {t d c c' : Nat} {R R' : List Nat} (h : TrAt w t d c R) (hR : R.length = 32) (hR' : R'.length = 32) : TrAt (w.setCells t 0 (regA c' R').toList) t d c' R' := by
 obtain ⟨A', h1, h2, h3, h4⟩ := setC_block t _ (regA c' R').toList 0 w _ h
 have hl : (regA c' R').toList.length = 33 := by rw [Array.length_toList, regA_size hR']
 have e : A' = trA d c' R' := by
  apply Array.ext_getElem?
  intro j
  by_cases hj : j < 33
  ·have := h3 j (by omega) (by rw [trA_size hR]; omega)
   rw [Nat.zero_add] at this;rw [this, trA_lo hR' j hj, Array.getElem?_toList]
  ·rw [h4 j (.inr (by omega)), trA_hi hR hR' j (by omega)]
 rw [e] at h1;exact h1
attribute [local irreducible] trA regA
theorem trSet_c {t c c' : Nat} {R R' : List Nat} {D : DevB} {av : Value} {N : List Nat} (hR : R.length = 32) (hR' : R'.length = 32) (hcc : c < c') (w : World) (h : TrAt w t D.d c R) (hD : Dev w D av N) (ht : ¬ devS D av t) :
  Calls Tryz.prog 202 #[.pointer (some ⟨t, 0, none⟩), .agg (regA c' R')] w fun r w' => r = .returned (.int .i64 0) /\ TrAt w' t D.d c' R' /\ ∃ av', Dev w' D av' N /\ Chg (fun i => i = t \/ devS D av i) w w' /\ ∀ k, devS D av' k -> devS D av k \/ w.heap.size <= k := by
 obtain ⟨w1, hw1⟩ : ∃ w1, w1 = w.alloc (.cells (regA c' R') 116) := ⟨_, rfl⟩
 have hb1 : Below w.heap.size w w1 := by rw [hw1]; exact (Below.refl _ w).alloc (Nat.le_refl _) _
 have hx1 : w1.heap[w.heap.size]? = some (.cells (regA c' R') 116 (0, 0)) := by rw [hw1]; exact World.alloc_heap_new _ _
 have htl := (Array.getElem?_eq_some_iff.1 h).1
 have h1 : TrAt w1 t D.d c R := (hb1.block _ htl).trans h
 have hD1 : Dev w1 D av N := (hD.on.below hb1).holds
 have ct0 : w1.cell? ⟨t, 0, none⟩ = some (.int .u64 (c : Int)) := (cells_atK h1 0).trans (trA_0 D.d c R)
 have ct33 := (cells_atK h1 33).trans (trA_33 hR)
 have ct34 := (cells_atK h1 34).trans (trA_34 hR)
 have cx0 : w1.cell? ⟨w.heap.size, 0, none⟩ = some (.int .u64 (c' : Int)) := (cells_atK hx1 0).trans (regA_0 c' R')
 have cd1 : w1.cell? ⟨D.d, 1, none⟩ = some (.bool false) := (cells_atK hD1.blk 1).trans rfl
 have HDV := Lib.hid hD1;have HLT : Hid (∀ k, devS D av k -> k < w.heap.size) := Lib.hid hD.on.lt
 have HDN := Lib.hid (devDown_c w1 hD1)
 have H33 := Lib.hid (regA_size (c := c') hR')
 have HX1 := Lib.hid hx1;have HT1 := Lib.hid h1;have HB1 := Lib.hid hb1;have HRR := Lib.hid (And.intro hR hR')
 have HTN := Lib.hid ht;have HTL := Lib.hid htl;have dcc : ¬ (c' : Int) <= (c : Int) := by omega
 clear h hD h1 hD1 hb1 hx1 ht hR hR' hcc htl
 go_enter Tryz.func202, Tryz.ntmps202
 go_upto_region 1 with fail
 rw [<- hw1];clear hw1
 go_upto_region 5 with fail
 refine HDN.out.mono ?_
 rintro r w2 ⟨rfl, hw2⟩
 subst hw2;clear cd1 ct33 HDN
 go_upto_region 5 with fail
 go_quiet (fail)
 have HD3 : Hid (Dev (w2.drewN nq) D av N) := Lib.hid (HDV.out.on.keep _ fun _ _ => rfl)
 have HDO := Lib.hid (devDo_c (w2.drewN nq) HD3.out)
 go_wp2_with fail
 refine HDO.out.mono ?_
 rintro r w3 ⟨rfl, av3, hd3, hc3, hs3⟩
 have ht3 : TrAt w3 t D.d c R := (hc3.block t (Nat.lt_of_lt_of_le HTL.out HB1.out.size) HTN.out).trans HT1.out
 have hx3 : w3.heap[w.heap.size]? = some (.cells (regA c' R') 116 (0, 0)) := (hc3.block _ (Array.getElem?_eq_some_iff.1 HX1.out).1 (fun e => by have := HLT.out _ e; omega)).trans HX1.out
 have HC3 : Hid (Chg (devS D av) w w3) := Lib.hid (((Chg.of_below HB1.out).trans' (Chg.drewN _ w2 nq)).trans' hc3)
 have hth : w3.there t 0 (regA c' R').size := fun j hj => by
  rw [H33.out] at hj;rw [Nat.zero_add];refine ⟨?_, frozen_no ht3 j⟩
  rw [cells_atK ht3 j, Array.getElem?_eq_getElem (by rw [trA_size HRR.out.1]; omega)]; rfl
 have hne : t ≠ D.d /\ t ≠ D.wb /\ av3.ownBlock ≠ some t := ⟨fun e => HTN.out (.inl e), fun e => HTN.out (.inr (.inl e)), fun e => by
  rcases hs3 t (.inr (.inr e)) with h | h
  ·exact HTN.out h
  ·have h1 := HTL.out; have h2 : w.heap.size <= (w2.drewN nq).heap.size := HB1.out.size; omega⟩
 have hfin : Dev (w3.setCells t 0 (regA c' R').toList) D av3 N := by
  have hcc := Chg.setCells (S := (· = t)) t rfl (regA c' R').toList 0 w3
  refine (hd3.on.chg hcc ?_).holds
  rintro k (hk | hk | hk) rfl
  ·exact hne.1 hk
  ·exact hne.2.1 hk
  ·exact hne.2.2 hk
 have HFIN : Hid (TrAt (w3.setCells t 0 (regA c' R').toList) t D.d c' R' /\ ∃ av', Dev (w3.setCells t 0 (regA c' R').toList) D av' N /\ Chg (fun i => i = t \/ devS D av i) w (w3.setCells t 0 (regA c' R').toList) /\ ∀ k, devS D av' k -> devS D av k \/ w.heap.size <= k) :=
  Lib.hid ⟨ht3.set HRR.out.1 HRR.out.2, av3, hfin, (HC3.out.mono fun k _ hk => .inr hk).trans' (Chg.setCells t (.inl rfl) _ _ _), fun k hk => (hs3 k hk).imp id fun e => Nat.le_trans HB1.out.size e⟩
 have HX3 := Lib.hid hx3;have HTH := Lib.hid hth;clear ht3 hx3 hc3 hs3 hd3 hth hne hfin HDO ct0 ct34 cx0;go_wp2_with (first
  | (refine load_row_w rfl 116 (.tmp 3) rfl w.heap.size rfl _ _ _ _ HX3.out Tryz.underlying116 rfl (by rw [reg33, H33.out]) ?_)
  | (refine wpList_store_mid rfl 116 (.tmp 35) (.tmp 33) rfl t 0 (regA c' R') rfl rfl HTH.out (by rw [reg33, H33.out]) regA_one ?_)
  | fail)
 go_ret
 exact ⟨rfl, HFIN.out⟩
theorem trRead_c {t d c : Nat} {R : List Nat} (hR : R.length = 32) (w : World) (h : TrAt w t d c R) :
  Calls Tryz.prog 158 #[.pointer (some ⟨t, 0, none⟩)] w fun r w' => r = .returned (.agg (regA c R)) /\ Below w.heap.size w w' := by
 have htl := (Array.getElem?_eq_some_iff.1 h).1
 have hal : ∀ o, TrAt (w.alloc o) t d c R := fun o => (Below.heap_alloc _ _ _ htl).trans h
 have hrg : ∀ o, (w.alloc o).rangeAt t 0 (regA c R).toList := fun o j u hu => by
  rw [Array.getElem?_toList] at hu
  have hj : j < 33 := by have := (Array.getElem?_eq_some_iff.1 hu).1; rwa [regA_size hR] at this
  rw [Nat.zero_add, cells_atK (hal o) j, trA_lo hR j hj]; exact hu
 have HZ : Hid (∀ A, (w.alloc (.cells A 116)).heap[w.heap.size]? = some (.cells A 116 (0, 0))) := Lib.hid fun A => World.alloc_heap_new _ _
 have HRG := Lib.hid hrg;have H33 := Lib.hid (regA_size (c := c) hR)
 clear h hal hrg
 go_enter Tryz.func158, Tryz.ntmps158
 go_wp2_with (first
  | (refine wpList_load_mid rfl 116 (.tmp 8) rfl t 0 rfl _ _ (HRG.out _) Tryz.underlying116 rfl (by rw [reg33, Array.length_toList, H33.out]) ?_)
  | (refine wpList_store_row rfl 116 (.tmp 2) (.tmp 9) rfl w.heap.size (regA c R) rfl rfl 116 _ (HZ.out _) (by rw [reg33, H33.out]) (by rw [H33.out]; rfl) regA_one ?_)
  | fail)
 exact bodyPost_ret (results_cell_row rfl _ _ w.heap.size 116 (regA c R) (0, 0) _ rfl (setRow_heap _ _ _ _ _ _ (HZ.out _)) Tryz.underlying116 rfl (by rw [reg33, H33.out])) rfl ⟨rfl, below_setR ((Below.refl _ w).alloc (Nat.le_refl _) _) _ (Nat.le_refl _) _⟩
end Go.Proofs.YtnmdjggdgakeoaaGreat
