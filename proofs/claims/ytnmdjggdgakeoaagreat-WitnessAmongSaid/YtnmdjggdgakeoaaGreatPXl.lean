/- Lemmas for the proof. -/
import Derived.Test.YtnmdjggdgakeoaaGreatPXe
import Derived.BigQuiet
import Derived.Laws.CopyOwn
import Derived.Test.YtnmdjggdgakeoaaGreatPXc
import Derived.Deep.CutBlock
import Derived.Deep.CutRange
import Derived.Test.YtnmdjggdgakeoaaGreatPXk
set_option maxRecDepth 100000
set_option maxHeartbeats 16000000
set_option linter.unusedVariables false
set_option linter.unusedSimpArgs false
set_option linter.unusedSectionVars false
namespace Go.Proofs.YtnmdjggdgakeoaaGreat
open Go Go.RowKit
def geoB (p t : Int) : Bool := decide (1 <= p) && decide (p <= 64) && decide (4 <= t) && decide (t <= 24)
theorem geoB_iff (p t : Int) : geoB p t = true ↔ 1 <= p /\ p <= 64 /\ 4 <= t /\ t <= 24 := by
 unfold geoB; simp [and_assoc]
def geoE (p t : Int) : Int := if geoB p t then 0 else 1
theorem geo2 : (Tryz.prog.info? 44).map (·.size) = some 2 := by kernel_rfl
theorem below_drewG {B : Nat} {a w : World} (h : Below B a w) (n : Nat) : Below B a (w.drewN n) := ⟨h.os, h.tape, h.output, h.size, h.block⟩
theorem below_box (w : World) (o : Obj) : Below w.heap.size w (w.alloc o) := (Below.refl _ _).alloc (Nat.le_refl _) _
theorem gcheck_c (p t : Int) (w : World) :
  Calls Tryz.prog 45 #[.agg #[.int .i64 p, .int .i64 t]] w fun e w' => e = .returned (.int .i64 (geoE p t)) /\ Below w.heap.size w w' := by
 by_cases h1 : p < 1
 ·have d1 : decide (p < 1) = true := by simpa using h1
  have HG : Hid (geoE p t = 1) := by show _ = _; unfold geoE geoB; rw [if_neg]; simp; omega
  go_enter Tryz.func45, Tryz.ntmps45
  go_wp2
  go_ret
  exact ⟨by rw [HG.out]; rfl, below_box _ _⟩
 ·have d1 : decide (p < 1) = false := by simpa using h1
  by_cases h2 : p > 64
  ·have d2 : decide (p > 64) = true := by simpa using h2
   have HG : Hid (geoE p t = 1) := by show _ = _; unfold geoE geoB; rw [if_neg]; simp; omega
   go_enter Tryz.func45, Tryz.ntmps45
   go_wp2
   go_ret
   exact ⟨by rw [HG.out]; rfl, below_box _ _⟩
  ·have d2 : decide (p > 64) = false := by simpa using h2
   by_cases h3 : t < 4
   ·have d3 : decide (t < 4) = true := by simpa using h3
    have HG : Hid (geoE p t = 1) := by show _ = _; unfold geoE geoB; rw [if_neg]; simp; omega
    go_enter Tryz.func45, Tryz.ntmps45
    go_wp2
    go_ret
    exact ⟨by rw [HG.out]; rfl, below_box _ _⟩
   ·have d3 : decide (t < 4) = false := by simpa using h3
    by_cases h4 : t > 24
    ·have d4 : decide (t > 24) = true := by simpa using h4
     have HG : Hid (geoE p t = 1) := by show _ = _; unfold geoE geoB; rw [if_neg]; simp; omega
     go_enter Tryz.func45, Tryz.ntmps45
     go_wp2
     go_ret
     exact ⟨by rw [HG.out]; rfl, below_box _ _⟩
    ·have d4 : decide (t > 24) = false := by simpa using h4
     have HG : Hid (geoE p t = 0) := by show _ = _; unfold geoE geoB; rw [if_pos]; simp; omega
     go_enter Tryz.func45, Tryz.ntmps45
     go_wp2
     go_ret
     exact ⟨by rw [HG.out]; rfl, below_box _ _⟩
def mapsN (p : Nat) : Nat := (p + 15) / 16
def sealedN (p : Nat) : Nat := 1 + mapsN p + p
theorem up16_c (n : Nat) (hn : n <= 64) (w : World) :
  Calls Tryz.prog 155 #[.int .i64 (n : Int), .int .i64 16] w fun e w' => e = .returned (.int .i64 (mapsN n : Int)) /\ w = w' := by
 have e1 : IntKind.i64.wrap ((n : Int) + 16) = (n : Int) + 16 := IntWalk.i64_in _ (by omega)
 have e2 : IntKind.i64.wrap ((n : Int) + 16 - 1) = (n : Int) + 15 := by rw [show (n : Int) + 16 - 1 = (n : Int) + 15 by omega]; exact IntWalk.i64_in _ (by omega)
 have e3 : IntKind.i64.wrap (((n : Int) + 15).tdiv 16) = (mapsN n : Int) := by
  rw [show ((n : Int) + 15).tdiv 16 = (mapsN n : Int) by unfold mapsN; rw [Int.tdiv_eq_ediv_of_nonneg (by omega)]; omega]
  exact IntWalk.i64_in _ (by unfold mapsN; omega)
 go_enter Tryz.func155, Tryz.ntmps155
 go_wp2
 go_ret
 exact ⟨rfl, rfl⟩
theorem gsealed_c (n : Nat) (t : Int) (hn : n <= 64) (w : World) :
  Calls Tryz.prog 121 #[.agg #[.int .i64 (n : Int), .int .i64 t]] w fun e w' => e = .returned (.int .i64 (sealedN n : Int)) /\ Below w.heap.size w w' := by
 have hc : (w.alloc (.cells #[.int .i64 (n : Int), .int .i64 t] 161)).cell? ⟨w.heap.size, 0, none⟩ = some (.int .i64 (n : Int)) := by simp
 have hm : mapsN n <= 4 := by unfold mapsN; omega
 obtain ⟨m, hm2⟩ : ∃ m, m = mapsN n := ⟨_, rfl⟩
 have HU : Hid (∀ w, Calls Tryz.prog 155 #[.int .i64 (n : Int), .int .i64 16] w fun e w' => e = .returned (.int .i64 (m : Int)) /\ w = w') := by rw [hm2]; exact fun w => up16_c n hn w
 rw [<- hm2] at hm;have e1 : IntKind.i64.wrap (1 + (m : Int)) = 1 + (m : Int) := IntWalk.i64_in _ (by omega)
 have e2 : IntKind.i64.wrap (1 + (m : Int) + (n : Int)) = 1 + (m : Int) + (n : Int) := IntWalk.i64_in _ (by omega)
 have HS : Hid (sealedN n = 1 + m + n) := by show _ = _; unfold sealedN; rw [hm2]
 have hb := below_box w (.cells #[.int .i64 (n : Int), .int .i64 t] 161)
 obtain ⟨W, hW⟩ : ∃ W, W = w.alloc (.cells #[.int .i64 (n : Int), .int .i64 t] 161) := ⟨_, rfl⟩
 have HB := Lib.hid hb;clear hm2 hb
 go_enter Tryz.func121, Tryz.ntmps121
 go_wp2
 go_quiet ((go_at_call 155; exact Calls.quiet_of_same ((HU.out _).mono fun _ _ h => ⟨h.1, h.2.symm⟩)))
 go_wp2
 go_ret
 exact ⟨by rw [HS.out]; go_num, below_drewG HB.out _⟩
def ifGeo (p t : Int) (m : Nat) : Nat := if geoB p t then m else 0
theorem asked_sealed_c (p t : Int) (w : World) :
  Calls Tryz.prog 64 #[.agg #[.int .i64 p, .int .i64 t], .func (.func 121) #[] #[]] w fun e w' => e = .returned (.int .i64 (ifGeo p t (sealedN p.toNat) : Int)) /\ Below w.heap.size w w' := by
 have HE := Lib.hid (fun w => gcheck_c p t w)
 obtain ⟨x, hx⟩ : ∃ x, x = geoE p t := ⟨_, rfl⟩
 rw [<- hx] at HE
 by_cases hg : geoB p t = true
 ·have hx0 : x = 0 := by rw [hx]; unfold geoE; rw [if_pos hg]
  have hp := (geoB_iff p t).1 hg
  have HR : Hid (ifGeo p t (sealedN p.toNat) = sealedN p.toNat) := by show _ = _; unfold ifGeo; rw [if_pos hg]
  obtain ⟨n, rfl⟩ : ∃ n : Nat, p = n := ⟨p.toNat, by omega⟩
  have hn : n <= 64 := by omega
  rw [Int.toNat_natCast] at HR ⊢
  have HS := Lib.hid (fun w => gsealed_c n t hn w)
  clear hx hg hp hn;subst hx0
  go_enter Tryz.func64, Tryz.ntmps64
  go_wp2_with fail
  refine (HE.out _).mono ?_
  rintro e w1 ⟨rfl, hb1⟩
  have hc1 := (hb1.block w.heap.size (by simp)).trans (heap_new' w _)
  have HB1 : Hid (Below w.heap.size w w1) := (below_box w _).trans (hb1.mono (by simp))
  have hi1 := lt_of_block hc1
  clear hb1;go_wp2_with (first | (refine wpList_load_row rfl 44 (.tmp 2) rfl w.heap.size rfl _ _ _ _ hc1 Tryz.underlying44 rfl (by rw [geo2]; rfl) ?_) | fail)
  refine (HS.out _).mono ?_
  rintro e w2 ⟨rfl, hb2⟩
  have HB2 : Hid (Below w.heap.size w w2) := HB1.out.trans (hb2.mono HB1.out.size)
  go_wp2
  go_ret
  exact ⟨by rw [HR.out]; rfl, HB2.out⟩
 ·have hg' : geoB p t = false := by simpa using hg
  have hx1 : x = 1 := by rw [hx]; unfold geoE; rw [if_neg hg]
  have HR : Hid (ifGeo p t (sealedN p.toNat) = 0) := by show _ = _; unfold ifGeo; rw [if_neg hg]
  clear hx hg hg';subst hx1
  go_enter Tryz.func64, Tryz.ntmps64
  go_wp2_with fail
  refine (HE.out _).mono ?_
  rintro e w1 ⟨rfl, hb1⟩
  have HB1 : Hid (Below w.heap.size w w1) := (below_box w _).trans (hb1.mono (by simp))
  go_wp2
  go_ret
  exact ⟨by rw [HR.out]; rfl, HB1.out⟩
theorem gSealed_c (p t : Int) (w : World) :
  Calls Tryz.prog 196 #[.agg #[.int .i64 p, .int .i64 t]] w fun e w' => e = .returned (.int .i64 (ifGeo p t (sealedN p.toNat) : Int)) /\ Below w.heap.size w w' := by
 have HS := Lib.hid (fun w => asked_sealed_c p t w)
 obtain ⟨m, hm⟩ : ∃ m, m = ifGeo p t (sealedN p.toNat) := ⟨_, rfl⟩
 rw [<- hm] at HS ⊢
 clear hm
 go_enter Tryz.func196, Tryz.ntmps196
 go_wp2_with fail
 refine (HS.out _).mono ?_
 rintro e w1 ⟨rfl, hb1⟩
 have HB1 : Hid (Below w.heap.size w w1) := (below_box w _).trans (hb1.mono (by simp))
 go_wp2
 go_ret
 exact ⟨rfl, HB1.out⟩
def epochsN (n : Nat) : Nat := (sealedN n + 31) / 32
def leavesN (n : Nat) : Nat := 1 + epochsN n + sealedN n
def totalN (n t : Nat) : Nat := leavesN n + (1 + t)
theorem sealedN_le (n : Nat) (h : n <= 64) : sealedN n <= 69 := by unfold sealedN mapsN; omega
theorem epochsN_le (n : Nat) (h : n <= 64) : epochsN n <= 3 := by have := sealedN_le n h; unfold epochsN; omega
theorem up32_c (n : Nat) (hn : n <= 100) (w : World) :
  Calls Tryz.prog 155 #[.int .i64 (n : Int), .int .i64 32] w fun e w' => e = .returned (.int .i64 (((n + 31) / 32 : Nat) : Int)) /\ w = w' := by
 have e1 : IntKind.i64.wrap ((n : Int) + 32) = (n : Int) + 32 := IntWalk.i64_in _ (by omega)
 have e2 : IntKind.i64.wrap ((n : Int) + 32 - 1) = (n : Int) + 31 := by rw [show (n : Int) + 32 - 1 = (n : Int) + 31 by omega]; exact IntWalk.i64_in _ (by omega)
 have e3 : IntKind.i64.wrap (((n : Int) + 31).tdiv 32) = (((n + 31) / 32 : Nat) : Int) := by
  rw [show ((n : Int) + 31).tdiv 32 = (((n + 31) / 32 : Nat) : Int) by rw [Int.tdiv_eq_ediv_of_nonneg (by omega)]; omega]
  exact IntWalk.i64_in _ (by omega)
 go_enter Tryz.func155, Tryz.ntmps155
 go_wp2
 go_ret
 exact ⟨rfl, rfl⟩
theorem gsupers_c (n : Nat) (t : Int) (w : World) :
  Calls Tryz.prog 119 #[.agg #[.int .i64 (n : Int), .int .i64 t]] w fun e w' => e = .returned (.int .i64 1) /\ Below w.heap.size w w' := by
 go_enter Tryz.func119, Tryz.ntmps119
 go_wp2
 go_ret
 exact ⟨rfl, below_box _ _⟩
theorem glogs_c (n : Nat) (t : Nat) (ht : t <= 24) (w : World) :
  Calls Tryz.prog 67 #[.agg #[.int .i64 (n : Int), .int .i64 (t : Int)]] w fun e w' => e = .returned (.int .i64 ((1 + t : Nat) : Int)) /\ Below w.heap.size w w' := by
 have hc : (w.alloc (.cells #[.int .i64 (n : Int), .int .i64 (t : Int)] 161)).cell? ⟨w.heap.size, 1, none⟩ = some (.int .i64 (t : Int)) := by simp
 have e1 : IntKind.i64.wrap (1 + (t : Int)) = ((1 + t : Nat) : Int) := by rw [IntWalk.i64_in _ (by omega)]; omega
 go_enter Tryz.func67, Tryz.ntmps67
 go_wp2
 go_ret
 exact ⟨by go_num, below_box _ _⟩
theorem geo2' : (Tryz.prog.info? 161).map (·.size) = some 2 := by kernel_rfl
theorem gepochs_c (n : Nat) (t : Int) (hn : n <= 64) (w : World) :
  Calls Tryz.prog 120 #[.agg #[.int .i64 (n : Int), .int .i64 t]] w fun e w' => e = .returned (.int .i64 (epochsN n : Int)) /\ Below w.heap.size w w' := by
 have HS := Lib.hid (fun w => gsealed_c n t hn w)
 have HU := Lib.hid (fun w => up32_c (sealedN n) (by have := sealedN_le n hn; omega) w)
 obtain ⟨m, hm⟩ : ∃ m, m = sealedN n := ⟨_, rfl⟩
 obtain ⟨z, hz⟩ : ∃ z, z = epochsN n := ⟨_, rfl⟩
 rw [show (sealedN n + 31) / 32 = epochsN n from rfl] at HU
 rw [<- hm] at HS HU;rw [<- hz] at HU ⊢
 clear hm hz;have hx : (w.alloc (.cells #[.int .i64 (n : Int), .int .i64 t] 161)).heap[w.heap.size]? = some (.cells #[.int .i64 (n : Int), .int .i64 t] 161 (0, 0)) := heap_new' _ _
 have HX := Lib.hid hx;clear hx
 go_enter Tryz.func120, Tryz.ntmps120
 go_wp2_with (first | (refine wpList_load_row rfl 161 (.tmp 1) rfl w.heap.size rfl _ _ _ _ HX.out Tryz.underlying161 rfl (by rw [geo2']; rfl) ?_) | fail)
 refine (HS.out _).mono ?_
 rintro e w1 ⟨rfl, hb1⟩
 have HB1 : Hid (Below w.heap.size w w1) := (below_box w _).trans (hb1.mono (by simp))
 clear hb1;go_wp2_with fail
 refine (HU.out _).mono ?_
 rintro e w2 ⟨rfl, rfl⟩
 go_wp2
 go_ret
 exact ⟨rfl, HB1.out⟩
def cntN (n : Nat) : Nat -> Nat
 | 0 => 1
 | 1 => epochsN n
 | 2 => sealedN n
 | _ => 0
def aheadS (n kind : Nat) : Nat -> Nat
 | 0 => 0
 | i + 1 => aheadS n kind i + if i + 1 < kind then cntN n i else 0
def aheadN (n kind : Nat) : Nat := aheadS n kind 4
theorem ahead2 (n : Nat) : aheadN n 2 = 1 := rfl
theorem ahead4 (n : Nat) : aheadN n 4 = leavesN n := by simp [aheadN, aheadS, cntN, leavesN]
def kindsV : Array Value := #[.func (.func 119) #[] #[], .func (.func 120) #[] #[], .func (.func 121) #[] #[], .func (.func 67) #[] #[]]
theorem kinds4 : (Tryz.prog.info? 185).map (·.size) = some 4 := by kernel_rfl
theorem gkinds_c (w : World) :
  Calls Tryz.prog 83 #[] w fun e w' => e = .returned (.agg kindsV) /\ Below w.heap.size w w' := by
 go_enter Tryz.func83, Tryz.ntmps83
 go_upto_region 1 with fail
 generalize hW1 : World.alloc w _ = w1
 have hb1 : Below w.heap.size w w1 := by rw [<- hW1]; exact below_box _ _
 have hz1 : w1.heap[w.heap.size]? = some (.cells #[.nilFunc, .nilFunc, .nilFunc, .nilFunc] 185 (0, 0)) := by rw [<- hW1]; exact heap_new' _ _
 clear hW1;have HZ1 := Lib.hid hz1;have HB1 := Lib.hid hb1;clear hb1 hz1;go_wp2_with (first
  | (refine wpList_store_row rfl 185 (.tmp 0) (.tmp 1) rfl w.heap.size kindsV ?_ ?_ 185 _ HZ1.out ?_ ?_ ?_ ?_; rfl; rfl; exact kinds4; rfl; kernel_rfl)
  | fail)
 exact bodyPost_ret (results_cell_row rfl _ _ w.heap.size 185 kindsV (0, 0) _ rfl (setRow_heap _ _ _ _ _ _ HZ1.out) Tryz.underlying185 rfl (by rw [kinds4]; rfl)) rfl ⟨rfl, below_setRow HB1.out (Nat.le_refl _) _⟩
theorem kind_fn (n t : Nat) (hn : n <= 64) (ht : t <= 24) (i : Nat) (hi : i < 3) : ∃ F, kindsV[i]? = some (.func (.func F) #[] #[]) /\ (∀ x w, Sem.run Tryz.prog (callFunc F #[x]) w = .ok (.enter F #[x]) w) /\ ∀ w, Calls Tryz.prog F #[.agg #[.int .i64 (n : Int), .int .i64 (t : Int)]] w fun e w' => e = .returned (.int .i64 (cntN n i : Int)) /\ Below w.heap.size w w' := by
 rcases (by omega : i = 0 \/ i = 1 \/ i = 2) with rfl | rfl | rfl
 ·exact ⟨_, rfl, fun x w => by first | rfl | go_simp, fun w => gsupers_c n t w⟩
 ·exact ⟨_, rfl, fun x w => by first | rfl | go_simp, fun w => gepochs_c n t hn w⟩
 ·exact ⟨_, rfl, fun x w => by first | rfl | go_simp, fun w => gsealed_c n t hn w⟩
theorem kind_any (i : Nat) (hi : i < 4) : ∃ F, kindsV[i]? = some (.func (.func F) #[] #[]) := by
 rcases (by omega : i = 0 \/ i = 1 \/ i = 2 \/ i = 3) with rfl | rfl | rfl | rfl <;> exact ⟨_, rfl⟩
theorem idx_kinds (i : Nat) (hi : i < 4) (F : FuncId) (hF : kindsV[i]? = some (.func (.func F) #[] #[])) (w : World) : (Instr.index 185 (.agg kindsV) (.int .i64 (i : Int))).run Tryz.prog w = .ok (.func (.func F) #[] #[]) w := by
 rcases (by omega : i = 0 \/ i = 1 \/ i = 2 \/ i = 3) with rfl | rfl | rfl | rfl <;> (injection hF with h; rw [<- h]; first | rfl | kernel_rfl | go_simp)
theorem aheadS_le (n kind : Nat) (hn : n <= 64) : ∀ i, aheadS n kind i <= 100 * i
 | 0 => Nat.le_refl _
 | i + 1 => by
  have h := aheadS_le n kind hn i
  have h1 : cntN n i <= 100 := by
   unfold cntN
   split
   ·omega
   ·have := epochsN_le n hn; omega
   ·have := sealedN_le n hn; omega
   ·omega
  unfold aheadS
  split <;> omega
theorem gahead_c (n t kind : Nat) (hn : n <= 64) (ht : t <= 24) (hk : kind <= 4) (w : World) :
  Calls Tryz.prog 66 #[.agg #[.int .i64 (n : Int), .int .i64 (t : Int)], .int .i64 (kind : Int)] w fun e w' => e = .returned (.int .i64 (aheadN n kind : Int)) /\ Below w.heap.size w w' := by
 have hx : (w.alloc (.cells #[.int .i64 (n : Int), .int .i64 (t : Int)] 161)).heap[w.heap.size]? = some (.cells #[.int .i64 (n : Int), .int .i64 (t : Int)] 161 (0, 0)) := heap_new' _ _
 have HX := Lib.hid hx;have HKC := Lib.hid (fun w => gkinds_c w)
 clear hx
 go_enter Tryz.func66, Tryz.ntmps66
 go_wp2_with fail
 refine (HKC.out _).mono ?_
 rintro r w1 ⟨rfl, hb1⟩
 have HX1 : Hid (w1.heap[w.heap.size]? = some (.cells #[.int .i64 (n : Int), .int .i64 (t : Int)] 161 (0, 0))) := (hb1.block _ (lt_of_block HX.out)).trans HX.out
 have HB1 : Hid (Below w.heap.size w w1) := (below_box w _).trans (hb1.mono (by simp))
 clear hb1 HX HKC;go_wp2
 go_loopw [5, 9] (fun v5 v9 wr => ∃ i a : Nat, i <= 4 /\ v9 = .int .i64 (i : Int) /\ v5 = .int .i64 (a : Int) /\ Hid (a = aheadS n kind i) /\ Hid (Below w.heap.size w wr) /\ Hid (wr.heap[w.heap.size]? = some (.cells #[.int .i64 (n : Int), .int .i64 (t : Int)] 161 (0, 0)))) (fun _ v9 _ => 4 - (intOf v9).toNat)
 case atStart => exact ⟨0, 0, by omega, rfl, rfl, rfl, HB1, HX1⟩
 case round =>
  obtain ⟨i, a, hi, rfl, rfl, ha, hb, hx⟩ := hrel
  clear HB1 HX1
  by_cases hlt : i < 4
  ·obtain ⟨F, hF⟩ := kind_any i hlt
   have dl : (i : Int) < 4 := by omega
   have dn : ¬ (i : Int) < 0 := by omega
   have hle := aheadS_le n kind hn i
   have hidx : (Instr.index 185 (.agg kindsV) (.int .i64 (i : Int))).run Tryz.prog wr = .ok (.func (.func F) #[] #[]) wr := idx_kinds i hlt F hF wr
   by_cases hk2 : i + 1 < kind
   ·obtain ⟨F', hF', hcf, hcall⟩ := kind_fn n t hn ht i (by omega)
    have hFF : F' = F := by rw [hF] at hF'; injection hF' with h; injection h with h; injection h with h; exact h.symm
    subst hFF
    have dk : (i : Int) + 1 < (kind : Int) := by omega
    have HCL := Lib.hid hcall;have hcn : aheadS n kind (i + 1) = aheadS n kind i + cntN n i := by show aheadS n kind i + _ = _; rw [if_pos hk2]
    have hle2 := aheadS_le n kind hn (i + 1)
    obtain ⟨c, hc⟩ : ∃ c, c = cntN n i := ⟨_, rfl⟩
    rw [<- hc] at hcn HCL;have hab : a + c <= 400 := by have := ha.out; omega
    have HA2 : Hid (a + c = aheadS n kind (i + 1)) := by have := ha.out; show _ = _; omega
    have ea : IntKind.i64.wrap ((a : Int) + (c : Int)) = ((a + c : Nat) : Int) := by rw [IntWalk.i64_in _ (by omega)]; omega
    clear hcn hle2 hc hle hcall hF hF' ha;go_wp2_with (first | (refine wpList_load_row rfl 161 (.tmp 2) rfl w.heap.size rfl _ _ _ _ hx.out Tryz.underlying161 rfl (by rw [geo2']; rfl) ?_) | fail)
    refine (HCL.out _).mono ?_
    rintro r w5 ⟨rfl, hb5⟩
    have HX5 : Hid (w5.heap[w.heap.size]? = some (.cells #[.int .i64 (n : Int), .int .i64 (t : Int)] 161 (0, 0))) := (hb5.block _ (lt_of_block hx.out)).trans hx.out
    have HB5 : Hid (Below w.heap.size w w5) := hb.out.trans (hb5.mono hb.out.size)
    clear hb5 hx hb;go_wp2
    go_roundw
    case rel => exact ⟨i + 1, a + c, by omega, by go_num, by go_num, HA2, HB5, HX5⟩
    case measure => simp [intOf]; omega
   ·have dk : ¬ (i : Int) + 1 < (kind : Int) := by omega
    have HA2 : Hid (a = aheadS n kind (i + 1)) := by show a = aheadS n kind i + _; rw [if_neg hk2]; exact ha.out
    clear hle hF ha;go_wp2
    go_roundw
    case rel => exact ⟨i + 1, a, by omega, by go_num, by go_num, HA2, hb, hx⟩
    case measure => simp [intOf]; omega
  ·have dl : ¬ (i : Int) < 4 := by omega
   have HA2 : Hid (a = aheadN n kind) := by have := ha.out; show a = aheadS n kind 4; rw [this, show i = 4 by omega]
   clear ha;go_wp2
   go_ret
   exact ⟨by first | (rw [<- HA2.out]; rfl) | (rw [HA2.out]), hb.out⟩
def GeoFn (F : FuncId) (n t m : Nat) : Prop := (∀ x w, Sem.run Tryz.prog (callFunc F #[x]) w = .ok (.enter F #[x]) w) /\ ∀ w, Calls Tryz.prog F #[.agg #[.int .i64 (n : Int), .int .i64 (t : Int)]] w fun e w' => e = .returned (.int .i64 (m : Int)) /\ Below w.heap.size w w'
theorem geo_ok {n t : Nat} (hg : geoB n t = true) : 1 <= n /\ n <= 64 /\ 4 <= t /\ t <= 24 := by have := (geoB_iff _ _).1 hg; omega
theorem geoE_ok {n t : Nat} (hg : geoB n t = true) : geoE n t = 0 := by unfold geoE; rw [if_pos hg]
theorem asked_c {F : FuncId} {n t m : Nat} (hF : GeoFn F n t m) (hg : geoB n t = true) (w : World) :
  Calls Tryz.prog 64 #[.agg #[.int .i64 (n : Int), .int .i64 (t : Int)], .func (.func F) #[] #[]] w fun e w' => e = .returned (.int .i64 (m : Int)) /\ Below w.heap.size w w' := by
 have HE := Lib.hid (fun w => gcheck_c n t w)
 rw [geoE_ok hg] at HE
 have hcf := hF.1
 have HS := Lib.hid hF.2;have HX := Lib.hid (heap_new' w (.cells #[.int .i64 (n : Int), .int .i64 (t : Int)] 44))
 clear hg hF
 go_enter Tryz.func64, Tryz.ntmps64
 go_wp2_with (first | (refine wpList_load_row rfl 44 (.tmp 2) rfl w.heap.size rfl _ _ _ _ HX.out Tryz.underlying44 rfl (by rw [geo2]; rfl) ?_) | fail)
 refine (HE.out _).mono ?_
 rintro e w1 ⟨rfl, hb1⟩
 have hc1 := (hb1.block w.heap.size (by simp)).trans HX.out
 have HB1 : Hid (Below w.heap.size w w1) := (below_box w _).trans (hb1.mono (by simp))
 have HC1 := Lib.hid hc1;clear hb1 hc1 HX HE;go_wp2_with (first | (refine wpList_load_row rfl 44 (.tmp 2) rfl w.heap.size rfl _ _ _ _ HC1.out Tryz.underlying44 rfl (by rw [geo2]; rfl) ?_) | fail)
 refine (HS.out _).mono ?_
 rintro e w2 ⟨rfl, hb2⟩
 have HB2 : Hid (Below w.heap.size w w2) := HB1.out.trans (hb2.mono HB1.out.size)
 go_wp2
 go_ret
 exact ⟨rfl, HB2.out⟩
theorem epochs_fn {n t : Nat} (hg : geoB n t = true) : GeoFn 120 n t (epochsN n) := ⟨fun x w => by first | rfl | go_simp, fun w => gepochs_c n t (geo_ok hg).2.1 w⟩
theorem logs_fn {n t : Nat} (hg : geoB n t = true) : GeoFn 67 n t (1 + t) := ⟨fun x w => by first | rfl | go_simp, fun w => glogs_c n t (geo_ok hg).2.2.2 w⟩
theorem gEpochs_c {n t : Nat} (hg : geoB n t = true) (w : World) :
  Calls Tryz.prog 199 #[.agg #[.int .i64 (n : Int), .int .i64 (t : Int)]] w fun e w' => e = .returned (.int .i64 (epochsN n : Int)) /\ Below w.heap.size w w' := by
 have HS := Lib.hid (fun w => asked_c (epochs_fn hg) hg w)
 obtain ⟨m, hm⟩ : ∃ m, m = epochsN n := ⟨_, rfl⟩
 rw [<- hm] at HS ⊢
 have HX := Lib.hid (heap_new' w (.cells #[.int .i64 (n : Int), .int .i64 (t : Int)] 44))
 clear hm hg
 go_enter Tryz.func199, Tryz.ntmps199
 go_wp2_with (first | (refine wpList_load_row rfl 44 (.tmp 1) rfl w.heap.size rfl _ _ _ _ HX.out Tryz.underlying44 rfl (by rw [geo2]; rfl) ?_) | fail)
 refine (HS.out _).mono ?_
 rintro e w1 ⟨rfl, hb1⟩
 have HB1 : Hid (Below w.heap.size w w1) := (below_box w _).trans (hb1.mono (by simp))
 go_wp2
 go_ret
 exact ⟨rfl, HB1.out⟩
theorem leavesN_le (n : Nat) (h : n <= 64) : leavesN n <= 73 := by have := sealedN_le n h; have := epochsN_le n h; unfold leavesN; omega
def opsGeT : {o : Array Oper // some o = (Tryz.f65.body.bind (Fre.findR 1))} := ⟨_, rfl⟩
theorem fitGeT : Fre.fit .any opsGeT.1 8 = true := by kernel_rfl
theorem sizeGeT : opsGeT.1.size = 6 := by kernel_rfl
def VGeT (n t gb : Nat) (i : Nat) (v : Value) (w : World) : Prop := match i with
 | 0 => v = .agg #[.int .i64 (n : Int), .int .i64 (t : Int)]
 | 1 => v = .int .i64 (leavesN n : Int)
 | 2 => v = .agg #[.int .i64 (n : Int), .int .i64 (t : Int)]
 | 3 => v = .int .i64 ((1 + t : Nat) : Int)
 | 4 => v = .int .i64 (totalN n t : Int)
 | 5 => v = .int .i64 (totalN n t : Int)
 | _ => True
section
variable {u0 u2 u3 u4 u5 u6 u7 : Value}
theorem kpGeT (n t gb : Nat) : ∀ j v w w', j < opsGeT.1.size -> VGeT n t gb j v w -> Fre.Kept w w' -> VGeT n t gb j v w' := by
 intro j v w w' hj h hs
 rw [sizeGeT] at hj;rcases cs6 hj with rfl | rfl | rfl | rfl | rfl | rfl <;> exact h
variable {n t gb : Nat} {a0 : Act} {w0 : World} (h0 : w0.heap[gb]? = some (.cells #[.int .i64 (n : Int), .int .i64 (t : Int)] 161 (0, 0))) (hn : n <= 64) (ht : t <= 24)
include h0 hn ht
theorem stGeT_0 (g91 : a0.tmps.getD 1 undef = .pointer (some ⟨gb, 0, none⟩)) : Fre.StepB Tryz.prog opsGeT.1 a0 w0 (VGeT n t gb) Fre.Kept 0 := by
 rintro E w hc hf hE hV hN hS _ ⟨⟩
 simp only [opsGeT, gA, gS, gZ]
 have b1 : E (.tmp 1) = .pointer (some ⟨gb, 0, none⟩) := (hE 1 (by kernel_rfl)).trans g91
 clear g91;have hr := run_loadVar_row w gb _ 161 #[.int .i64 (n : Int), .int .i64 (t : Int)] _ _ ((hS.block gb (lt_of_block h0)).trans h0) Tryz.underlying161 rfl (by rw [geo2']; rfl)
 refine Fre.dv (v := .agg #[.int .i64 (n : Int), .int .i64 (t : Int)]) ?_
 unfold execOp;simp only [b1, Instr.loadAt, Instr.sureAddr, Sem.run_bind, Sem.run_pure, Result.andThen_ok, hr]
theorem stGeT_1 : Fre.StepB Tryz.prog opsGeT.1 a0 w0 (VGeT n t gb) Fre.Kept 1 := by
 rintro E w hc hf hE hV hN hS _ ⟨⟩
 simp only [opsGeT, gA, gS, gZ]
 have d0 : E (.tmp 3) = .agg #[.int .i64 (n : Int), .int .i64 (t : Int)] := hV 0 3 (by kernel_rfl) (by kernel_rfl)
 refine Fre.Does.enter (f := 66) (args := #[.agg #[.int .i64 (n : Int), .int .i64 (t : Int)], .int .i64 4]) (w' := w) ?_ ((gahead_c n t 4 hn ht (Nat.le_refl _) w).mono ?_)
 ·go_simp
 ·rintro e w' ⟨rfl, hk'⟩
  rw [ahead4];exact ⟨_, rfl, rfl, hk'⟩
theorem stGeT_2 (g91 : a0.tmps.getD 1 undef = .pointer (some ⟨gb, 0, none⟩)) : Fre.StepB Tryz.prog opsGeT.1 a0 w0 (VGeT n t gb) Fre.Kept 2 := by
 rintro E w hc hf hE hV hN hS _ ⟨⟩
 simp only [opsGeT, gA, gS, gZ]
 have b1 : E (.tmp 1) = .pointer (some ⟨gb, 0, none⟩) := (hE 1 (by kernel_rfl)).trans g91
 clear g91;have hr := run_loadVar_row w gb _ 161 #[.int .i64 (n : Int), .int .i64 (t : Int)] _ _ ((hS.block gb (lt_of_block h0)).trans h0) Tryz.underlying161 rfl (by rw [geo2']; rfl)
 refine Fre.dv (v := .agg #[.int .i64 (n : Int), .int .i64 (t : Int)]) ?_
 unfold execOp;simp only [b1, Instr.loadAt, Instr.sureAddr, Sem.run_bind, Sem.run_pure, Result.andThen_ok, hr]
theorem stGeT_3 : Fre.StepB Tryz.prog opsGeT.1 a0 w0 (VGeT n t gb) Fre.Kept 3 := by
 rintro E w hc hf hE hV hN hS _ ⟨⟩
 simp only [opsGeT, gA, gS, gZ]
 have d2 : E (.tmp 5) = .agg #[.int .i64 (n : Int), .int .i64 (t : Int)] := hV 2 5 (by kernel_rfl) (by kernel_rfl)
 refine Fre.Does.enter (f := 67) (args := #[.agg #[.int .i64 (n : Int), .int .i64 (t : Int)]]) (w' := w) ?_ ((glogs_c n t ht w).mono ?_)
 ·go_simp
 ·rintro e w' ⟨rfl, hk'⟩
  exact ⟨_, rfl, rfl, hk'⟩
theorem stGeT_4 : Fre.StepB Tryz.prog opsGeT.1 a0 w0 (VGeT n t gb) Fre.Kept 4 := by
 rintro E w hc hf hE hV hN hS _ ⟨⟩
 simp only [opsGeT, gA, gS, gZ]
 have d1 : E (.tmp 4) = .int .i64 (leavesN n : Int) := hV 1 4 (by kernel_rfl) (by kernel_rfl)
 have d3 : E (.tmp 6) = .int .i64 ((1 + t : Nat) : Int) := hV 3 6 (by kernel_rfl) (by kernel_rfl)
 have e1 : IntKind.i64.wrap ((leavesN n : Int) + (1 + (t : Int))) = (totalN n t : Int) := by
  have h1 := leavesN_le n hn
  rw [IntWalk.i64_in _ (by omega)]; unfold totalN; omega
 refine Fre.dv (v := .int .i64 (totalN n t : Int)) ?_
 go_simp
theorem stGeT_5 : Fre.StepB Tryz.prog opsGeT.1 a0 w0 (VGeT n t gb) Fre.Kept 5 := by
 rintro E w hc hf hE hV hN hS _ ⟨⟩
 simp only [opsGeT, gA, gS, gZ]
 have d4 : E (.tmp 7) = .int .i64 (totalN n t : Int) := hV 4 7 (by kernel_rfl) (by kernel_rfl)
 refine Fre.dv (v := .int .i64 (totalN n t : Int)) ?_
 go_simp
variable (n t gb w0)
theorem regionGeT {QQ : Exit -> Act -> World -> Prop} (hQ : ∀ (vs : Nat -> Value) w, (∀ j, j < 6 -> VGeT n t gb j (vs j) w) -> Fre.Kept w0 w -> QQ .normal ⟨#[u0, .pointer (some ⟨gb, 0, none⟩), vs 5, vs 0, vs 1, vs 2, vs 3, vs 4], []⟩ w) : (Code.region 1 opsGeT.1 true).wp Tryz.prog QQ ⟨#[u0, .pointer (some ⟨gb, 0, none⟩), u2, u3, u4, u5, u6, u7], []⟩ w0 := by
 refine Fre.region_kept 8 (by kernel_rfl) fitGeT rfl (VGeT n t gb) (kpGeT n t gb) (fun i hi => ?_) (fun vs w h1 h2 => ?_)
 case refine_2 =>
  have h9 := hQ vs w (fun j hj => h1 j (by rw [sizeGeT]; exact hj)) h2
  exact Fre.fe (p := fun t => QQ .normal ⟨t, []⟩ w) h9 (by kernel_rfl)
 rw [sizeGeT] at hi;rcases cs6 hi with rfl | rfl | rfl | rfl | rfl | rfl
 ·exact stGeT_0 h0 hn ht rfl
 ·exact stGeT_1 h0 hn ht
 ·exact stGeT_2 h0 hn ht rfl
 ·exact stGeT_3 h0 hn ht
 ·exact stGeT_4 h0 hn ht
 ·exact stGeT_5 h0 hn ht
end
theorem total1_c {n t : Nat} (hg : geoB n t = true) (w : World) :
  Calls Tryz.prog 65 #[.agg #[.int .i64 (n : Int), .int .i64 (t : Int)]] w fun e w' => e = .returned (.int .i64 (totalN n t : Int)) /\ Below w.heap.size w w' := by
 have HX := Lib.hid (heap_new' w (.cells #[.int .i64 (n : Int), .int .i64 (t : Int)] 161))
 have HG := Lib.hid (geo_ok hg)
 clear hg
 go_enter Tryz.func65, Tryz.ntmps65
 go_upto_region 1 with fail
 refine regionGeT n t w.heap.size _ HX.out HG.out.2.1 HG.out.2.2.2 ?_
 intro vs w2 hv hk;have v5 : vs 5 = .int .i64 (totalN n t : Int) := hv 5 (by omega)
 rw [v5];have HB := Lib.hid ((below_box w (.cells #[.int .i64 (n : Int), .int .i64 (t : Int)] 161)).trans (hk.mono (by simp)))
 clear hv hk v5;go_wp2
 go_ret
 exact ⟨rfl, HB.out⟩
theorem total_fn {n t : Nat} (hg : geoB n t = true) : GeoFn 65 n t (totalN n t) := ⟨fun x w => by first | rfl | go_simp, fun w => total1_c hg w⟩
theorem gTotal_c {n t : Nat} (hg : geoB n t = true) (w : World) :
  Calls Tryz.prog 48 #[.agg #[.int .i64 (n : Int), .int .i64 (t : Int)]] w fun e w' => e = .returned (.int .i64 (totalN n t : Int)) /\ Below w.heap.size w w' := by
 have HS := Lib.hid (fun w => asked_c (total_fn hg) hg w)
 obtain ⟨m, hm⟩ : ∃ m, m = totalN n t := ⟨_, rfl⟩
 rw [<- hm] at HS ⊢
 have HX := Lib.hid (heap_new' w (.cells #[.int .i64 (n : Int), .int .i64 (t : Int)] 44))
 clear hm hg
 go_enter Tryz.func48, Tryz.ntmps48
 go_wp2_with (first | (refine wpList_load_row rfl 44 (.tmp 1) rfl w.heap.size rfl _ _ _ _ HX.out Tryz.underlying44 rfl (by rw [geo2]; rfl) ?_) | fail)
 refine (HS.out _).mono ?_
 rintro e w1 ⟨rfl, hb1⟩
 have HB1 : Hid (Below w.heap.size w w1) := (below_box w _).trans (hb1.mono (by simp))
 go_wp2
 go_ret
 exact ⟨rfl, HB1.out⟩
theorem at_c {F : FuncId} {n t m : Nat} (kind k : Nat) (hF : GeoFn F n t m) (hg : geoB n t = true) (hm : m <= 100) (hk : k < 100000) (hkind : kind <= 4) (w : World) :
  Calls Tryz.prog 276 #[.agg #[.int .i64 (n : Int), .int .i64 (t : Int)], .int .i64 (kind : Int), .int .i64 (k : Int), .func (.func F) #[] #[]] w fun e w' => e = .returned (.int .i64 (if k < m then ((aheadN n kind + k : Nat) : Int) else -1)) /\ Below w.heap.size w w' := by
 have HS := Lib.hid (fun w => asked_c hF hg w)
 have HA := Lib.hid (fun w => gahead_c n t kind (geo_ok hg).2.1 (geo_ok hg).2.2.2 hkind w)
 have hle := aheadS_le n kind (geo_ok hg).2.1 4
 obtain ⟨a, ha⟩ : ∃ a, a = aheadN n kind := ⟨_, rfl⟩
 have hal : a <= 400 := by rw [ha]; exact hle
 rw [<- ha] at HA ⊢
 have HX := Lib.hid (heap_new' w (.cells #[.int .i64 (n : Int), .int .i64 (t : Int)] 44))
 have e1 : IntKind.i64.wrap ((a : Int) + (k : Int)) = ((a + k : Nat) : Int) := by rw [IntWalk.i64_in _ (by omega)]; omega
 have n0 : ¬ (k : Int) < 0 := by omega
 clear ha hle hF hg
 by_cases hkm : k < m
 ·have d1 : ¬ (k : Int) >= (m : Int) := by omega
  have d2 : ¬ (m : Int) <= (k : Int) := by omega
  rw [if_pos hkm]
  clear hal
  go_enter Tryz.func276, Tryz.ntmps276
  go_wp2_with (first | (refine wpList_load_row rfl 44 (.tmp 4) rfl w.heap.size rfl _ _ _ _ HX.out Tryz.underlying44 rfl (by rw [geo2]; rfl) ?_) | fail)
  refine (HS.out _).mono ?_
  rintro e w1 ⟨rfl, hb1⟩
  have hc1 := (hb1.block w.heap.size (by simp)).trans HX.out
  have HC1 := Lib.hid hc1;have HB1 : Hid (Below w.heap.size w w1) := (below_box w _).trans (hb1.mono (by simp))
  clear hb1 hc1 HX HS;go_wp2_with (first | (refine wpList_load_row rfl 44 (.tmp 4) rfl w.heap.size rfl _ _ _ _ HC1.out Tryz.underlying44 rfl (by rw [geo2]; rfl) ?_) | fail)
  refine (HA.out _).mono ?_
  rintro e w2 ⟨rfl, hb2⟩
  have HB2 : Hid (Below w.heap.size w w2) := HB1.out.trans (hb2.mono HB1.out.size)
  clear hb2;go_wp2
  go_ret
  exact ⟨by go_num, HB2.out⟩
 ·have d1 : (k : Int) >= (m : Int) := by omega
  have d2 : (m : Int) <= (k : Int) := by omega
  rw [if_neg hkm]
  clear hal
  go_enter Tryz.func276, Tryz.ntmps276
  go_wp2_with (first | (refine wpList_load_row rfl 44 (.tmp 4) rfl w.heap.size rfl _ _ _ _ HX.out Tryz.underlying44 rfl (by rw [geo2]; rfl) ?_) | fail)
  refine (HS.out _).mono ?_
  rintro e w1 ⟨rfl, hb1⟩
  have HB1 : Hid (Below w.heap.size w w1) := (below_box w _).trans (hb1.mono (by simp))
  clear hb1 HX HS;go_wp2
  go_ret
  exact ⟨rfl, HB1.out⟩
theorem gEpochAt_c {n t : Nat} (hg : geoB n t = true) (k : Nat) (hk : k < 100000) (w : World) :
  Calls Tryz.prog 258 #[.agg #[.int .i64 (n : Int), .int .i64 (t : Int)], .int .i64 (k : Int)] w fun e w' => e = .returned (.int .i64 (if k < epochsN n then ((1 + k : Nat) : Int) else -1)) /\ Below w.heap.size w w' := by
 have HS := Lib.hid (fun w => at_c 2 k (epochs_fn hg) hg (by have h1 := geo_ok hg; have h2 := sealedN_le n h1.2.1; have h3 := epochsN_le n h1.2.1; omega) hk (by omega) w)
 rw [ahead2] at HS;obtain ⟨v, hv⟩ : ∃ v : Int, v = if k < epochsN n then ((1 + k : Nat) : Int) else -1 := ⟨_, rfl⟩
 rw [<- hv] at HS ⊢
 have HX := Lib.hid (heap_new' w (.cells #[.int .i64 (n : Int), .int .i64 (t : Int)] 44))
 clear hv hg hk
 go_enter Tryz.func258, Tryz.ntmps258
 go_wp2_with (first | (refine wpList_load_row rfl 44 (.tmp 2) rfl w.heap.size rfl _ _ _ _ HX.out Tryz.underlying44 rfl (by rw [geo2]; rfl) ?_) | fail)
 refine (HS.out _).mono ?_
 rintro e w1 ⟨rfl, hb1⟩
 have HB1 : Hid (Below w.heap.size w w1) := (below_box w _).trans (hb1.mono (by simp))
 go_wp2
 go_ret
 exact ⟨rfl, HB1.out⟩
theorem gLogAt_c {n t : Nat} (hg : geoB n t = true) (k : Nat) (hk : k < 100000) (w : World) :
  Calls Tryz.prog 221 #[.agg #[.int .i64 (n : Int), .int .i64 (t : Int)], .int .i64 (k : Int)] w fun e w' => e = .returned (.int .i64 (if k < 1 + t then ((leavesN n + k : Nat) : Int) else -1)) /\ Below w.heap.size w w' := by
 have HS := Lib.hid (fun w => at_c 4 k (logs_fn hg) hg (by have h1 := geo_ok hg; have h2 := sealedN_le n h1.2.1; have h3 := epochsN_le n h1.2.1; omega) hk (by omega) w)
 rw [ahead4] at HS;obtain ⟨v, hv⟩ : ∃ v : Int, v = if k < 1 + t then ((leavesN n + k : Nat) : Int) else -1 := ⟨_, rfl⟩
 rw [<- hv] at HS ⊢
 have HX := Lib.hid (heap_new' w (.cells #[.int .i64 (n : Int), .int .i64 (t : Int)] 44))
 clear hv hg hk
 go_enter Tryz.func221, Tryz.ntmps221
 go_wp2_with (first | (refine wpList_load_row rfl 44 (.tmp 2) rfl w.heap.size rfl _ _ _ _ HX.out Tryz.underlying44 rfl (by rw [geo2]; rfl) ?_) | fail)
 refine (HS.out _).mono ?_
 rintro e w1 ⟨rfl, hb1⟩
 have HB1 : Hid (Below w.heap.size w w1) := (below_box w _).trans (hb1.mono (by simp))
 go_wp2
 go_ret
 exact ⟨rfl, HB1.out⟩
theorem gBytes_c (k : Nat) (hk : k < 65536) (w : World) :
  Calls Tryz.prog 47 #[.int .i64 (k : Int)] w fun e w' => e = .returned (.int .i64 ((256 * k : Nat) : Int)) /\ w = w' := by
 have e1 : IntKind.i64.wrap (256 * (k : Int)) = ((256 * k : Nat) : Int) := by rw [IntWalk.i64_in _ (by omega)]; omega
 have n0 : ¬ (k : Int) < 0 := by omega
 have n1 : ¬ (k : Int) >= 65536 := by omega
 have n2 : ¬ (65536 : Int) <= (k : Int) := by omega
 go_enter Tryz.func47, Tryz.ntmps47
 go_wp2
 go_ret
 exact ⟨by go_num, rfl⟩
open Sha
def padZ (l : List Nat) (z : Nat) : List Nat := l.take z ++ List.replicate (z - l.length) 0
theorem bA_tlenW (l : List Nat) : (bA l).toList.length = l.length := by simp [bA]
theorem run_copyW {w : World} {g o dl dc : Nat} {cur : List Nat} {t : TypeId} (hg : w.heap[g]? = some (.cells (bA cur) t (0, 0))) (hfit : o + dl <= cur.length) {va : Option Addr} {m vc : Nat} {l : List Nat} (hl : l.length = m) (hb : BytesAt w va vc l) (ty : TypeId) :
  ∃ v w2, (Builtin.copy_ #[22, 22] ty #[.slice (some ⟨g, o, none⟩) dl dc, .slice va m vc]).run Tryz.prog w = .ok v w2 /\ w2.heap[g]? = some (.cells (bA (splice cur o (l.take dl))) t (0, 0)) /\ Save g g w w2 := by
 have hsz : (Tryz.prog.info? 5).map (·.size) = some 1 := by kernel_rfl
 have hcl : (bA (l.take dl)).toList.length = Nat.min m dl := by rw [bA_tlenW, List.length_take, hl]; exact Nat.min_comm _ _
 by_cases h0 : Nat.min m dl = 0
 ·refine ⟨_, w, run_copy_none (P := Tryz.prog) w _ _ ty 5 _ va dl dc m vc Tryz.underlying22 hsz h0, ?_, Save.refl _ _ _⟩
  have : l.take dl = [] := by apply List.eq_nil_of_length_eq_zero; rw [<- bA_tlenW, hcl, h0]
  rw [this];simpa [splice] using hg
 ·have h0' : 0 < min m dl := Nat.pos_of_ne_zero h0
  obtain ⟨g2, o2, rfl, h2, h3, h4⟩ := hb.2 (by rw [hl]; omega)
  have hr := run_copy_row (P := Tryz.prog) w 22 22 ty 5 g o dl dc ⟨g2, o2, none⟩ m vc (bA cur) t (bA (l.take dl)).toList Tryz.underlying22 hsz hg hcl
   (fun j v hj => by
    have hjl := (List.getElem?_eq_some_iff.1 hj).1
    rw [hcl] at hjl;have hjl' : j < min m dl := hjl
    rw [Array.getElem?_toList, bA_get _ j (by rw [List.length_take, hl]; omega)] at hj
    rw [add_plain, h4 j (by rw [hl]; omega), <- hj, List.getD_eq_getElem?_getD, List.getD_eq_getElem?_getD, List.getElem?_take_of_lt (by omega)])
   (by rw [hcl, bA_size]; have : Nat.min m dl <= dl := Nat.min_le_right _ _; omega)
   (by have := bA_oneS (l.take dl); rw [<- Array.all_toList, List.all_eq_true] at this; exact this)
  refine ⟨_, _, hr, ?_, ⟨⟨rfl, rfl, rfl, by simp [World.setRow], fun k hk => setRow_other w g k _ (by omega)⟩, fun k _ hk => setRow_other w g k _ hk⟩⟩
  have he : ((bA cur).toList.take o ++ (bA (l.take dl)).toList ++ (bA cur).toList.drop (o + (bA (l.take dl)).toList.length)).toArray = bA (splice cur o (l.take dl)) := by
   unfold splice bA
   simp
  rw [setRow_heap w g _ _ t _ hg, he]
theorem splice_padW (l : List Nat) (n : Nat) : splice (List.replicate n 0) 0 (l.take n) = padZ l n := by
 unfold splice padZ
 simp
 by_cases h : l.length <= n
 ·rw [Nat.min_eq_right h]
 ·rw [Nat.min_eq_left (by omega), show n - n = 0 by omega, show n - l.length = 0 by omega]
theorem wpad_c (va : Option Addr) (m vc : Nat) (l : List Nat) (hl : l.length = m) (hl1 : m <= 1000000) (n : Nat) (h1 : 1 <= n) (hn : n <= 65536) (N : Int) (hN : N = n) (w : World) (hb : BytesAt w va vc l) :
  Calls Tryz.prog 257 #[.slice va m vc, .int .i64 N] w fun e w' => ∃ b, e = .returned (.slice (some ⟨b, 0, none⟩) n n) /\ w.heap.size <= b /\ b < w'.heap.size /\ w'.heap[b]? = some (.cells (bA (padZ l n)) 5 (0, 0)) /\ Below w.heap.size w w' := by
 subst hN
 have hmk := mk_bytes n (by omega)
 have d1 : decide ((n : Int) < 1) = false := by simp; omega
 have d2 : decide ((n : Int) > 65536) = false := by simp; omega
 have hbel := below_box w (.cells (bA (List.replicate n 0)) 5)
 obtain ⟨v2, w2, hcp, hg2, hs2⟩ := run_copyW (o := 0) (dl := n) (dc := n) (cur := List.replicate n 0) (heap_new' w (.cells (bA (List.replicate n 0)) 5)) (by simp) hl (hb.up hbel (Nat.le_refl _)) 3
 rw [splice_padW] at hg2;have HG2 := Lib.hid hg2;have HB2 : Hid (Below w.heap.size w w2) := hbel.trans hs2.1
 clear hb hl hbel hg2 hs2 hl1
 go_enter Tryz.func257, Tryz.ntmps257
 go_wp2
 go_ret
 exact ⟨_, rfl, Nat.le_refl _, lt_of_block HG2.out, HG2.out, HB2.out⟩
theorem freeze_heap (w : World) (q s k : Nat) : (w.freeze ⟨q, s, none⟩ 1).heap[k]? = if q = k then (w.heap[k]?).map (fun
   | .cells c elem (lo, hi) => .cells c elem (if lo == hi then (s, s + 1) else (min lo s, max hi (s + 1)))
   | o => o) else w.heap[k]? := by
 simp only [World.freeze, Nat.one_ne_zero, if_false]
 rw [Array.getElem?_modify]
 rfl
theorem freeze_cell (w : World) (q s : Nat) (p : Addr) (v : Value) (h : w.cell? p = some v) : (w.freeze ⟨q, s, none⟩ 1).cell? p = some v := by
 by_cases e : q = p.block
 ·simp only [World.cell?] at h ⊢
  rw [freeze_heap, if_pos e]
  cases hb : w.heap[p.block]? with
  | none => simp [hb] at h
  | some o =>
   rw [hb] at h
   cases o with
   | cells c elem fr => obtain ⟨lo, hi⟩ := fr; exact h
   | _ => exact h
 ·simp only [World.cell?] at h ⊢
  rw [freeze_heap, if_neg e]; exact h
theorem freeze_shape (w : World) (q s p : Nat) (t : TypeId) (k : Nat) (h : w.shape? p = some (t, k)) : (w.freeze ⟨q, s, none⟩ 1).shape? p = some (t, k) := by
 by_cases e : q = p
 ·simp only [World.shape?] at h ⊢
  rw [freeze_heap, if_pos e]
  cases hb : w.heap[p]? with
  | none => simp [hb] at h
  | some o =>
   rw [hb] at h
   cases o with
   | cells c elem fr => obtain ⟨lo, hi⟩ := fr; exact h
   | _ => exact h
 ·simp only [World.shape?] at h ⊢
  rw [freeze_heap, if_neg e]; exact h
theorem run_sameS {w : World} {q n B m : Nat} (hq : B <= q) (hs : w.shape? q = some (5, m)) : ∃ w', (convert 22 22 (.slice (some ⟨q, 0, none⟩) n n)).run Tryz.prog w = .ok (.slice (some ⟨q, 0, none⟩) n n) w' /\ Fre.KeptC B w w' := by
 refine ⟨w.freeze ⟨q, m, none⟩ 1, ?_, ⟨⟨rfl, rfl, rfl, by simp [World.freeze], fun k hk => ?_⟩, fun p v hp => freeze_cell w q _ p v hp, fun p t k hp => freeze_shape w q _ p t k hp⟩⟩
 ·unfold convert
  simp [run_underlying Tryz.underlying22, run_underlying Tryz.underlying5, markStringish, hs, Result.andThen]
 ·have hne : q ≠ k := by omega
  simp [World.freeze, Array.getElem?_modify, hne]
theorem bytesAt_C {B : Nat} {w w' : World} {q c : Nat} {l : List Nat} (h : BytesAt w (some ⟨q, 0, none⟩) c l) (hk : Fre.KeptC B w w') : BytesAt w' (some ⟨q, 0, none⟩) c l := by
 refine ⟨h.1, fun h0 => ?_⟩
 obtain ⟨g, o, h1, h2, h3, h4⟩ := h.2 h0
 exact ⟨g, o, h1, h2, Nat.lt_of_lt_of_le h3 hk.b.size, fun j hj => hk.c _ _ (h4 j hj)⟩
def markG : List Nat := [71, 65, 82, 68, 82, 79, 66, 69]
theorem markG_lt : ∀ x ∈ markG, x < 256 := by decide
def superRaw (n t : Nat) : List Nat := markG ++ (lowB 2 1 ++ (lowB 2 n ++ lowB 2 t))
def superB (n t : Nat) : List Nat := padZ (superRaw n t) 256
theorem superRaw_lt (n t : Nat) : ∀ x ∈ superRaw n t, x < 256 := all_app markG_lt (all_app (lowB_lt 2 1) (all_app (lowB_lt 2 n) (lowB_lt 2 t)))
theorem superRaw_len (n t : Nat) : (superRaw n t).length = 14 := by simp [superRaw, markG, lowB_len]
theorem shape_C {B q k : Nat} {t : TypeId} {w w' : World} (h : w.shape? q = some (t, k)) (hk : Fre.KeptC B w w') : w'.shape? q = some (t, k) := hk.s q t k h
theorem parts_C {B ps po : Nat} {w w' : World} {L : Parts} (h : PartsIn w ps po L) (hk : Fre.KeptC B w w') : PartsIn w' ps po L := by
 refine ⟨Nat.lt_of_lt_of_le h.1 hk.b.size, fun k s hs => ?_⟩
 obtain ⟨h1, h2, h3⟩ := h.2 k s hs
 refine ⟨hk.c _ _ h1, ⟨h2.1, fun h0 => ?_⟩, h3⟩
 obtain ⟨g, o, e1, e2, e3, e4⟩ := h2.2 h0
 exact ⟨g, o, e1, e2, Nat.lt_of_lt_of_le e3 hk.b.size, fun j hj => hk.c _ _ (e4 j hj)⟩
def opsSuB : {o : Array Oper // some o = (Tryz.f198.body.bind (Fre.findR 4))} := ⟨_, rfl⟩
theorem fitSuB : Fre.fit .any opsSuB.1 26 = true := by kernel_rfl
theorem sizeSuB : opsSuB.1.size = 14 := by kernel_rfl
def VSuB (n t gb B : Nat) (i : Nat) (v : Value) (w : World) : Prop := match i with
 | 0 => ∃ q, v = .slice (some ⟨q, 0, none⟩) 8 8 /\ B <= q /\ BytesAt w (some ⟨q, 0, none⟩) 8 markG /\ (w.shape? q = some (5, 8))
 | 1 => ∃ q, v = .slice (some ⟨q, 0, none⟩) 8 8 /\ BytesAt w (some ⟨q, 0, none⟩) 8 markG
 | 2 => ∃ q, v = .slice (some ⟨q, 0, none⟩) 2 2 /\ BytesAt w (some ⟨q, 0, none⟩) 2 (lowB 2 1)
 | 3 => v = .pointer (some ⟨gb, 0, none⟩)
 | 4 => v = .int .i64 (n : Int)
 | 5 => v = .int .u64 (n : Int)
 | 6 => ∃ q, v = .slice (some ⟨q, 0, none⟩) 2 2 /\ BytesAt w (some ⟨q, 0, none⟩) 2 (lowB 2 n)
 | 7 => v = .pointer (some ⟨gb, 1, none⟩)
 | 8 => v = .int .i64 (t : Int)
 | 9 => v = .int .u64 (t : Int)
 | 10 => ∃ q, v = .slice (some ⟨q, 0, none⟩) 2 2 /\ BytesAt w (some ⟨q, 0, none⟩) 2 (lowB 2 t)
 | 11 => ∃ q, v = .slice (some ⟨q, 0, none⟩) 4 4 /\ ∃ q0 q1 q2 q3, PartsIn w q 0 [(some ⟨q0, 0, none⟩, 8, markG), (some ⟨q1, 0, none⟩, 2, lowB 2 1), (some ⟨q2, 0, none⟩, 2, lowB 2 n), (some ⟨q3, 0, none⟩, 2, lowB 2 t)]
 | 12 => ∃ q c, v = .slice (some ⟨q, 0, none⟩) 14 c /\ BytesAt w (some ⟨q, 0, none⟩) c (superRaw n t)
 | 13 => ∃ q c, v = .slice (some ⟨q, 0, none⟩) 14 c /\ BytesAt w (some ⟨q, 0, none⟩) c (superRaw n t)
 | _ => True
section
variable {u0 u2 u3 u4 u5 u6 u7 u8 u9 u10 u11 u12 u13 u14 u15 u16 u17 u18 u19 u20 u21 u22 u23 u24 u25 : Value}
theorem kpSuB (n t gb B : Nat) : ∀ j v w w', j < opsSuB.1.size -> VSuB n t gb B j v w -> (Fre.KeptC B) w w' -> VSuB n t gb B j v w' := by
 intro j v w w' hj h hs
 rw [sizeSuB] at hj;rcases cs14 hj with rfl | rfl | rfl | rfl | rfl | rfl | rfl | rfl | rfl | rfl | rfl | rfl | rfl | rfl
 any_goals exact h
 ·change ∃ q, v = .slice (some ⟨q, 0, none⟩) 8 8 /\ B <= q /\ BytesAt w (some ⟨q, 0, none⟩) 8 markG /\ (w.shape? q = some (5, 8)) at h
  obtain ⟨q, h1, h2, h3, h4⟩ := h
  exact ⟨q, h1, h2, bytesAt_C h3 hs, shape_C h4 hs⟩
 ·change ∃ q, v = .slice (some ⟨q, 0, none⟩) 8 8 /\ BytesAt w (some ⟨q, 0, none⟩) 8 markG at h
  obtain ⟨q, h1, h2⟩ := h
  exact ⟨q, h1, bytesAt_C h2 hs⟩
 ·change ∃ q, v = .slice (some ⟨q, 0, none⟩) 2 2 /\ BytesAt w (some ⟨q, 0, none⟩) 2 (lowB 2 1) at h
  obtain ⟨q, h1, h2⟩ := h
  exact ⟨q, h1, bytesAt_C h2 hs⟩
 ·change ∃ q, v = .slice (some ⟨q, 0, none⟩) 2 2 /\ BytesAt w (some ⟨q, 0, none⟩) 2 (lowB 2 n) at h
  obtain ⟨q, h1, h2⟩ := h
  exact ⟨q, h1, bytesAt_C h2 hs⟩
 ·change ∃ q, v = .slice (some ⟨q, 0, none⟩) 2 2 /\ BytesAt w (some ⟨q, 0, none⟩) 2 (lowB 2 t) at h
  obtain ⟨q, h1, h2⟩ := h
  exact ⟨q, h1, bytesAt_C h2 hs⟩
 ·change ∃ q, v = .slice (some ⟨q, 0, none⟩) 4 4 /\ ∃ q0 q1 q2 q3, PartsIn w q 0 [(some ⟨q0, 0, none⟩, 8, markG), (some ⟨q1, 0, none⟩, 2, lowB 2 1), (some ⟨q2, 0, none⟩, 2, lowB 2 n), (some ⟨q3, 0, none⟩, 2, lowB 2 t)] at h
  obtain ⟨q, h1, q0, q1, q2, q3, h2⟩ := h
  exact ⟨q, h1, q0, q1, q2, q3, parts_C h2 hs⟩
 ·change ∃ q c, v = .slice (some ⟨q, 0, none⟩) 14 c /\ BytesAt w (some ⟨q, 0, none⟩) c (superRaw n t) at h
  obtain ⟨q, c, h1, h2⟩ := h
  exact ⟨q, c, h1, bytesAt_C h2 hs⟩
 ·change ∃ q c, v = .slice (some ⟨q, 0, none⟩) 14 c /\ BytesAt w (some ⟨q, 0, none⟩) c (superRaw n t) at h
  obtain ⟨q, c, h1, h2⟩ := h
  exact ⟨q, c, h1, bytesAt_C h2 hs⟩
variable {n t gb B : Nat} {a0 : Act} {w0 : World} (h0 : w0.heap[gb]? = some (.cells #[.int .i64 (n : Int), .int .i64 (t : Int)] 44 (0, 0))) (hn : n <= 64) (ht : t <= 24) (hB : B <= w0.heap.size)
include h0 hn ht hB
theorem stSuB_0 : Fre.StepB Tryz.prog opsSuB.1 a0 w0 (VSuB n t gb B) (Fre.KeptC B) 0 := by
 rintro E w hc hf hE hV hN hS _ ⟨⟩
 simp only [opsSuB, gA, gS, gZ]
 refine Fre.Does.value (v := .slice (some ⟨w.heap.size, 0, none⟩) 8 8) (w' := w.alloc (.cells (bA markG) 5)) ?_ ⟨⟨_, rfl, Nat.le_trans hB hS.b.size, bytesAt_block markG_lt (heap_new' _ _), by simp only [World.shape?, heap_new' w _]; rfl⟩, Fre.KeptC.of (below_box _ _) (Nat.le_trans hB hS.b.size)⟩
 show _ = Result.ok (Next.value _) (w.alloc (.cells #[.int .u8 71, .int .u8 65, .int .u8 82, .int .u8 68, .int .u8 82, .int .u8 79, .int .u8 66, .int .u8 69] 5))
 go_simp
theorem stSuB_1 : Fre.StepB Tryz.prog opsSuB.1 a0 w0 (VSuB n t gb B) (Fre.KeptC B) 1 := by
 rintro E w hc hf hE hV hN hS _ ⟨⟩
 simp only [opsSuB, gA, gS, gZ]
 have d0 := hV 0 11 (by kernel_rfl) (by kernel_rfl)
 replace d0 : (fun v : Value => ∃ q, v = .slice (some ⟨q, 0, none⟩) 8 8 /\ B <= q /\ BytesAt w (some ⟨q, 0, none⟩) 8 markG /\ (w.shape? q = some (5, 8))) (E (.tmp 11)) := d0
 simp only at d0
 obtain ⟨q, d0, z0, f0, s0⟩ := d0
 obtain ⟨w', hr, hkc⟩ := run_sameS (n := 8) z0 s0
 refine Fre.Does.value (v := .slice (some ⟨q, 0, none⟩) 8 8) (w' := w') ?_ ⟨⟨q, rfl, bytesAt_C f0 hkc⟩, hkc⟩
 unfold execOp;simp only [d0, Sem.run_bind, hr, Result.andThen_ok]
 rfl
theorem stSuB_2 : Fre.StepB Tryz.prog opsSuB.1 a0 w0 (VSuB n t gb B) (Fre.KeptC B) 2 := by
 rintro E w hc hf hE hV hN hS _ ⟨⟩
 simp only [opsSuB, gA, gS, gZ]
 refine Fre.Does.enter (f := 256) (args := #[.int .i64 2, .int .u64 1]) (w' := w) ?_ ((put_c 2 1 (by omega) (by omega) (by omega) 2 1 rfl rfl w).mono ?_)
 ·go_simp
 ·rintro e w' ⟨q, rfl, hq1, hq2, hq3, hk'⟩
  have hq4 := bytesAt_block (lowB_lt 2 1) hq3
  rw [lowB_len] at hq4;exact ⟨_, rfl, ⟨q, rfl, hq4⟩, Fre.KeptC.of hk' (Nat.le_trans hB hS.b.size)⟩
theorem stSuB_3 (g91 : a0.tmps.getD 1 undef = .pointer (some ⟨gb, 0, none⟩)) : Fre.StepB Tryz.prog opsSuB.1 a0 w0 (VSuB n t gb B) (Fre.KeptC B) 3 := by
 rintro E w hc hf hE hV hN hS _ ⟨⟩
 simp only [opsSuB, gA, gS, gZ]
 have b1 : E (.tmp 1) = .pointer (some ⟨gb, 0, none⟩) := (hE 1 (by kernel_rfl)).trans g91
 clear g91;refine Fre.Does.value (v := .pointer (some ⟨gb, 0, none⟩)) (w' := w) ?_ ⟨rfl, Fre.KeptC.refl _ _⟩
 go_simp
theorem stSuB_4 : Fre.StepB Tryz.prog opsSuB.1 a0 w0 (VSuB n t gb B) (Fre.KeptC B) 4 := by
 rintro E w hc hf hE hV hN hS _ ⟨⟩
 simp only [opsSuB, gA, gS, gZ]
 have d3 : E (.tmp 14) = .pointer (some ⟨gb, 0, none⟩) := hV 3 14 (by kernel_rfl) (by kernel_rfl)
 have c0 : w.cell? ⟨gb, 0, none⟩ = some (.int .i64 (n : Int)) := hS.c _ _ ((cells_at h0 0).trans rfl)
 refine Fre.Does.value (v := .int .i64 (n : Int)) (w' := w) ?_ ⟨rfl, Fre.KeptC.refl _ _⟩
 go_simp
theorem stSuB_5 : Fre.StepB Tryz.prog opsSuB.1 a0 w0 (VSuB n t gb B) (Fre.KeptC B) 5 := by
 rintro E w hc hf hE hV hN hS _ ⟨⟩
 simp only [opsSuB, gA, gS, gZ]
 have d4 : E (.tmp 15) = .int .i64 (n : Int) := hV 4 15 (by kernel_rfl) (by kernel_rfl)
 have e1 := u64_natT n (by omega)
 refine Fre.Does.value (v := .int .u64 (n : Int)) (w' := w) ?_ ⟨rfl, Fre.KeptC.refl _ _⟩
 go_simp
theorem stSuB_6 : Fre.StepB Tryz.prog opsSuB.1 a0 w0 (VSuB n t gb B) (Fre.KeptC B) 6 := by
 rintro E w hc hf hE hV hN hS _ ⟨⟩
 simp only [opsSuB, gA, gS, gZ]
 have d5 : E (.tmp 16) = .int .u64 (n : Int) := hV 5 16 (by kernel_rfl) (by kernel_rfl)
 refine Fre.Does.enter (f := 256) (args := #[.int .i64 2, .int .u64 (n : Int)]) (w' := w) ?_ ((put_c 2 n (by omega) (by omega) (by omega) 2 (n : Int) rfl rfl w).mono ?_)
 ·go_simp
 ·rintro e w' ⟨q, rfl, hq1, hq2, hq3, hk'⟩
  have hq4 := bytesAt_block (lowB_lt 2 n) hq3
  rw [lowB_len] at hq4;exact ⟨_, rfl, ⟨q, rfl, hq4⟩, Fre.KeptC.of hk' (Nat.le_trans hB hS.b.size)⟩
theorem stSuB_7 (g91 : a0.tmps.getD 1 undef = .pointer (some ⟨gb, 0, none⟩)) : Fre.StepB Tryz.prog opsSuB.1 a0 w0 (VSuB n t gb B) (Fre.KeptC B) 7 := by
 rintro E w hc hf hE hV hN hS _ ⟨⟩
 simp only [opsSuB, gA, gS, gZ]
 have b1 : E (.tmp 1) = .pointer (some ⟨gb, 0, none⟩) := (hE 1 (by kernel_rfl)).trans g91
 clear g91;refine Fre.Does.value (v := .pointer (some ⟨gb, 1, none⟩)) (w' := w) ?_ ⟨rfl, Fre.KeptC.refl _ _⟩
 go_simp
theorem stSuB_8 : Fre.StepB Tryz.prog opsSuB.1 a0 w0 (VSuB n t gb B) (Fre.KeptC B) 8 := by
 rintro E w hc hf hE hV hN hS _ ⟨⟩
 simp only [opsSuB, gA, gS, gZ]
 have d7 : E (.tmp 18) = .pointer (some ⟨gb, 1, none⟩) := hV 7 18 (by kernel_rfl) (by kernel_rfl)
 have c0 : w.cell? ⟨gb, 1, none⟩ = some (.int .i64 (t : Int)) := hS.c _ _ ((cells_at h0 1).trans rfl)
 refine Fre.Does.value (v := .int .i64 (t : Int)) (w' := w) ?_ ⟨rfl, Fre.KeptC.refl _ _⟩
 go_simp
theorem stSuB_9 : Fre.StepB Tryz.prog opsSuB.1 a0 w0 (VSuB n t gb B) (Fre.KeptC B) 9 := by
 rintro E w hc hf hE hV hN hS _ ⟨⟩
 simp only [opsSuB, gA, gS, gZ]
 have d8 : E (.tmp 19) = .int .i64 (t : Int) := hV 8 19 (by kernel_rfl) (by kernel_rfl)
 have e1 := u64_natT t (by omega)
 refine Fre.Does.value (v := .int .u64 (t : Int)) (w' := w) ?_ ⟨rfl, Fre.KeptC.refl _ _⟩
 go_simp
theorem stSuB_10 : Fre.StepB Tryz.prog opsSuB.1 a0 w0 (VSuB n t gb B) (Fre.KeptC B) 10 := by
 rintro E w hc hf hE hV hN hS _ ⟨⟩
 simp only [opsSuB, gA, gS, gZ]
 have d9 : E (.tmp 20) = .int .u64 (t : Int) := hV 9 20 (by kernel_rfl) (by kernel_rfl)
 refine Fre.Does.enter (f := 256) (args := #[.int .i64 2, .int .u64 (t : Int)]) (w' := w) ?_ ((put_c 2 t (by omega) (by omega) (by omega) 2 (t : Int) rfl rfl w).mono ?_)
 ·go_simp
 ·rintro e w' ⟨q, rfl, hq1, hq2, hq3, hk'⟩
  have hq4 := bytesAt_block (lowB_lt 2 t) hq3
  rw [lowB_len] at hq4;exact ⟨_, rfl, ⟨q, rfl, hq4⟩, Fre.KeptC.of hk' (Nat.le_trans hB hS.b.size)⟩
theorem stSuB_11 : Fre.StepB Tryz.prog opsSuB.1 a0 w0 (VSuB n t gb B) (Fre.KeptC B) 11 := by
 rintro E w hc hf hE hV hN hS _ ⟨⟩
 simp only [opsSuB, gA, gS, gZ]
 have d1 := hV 1 12 (by kernel_rfl) (by kernel_rfl)
 replace d1 : (fun v : Value => ∃ q, v = .slice (some ⟨q, 0, none⟩) 8 8 /\ BytesAt w (some ⟨q, 0, none⟩) 8 markG) (E (.tmp 12)) := d1
 simp only at d1
 have d2 := hV 2 13 (by kernel_rfl) (by kernel_rfl)
 replace d2 : (fun v : Value => ∃ q, v = .slice (some ⟨q, 0, none⟩) 2 2 /\ BytesAt w (some ⟨q, 0, none⟩) 2 (lowB 2 1)) (E (.tmp 13)) := d2
 simp only at d2
 have d6 := hV 6 17 (by kernel_rfl) (by kernel_rfl)
 replace d6 : (fun v : Value => ∃ q, v = .slice (some ⟨q, 0, none⟩) 2 2 /\ BytesAt w (some ⟨q, 0, none⟩) 2 (lowB 2 n)) (E (.tmp 17)) := d6
 simp only at d6
 have d10 := hV 10 21 (by kernel_rfl) (by kernel_rfl)
 replace d10 : (fun v : Value => ∃ q, v = .slice (some ⟨q, 0, none⟩) 2 2 /\ BytesAt w (some ⟨q, 0, none⟩) 2 (lowB 2 t)) (E (.tmp 21)) := d10
 simp only at d10
 obtain ⟨q0, d1, f0⟩ := d1
 obtain ⟨q1, d2, f1⟩ := d2
 obtain ⟨q2, d6, f2⟩ := d6
 obtain ⟨q3, d10, f3⟩ := d10
 obtain ⟨w', hw'⟩ : ∃ w', w' = w.alloc (.cells #[.slice (some ⟨q0, 0, none⟩) 8 8, .slice (some ⟨q1, 0, none⟩) 2 2, .slice (some ⟨q2, 0, none⟩) 2 2, .slice (some ⟨q3, 0, none⟩) 2 2] 22) := ⟨_, rfl⟩
 have hkb : Below w.heap.size w w' := by rw [hw']; exact below_box _ _
 have hnw : w'.heap[w.heap.size]? = some (.cells #[.slice (some ⟨q0, 0, none⟩) 8 8, .slice (some ⟨q1, 0, none⟩) 2 2, .slice (some ⟨q2, 0, none⟩) 2 2, .slice (some ⟨q3, 0, none⟩) 2 2] 22 (0, 0)) := by rw [hw']; exact heap_new' _ _
 refine Fre.Does.value (v := .slice (some ⟨w.heap.size, 0, none⟩) 4 4) (w' := w') ?_ ⟨⟨_, rfl, q0, q1, q2, q3, parts_of hnw (by simp [lowB_len, markG]) (List.forall_mem_cons.2 ⟨⟨f0.up hkb (Nat.le_refl _), Nat.zero_lt_succ _⟩, List.forall_mem_cons.2 ⟨⟨f1.up hkb (Nat.le_refl _), by rw [lowB_len]; decide⟩, List.forall_mem_cons.2 ⟨⟨f2.up hkb (Nat.le_refl _), by rw [lowB_len]; decide⟩, List.forall_mem_cons.2 ⟨⟨f3.up hkb (Nat.le_refl _), by rw [lowB_len]; decide⟩, List.forall_mem_nil _⟩⟩⟩⟩)⟩, Fre.KeptC.of hkb (Nat.le_trans hB hS.b.size)⟩
 rw [hw'];clear hw' hkb hnw f0 f1 f2 f3
 go_simp
theorem stSuB_12 : Fre.StepB Tryz.prog opsSuB.1 a0 w0 (VSuB n t gb B) (Fre.KeptC B) 12 := by
 rintro E w hc hf hE hV hN hS _ ⟨⟩
 simp only [opsSuB, gA, gS, gZ]
 have d11 := hV 11 22 (by kernel_rfl) (by kernel_rfl)
 replace d11 : (fun v : Value => ∃ q, v = .slice (some ⟨q, 0, none⟩) 4 4 /\ ∃ q0 q1 q2 q3, PartsIn w q 0 [(some ⟨q0, 0, none⟩, 8, markG), (some ⟨q1, 0, none⟩, 2, lowB 2 1), (some ⟨q2, 0, none⟩, 2, lowB 2 n), (some ⟨q3, 0, none⟩, 2, lowB 2 t)]) (E (.tmp 22)) := d11
 simp only at d11
 obtain ⟨q, d11, q0, q1, q2, q3, hpi⟩ := d11
 have hcat : catP [(some (⟨q0, 0, none⟩ : Addr), 8, markG), (some ⟨q1, 0, none⟩, 2, lowB 2 1), (some ⟨q2, 0, none⟩, 2, lowB 2 n), (some ⟨q3, 0, none⟩, 2, lowB 2 t)] = superRaw n t := by simp [catP, superRaw]
 have hcc := concatP_c _ q 0 4 w hpi (by rw [hcat, superRaw_len]; decide) (by rw [hcat, superRaw_len]; decide) (by simp)
 rw [hcat, superRaw_len] at hcc
 refine Fre.Does.enter (f := 255) (args := #[.slice (some ⟨q, 0, none⟩) 4 4]) (w' := w) ?_ (hcc.mono ?_)
 ·go_simp
 ·rintro e w' ⟨v, rfl, hown, hk'⟩
  obtain ⟨q9, c9, rfl, _, _⟩ := own_pos hown (by decide)
  exact ⟨_, rfl, ⟨q9, c9, rfl, (own_bytesAt hown (superRaw_lt n t)).2⟩, Fre.KeptC.of hk' (Nat.le_trans hB hS.b.size)⟩
theorem stSuB_13 : Fre.StepB Tryz.prog opsSuB.1 a0 w0 (VSuB n t gb B) (Fre.KeptC B) 13 := by
 rintro E w hc hf hE hV hN hS _ ⟨⟩
 simp only [opsSuB, gA, gS, gZ]
 have d12 := hV 12 23 (by kernel_rfl) (by kernel_rfl)
 replace d12 : (fun v : Value => ∃ q c, v = .slice (some ⟨q, 0, none⟩) 14 c /\ BytesAt w (some ⟨q, 0, none⟩) c (superRaw n t)) (E (.tmp 23)) := d12
 simp only at d12
 refine Fre.Does.value (v := E (.tmp 23)) (w' := w) ?_ ⟨d12, Fre.KeptC.refl _ _⟩
 go_simp
variable (n t gb B w0)
theorem regionSuB {QQ : Exit -> Act -> World -> Prop} (hQ : ∀ (vs : Nat -> Value) w, (∀ j, j < 14 -> VSuB n t gb B j (vs j) w) -> (Fre.KeptC B) w0 w -> QQ .normal ⟨#[u0, .pointer (some ⟨gb, 0, none⟩), u2, u3, u4, vs 13, u6, u7, u8, u9, u10, vs 0, vs 1, vs 2, vs 3, vs 4, vs 5, vs 6, vs 7, vs 8, vs 9, vs 10, vs 11, vs 12, u24, u25], []⟩ w) : (Code.region 4 opsSuB.1 true).wp Tryz.prog QQ ⟨#[u0, .pointer (some ⟨gb, 0, none⟩), u2, u3, u4, u5, u6, u7, u8, u9, u10, u11, u12, u13, u14, u15, u16, u17, u18, u19, u20, u21, u22, u23, u24, u25], []⟩ w0 := by
 refine Fre.region_keptC (B := B) 26 (by kernel_rfl) fitSuB rfl (VSuB n t gb B) (kpSuB n t gb B) (fun i hi => ?_) (fun vs w h1 h2 => ?_)
 case refine_2 =>
  have h9 := hQ vs w (fun j hj => h1 j (by rw [sizeSuB]; exact hj)) h2
  exact Fre.fe (p := fun t => QQ .normal ⟨t, []⟩ w) h9 (by kernel_rfl)
 rw [sizeSuB] at hi;rcases cs14 hi with rfl | rfl | rfl | rfl | rfl | rfl | rfl | rfl | rfl | rfl | rfl | rfl | rfl | rfl
 ·exact stSuB_0 h0 hn ht hB
 ·exact stSuB_1 h0 hn ht hB
 ·exact stSuB_2 h0 hn ht hB
 ·exact stSuB_3 h0 hn ht hB rfl
 ·exact stSuB_4 h0 hn ht hB
 ·exact stSuB_5 h0 hn ht hB
 ·exact stSuB_6 h0 hn ht hB
 ·exact stSuB_7 h0 hn ht hB rfl
 ·exact stSuB_8 h0 hn ht hB
 ·exact stSuB_9 h0 hn ht hB
 ·exact stSuB_10 h0 hn ht hB
 ·exact stSuB_11 h0 hn ht hB
 ·exact stSuB_12 h0 hn ht hB
 ·exact stSuB_13 h0 hn ht hB
end
theorem superBytes_c {n t : Nat} (hg : geoB n t = true) (w : World) :
  Calls Tryz.prog 198 #[.agg #[.int .i64 (n : Int), .int .i64 (t : Int)]] w fun r w' => ∃ b, r = .returned (.tuple #[.slice (some ⟨b, 0, none⟩) 256 256, .int .i64 0]) /\ w.heap.size <= b /\ w'.heap[b]? = some (.cells (bA (superB n t)) 5 (0, 0)) /\ Below w.heap.size w w' := by
 obtain ⟨S, hS⟩ : ∃ S, S = superB n t := ⟨_, rfl⟩
 rw [<- hS];have HSB := Lib.hid hS;clear hS;have HE := Lib.hid (fun w => gcheck_c n t w)
 rw [geoE_ok hg] at HE
 have HG := Lib.hid (geo_ok hg)
 have HX := Lib.hid (heap_new' w (.cells #[.int .i64 (n : Int), .int .i64 (t : Int)] 44))
 clear hg
 go_enter Tryz.func198, Tryz.ntmps198
 go_wp2_with (first | (refine wpList_load_row rfl 44 (.tmp 1) rfl w.heap.size rfl _ _ _ _ HX.out Tryz.underlying44 rfl (by rw [geo2]; rfl) ?_) | fail)
 refine (HE.out _).mono ?_
 rintro e w1 ⟨rfl, hb1⟩
 have hc1 := (hb1.block w.heap.size (by simp)).trans HX.out
 have HC1 := Lib.hid hc1;have HB1 : Hid (Below w.heap.size w w1) := (below_box w _).trans (hb1.mono (by simp))
 clear hb1 hc1 HX HE
 go_upto_region 4 with fail
 refine regionSuB n t w.heap.size w1.heap.size w1 HC1.out HG.out.2.1 HG.out.2.2.2 (Nat.le_refl _) ?_
 intro vs w2 hv hk;obtain ⟨q, c, v13, f13⟩ := hv 13 (by omega)
 rw [v13];have HB2 : Hid (Below w.heap.size w w2) := HB1.out.trans (hk.b.mono HB1.out.size)
 have HP := Lib.hid (wpad_c (some ⟨q, 0, none⟩) 14 c (superRaw n t) (superRaw_len n t) (by omega) 256 (by omega) (by omega) 256 rfl w2 f13)
 rw [show padZ (superRaw n t) 256 = superB n t from rfl, <- HSB.out] at HP
 clear hv hk v13 f13;go_wp2_with fail
 refine HP.out.mono ?_
 rintro e w3 ⟨b, rfl, hb1, hb2, hb3, hb4⟩
 have HB3 : Hid (Below w.heap.size w w3) := HB2.out.trans (hb4.mono HB2.out.size)
 have HQ := Lib.hid (And.intro (Nat.le_trans HB2.out.size hb1) hb3)
 clear hb1 hb2 hb3 hb4;go_wp2
 go_ret2
 exact ⟨b, rfl, HQ.out.1, HQ.out.2, HB3.out⟩
end Go.Proofs.YtnmdjggdgakeoaaGreat
