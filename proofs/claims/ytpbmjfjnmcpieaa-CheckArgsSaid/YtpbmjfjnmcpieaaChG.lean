/- Contracts of package geom for Check: Check, Sealed, Maps, PageAt; the reference's May, Maps, Sealed. -/
import Derived.Test.YtpbmjfjnmcpieaaChE
set_option linter.unusedVariables false
set_option linter.unusedSimpArgs false
namespace Go.Proofs.Ytpbmjfjnmcpieaa
open Go Go.RowKit Go.Lib
/-- may a geometry be -/
def geoB (p t : Int) : Bool := decide (1 ≤ p) && decide (p ≤ 64) && decide (4 ≤ t) && decide (t ≤ 24)
theorem geoB_iff (p t : Int) : geoB p t = true ↔ 1 ≤ p ∧ p ≤ 64 ∧ 4 ≤ t ∧ t ≤ 24 := by
  unfold geoB; simp [and_assoc]
/-- the program's word -/
def geoE (p t : Int) : Int := if geoB p t then 0 else 1
theorem geo2 : (Try.prog.info? 23).map (·.size) = some 2 := by kernel_rfl
theorem quiet_load_rowG {P : Program} {ops : Array Oper} {C : World → Prop} {Q : Act → Prop} {rest : List Oper} {o : Oper} {a : Act} (hgd : Region.wanted o (yielded ops a.tmps) = true) (ty : TypeId) (x : Operand) (ho : o.op = .load ty x)
    (g : Nat) (hx : a.eval x = .pointer (some ⟨g, 0, none⟩)) (t : TypeId) (cs : Array Value) (fr : Nat × Nat) (d : TypeDesc) (hg : ∀ w, C w → w.heap[g]? = some (.cells cs t fr))
    (hu : P.underlying ty = some d) (hd : (match d with | .struct _ | .array _ _ => true | _ => false) = true) (hi : (P.info? ty).map (·.size) = some cs.size)
    (h : wpQuiet P ops C Q rest (a.put o.dst (.agg cs))) : wpQuiet P ops C Q (o :: rest) a :=
  wpQuiet_step fun K hK => by
    rw [if_pos hgd]
    refine ⟨.agg cs, fun w hw => ?_, hK _ h⟩
    unfold Oper.quietAt execOp
    simp only [ho, hx, Instr.loadAt, Instr.sureAddr, Sem.run_bind, Sem.run_pure, Result.andThen_ok, run_loadVar_row w g t ty cs fr d (hg w hw) hu hd hi]
    exact ⟨rfl, rfl⟩
theorem below_drewG {B : Nat} {a w : World} (h : Below B a w) (n : Nat) : Below B a (w.drewN n) := ⟨h.os, h.tape, h.output, h.size, h.block⟩
theorem below_box (w : World) (o : Obj) : Below w.heap.size w (w.alloc o) := (Below.refl _ _).alloc (Nat.le_refl _) _
set_option maxRecDepth 100000 in
set_option maxHeartbeats 1000000 in
theorem gcheck_c (p t : Int) (w : World) :
    Calls Try.prog 9 #[.agg #[.int .i64 p, .int .i64 t]] w fun e w' => e = .returned (.int .i64 (geoE p t)) ∧ Below w.heap.size w w' := by
  by_cases h1 : p < 1
  · have d1 : decide (p < 1) = true := by simpa using h1
    have HG : Hid (geoE p t = 1) := by show _ = _; unfold geoE geoB; rw [if_neg]; simp; omega
    go_enter Try.func9, Try.ntmps9
    go_wp2
    go_ret
    exact ⟨by rw [HG.out]; rfl, below_box _ _⟩
  · have d1 : decide (p < 1) = false := by simpa using h1
    by_cases h2 : p > 64
    · have d2 : decide (p > 64) = true := by simpa using h2
      have HG : Hid (geoE p t = 1) := by show _ = _; unfold geoE geoB; rw [if_neg]; simp; omega
      go_enter Try.func9, Try.ntmps9
      go_wp2
      go_ret
      exact ⟨by rw [HG.out]; rfl, below_box _ _⟩
    · have d2 : decide (p > 64) = false := by simpa using h2
      by_cases h3 : t < 4
      · have d3 : decide (t < 4) = true := by simpa using h3
        have HG : Hid (geoE p t = 1) := by show _ = _; unfold geoE geoB; rw [if_neg]; simp; omega
        go_enter Try.func9, Try.ntmps9
        go_wp2
        go_ret
        exact ⟨by rw [HG.out]; rfl, below_box _ _⟩
      · have d3 : decide (t < 4) = false := by simpa using h3
        by_cases h4 : t > 24
        · have d4 : decide (t > 24) = true := by simpa using h4
          have HG : Hid (geoE p t = 1) := by show _ = _; unfold geoE geoB; rw [if_neg]; simp; omega
          go_enter Try.func9, Try.ntmps9
          go_wp2
          go_ret
          exact ⟨by rw [HG.out]; rfl, below_box _ _⟩
        · have d4 : decide (t > 24) = false := by simpa using h4
          have HG : Hid (geoE p t = 0) := by show _ = _; unfold geoE geoB; rw [if_pos]; simp; omega
          go_enter Try.func9, Try.ntmps9
          go_wp2
          go_ret
          exact ⟨by rw [HG.out]; rfl, below_box _ _⟩
set_option maxRecDepth 100000 in
set_option maxHeartbeats 1000000 in
theorem rgmay_c (p t : Int) (w : World) :
    Calls Try.prog 5 #[.agg #[.int .i64 p, .int .i64 t]] w fun e w' => e = .returned (.bool (geoB p t)) ∧ Below w.heap.size w w' := by
  by_cases h1 : p ≥ 1
  · have d1 : decide (p ≥ 1) = true := by simpa using h1
    by_cases h2 : p ≤ 64
    · have d2 : decide (p ≤ 64) = true := by simpa using h2
      by_cases h3 : t ≥ 4
      · have d3 : decide (t ≥ 4) = true := by simpa using h3
        by_cases h4 : t ≤ 24
        · have d4 : decide (t ≤ 24) = true := by simpa using h4
          have HG : Hid (geoB p t = true) := by show _ = _; unfold geoB; simp; omega
          go_enter Try.func5, Try.ntmps5
          go_wp2
          go_ret
          exact ⟨by rw [HG.out]; rfl, below_box _ _⟩
        · have d4 : decide (t ≤ 24) = false := by simpa using h4
          have HG : Hid (geoB p t = false) := by show _ = _; unfold geoB; simp; omega
          go_enter Try.func5, Try.ntmps5
          go_wp2
          go_ret
          exact ⟨by rw [HG.out]; rfl, below_box _ _⟩
      · have d3 : decide (t ≥ 4) = false := by simpa using h3
        have HG : Hid (geoB p t = false) := by show _ = _; unfold geoB; simp; omega
        go_enter Try.func5, Try.ntmps5
        go_wp2
        go_ret
        exact ⟨by rw [HG.out]; rfl, below_box _ _⟩
    · have d2 : decide (p ≤ 64) = false := by simpa using h2
      have HG : Hid (geoB p t = false) := by show _ = _; unfold geoB; simp; omega
      go_enter Try.func5, Try.ntmps5
      go_wp2
      go_ret
      exact ⟨by rw [HG.out]; rfl, below_box _ _⟩
  · have d1 : decide (p ≥ 1) = false := by simpa using h1
    have HG : Hid (geoB p t = false) := by show _ = _; unfold geoB; simp; omega
    go_enter Try.func5, Try.ntmps5
    go_wp2
    go_ret
    exact ⟨by rw [HG.out]; rfl, below_box _ _⟩
def mapsN (p : Nat) : Nat := (p + 15) / 16
def sealedN (p : Nat) : Nat := 1 + mapsN p + p
set_option maxRecDepth 100000 in
set_option maxHeartbeats 1000000 in
theorem up16_c (n : Nat) (hn : n ≤ 64) (w : World) :
    Calls Try.prog 44 #[.int .i64 (n : Int), .int .i64 16] w fun e w' => e = .returned (.int .i64 (mapsN n : Int)) ∧ w = w' := by
  have e1 : IntKind.i64.wrap ((n : Int) + 16) = (n : Int) + 16 := IntWalk.i64_in _ (by omega)
  have e2 : IntKind.i64.wrap ((n : Int) + 16 - 1) = (n : Int) + 15 := by rw [show (n : Int) + 16 - 1 = (n : Int) + 15 by omega]; exact IntWalk.i64_in _ (by omega)
  have e3 : IntKind.i64.wrap (((n : Int) + 15).tdiv 16) = (mapsN n : Int) := by
    rw [show ((n : Int) + 15).tdiv 16 = (mapsN n : Int) by unfold mapsN; rw [Int.tdiv_eq_ediv_of_nonneg (by omega)]; omega]
    exact IntWalk.i64_in _ (by unfold mapsN; omega)
  go_enter Try.func44, Try.ntmps44
  go_wp2
  go_ret
  exact ⟨rfl, rfl⟩
set_option maxRecDepth 100000 in
set_option maxHeartbeats 1000000 in
theorem gsealed_c (n : Nat) (t : Int) (hn : n ≤ 64) (w : World) :
    Calls Try.prog 24 #[.agg #[.int .i64 (n : Int), .int .i64 t]] w fun e w' => e = .returned (.int .i64 (sealedN n : Int)) ∧ Below w.heap.size w w' := by
  have hc : (w.alloc (.cells #[.int .i64 (n : Int), .int .i64 t] 73)).cell? ⟨w.heap.size, 0, none⟩ = some (.int .i64 (n : Int)) := by simp
  have hm : mapsN n ≤ 4 := by unfold mapsN; omega
  obtain ⟨m, hm2⟩ : ∃ m, m = mapsN n := ⟨_, rfl⟩
  have HU : Hid (∀ w, Calls Try.prog 44 #[.int .i64 (n : Int), .int .i64 16] w fun e w' => e = .returned (.int .i64 (m : Int)) ∧ w = w') := by rw [hm2]; exact fun w => up16_c n hn w
  rw [← hm2] at hm
  have e1 : IntKind.i64.wrap (1 + (m : Int)) = 1 + (m : Int) := IntWalk.i64_in _ (by omega)
  have e2 : IntKind.i64.wrap (1 + (m : Int) + (n : Int)) = 1 + (m : Int) + (n : Int) := IntWalk.i64_in _ (by omega)
  have HS : Hid (sealedN n = 1 + m + n) := by show _ = _; unfold sealedN; rw [hm2]
  have hb := below_box w (.cells #[.int .i64 (n : Int), .int .i64 t] 73)
  obtain ⟨W, hW⟩ : ∃ W, W = w.alloc (.cells #[.int .i64 (n : Int), .int .i64 t] 73) := ⟨_, rfl⟩
  have HB := Lib.hid hb
  clear hm2 hb
  go_enter Try.func24, Try.ntmps24
  go_wp2
  go_quiet ((go_at_call 44; exact Calls.quiet_of_same ((HU.out _).mono fun _ _ h => ⟨h.1, h.2.symm⟩)))
  go_wp2
  go_ret
  exact ⟨by rw [HS.out]; go_num, below_drewG HB.out _⟩
set_option maxRecDepth 100000 in
set_option maxHeartbeats 1000000 in
theorem gmaps1_c (n : Nat) (t : Int) (hn : n ≤ 64) (w : World) :
    Calls Try.prog 45 #[.agg #[.int .i64 (n : Int), .int .i64 t]] w fun e w' => e = .returned (.int .i64 (mapsN n : Int)) ∧ Below w.heap.size w w' := by
  have HU : Hid (∀ w, Calls Try.prog 44 #[.int .i64 (n : Int), .int .i64 16] w fun e w' => e = .returned (.int .i64 (mapsN n : Int)) ∧ w = w') := fun w => up16_c n hn w
  go_enter Try.func45, Try.ntmps45
  go_wp2_with fail
  refine (HU.out _).mono ?_
  rintro e w1 ⟨rfl, rfl⟩
  go_wp2
  go_ret
  exact ⟨rfl, below_box _ _⟩
def ifGeo (p t : Int) (m : Nat) : Nat := if geoB p t then m else 0
set_option maxRecDepth 100000 in
set_option maxHeartbeats 1000000 in
theorem asked_sealed_c (p t : Int) (w : World) :
    Calls Try.prog 23 #[.agg #[.int .i64 p, .int .i64 t], .func (.func 24) #[] #[]] w fun e w' => e = .returned (.int .i64 (ifGeo p t (sealedN p.toNat) : Int)) ∧ Below w.heap.size w w' := by
  have HE := Lib.hid (fun w => gcheck_c p t w)
  obtain ⟨x, hx⟩ : ∃ x, x = geoE p t := ⟨_, rfl⟩
  rw [← hx] at HE
  by_cases hg : geoB p t = true
  · have hx0 : x = 0 := by rw [hx]; unfold geoE; rw [if_pos hg]
    have hp := (geoB_iff p t).1 hg
    have HR : Hid (ifGeo p t (sealedN p.toNat) = sealedN p.toNat) := by show _ = _; unfold ifGeo; rw [if_pos hg]
    obtain ⟨n, rfl⟩ : ∃ n : Nat, p = n := ⟨p.toNat, by omega⟩
    have hn : n ≤ 64 := by omega
    rw [Int.toNat_natCast] at HR ⊢
    have HS := Lib.hid (fun w => gsealed_c n t hn w)
    clear hx hg hp hn
    subst hx0
    go_enter Try.func23, Try.ntmps23
    go_wp2_with fail
    refine (HE.out _).mono ?_
    rintro e w1 ⟨rfl, hb1⟩
    have hc1 := (hb1.block w.heap.size (by simp)).trans (heap_new' w _)
    have HB1 : Hid (Below w.heap.size w w1) := (below_box w _).trans (hb1.mono (by simp))
    have hi1 := lt_of_block hc1
    clear hb1
    go_wp2_with (first | (refine wpList_load_row rfl 23 (.tmp 2) rfl w.heap.size rfl _ _ _ _ hc1 Try.underlying23 rfl (by rw [geo2]; rfl) ?_) | fail)
    refine (HS.out _).mono ?_
    rintro e w2 ⟨rfl, hb2⟩
    have HB2 : Hid (Below w.heap.size w w2) := HB1.out.trans (hb2.mono HB1.out.size)
    go_wp2
    go_ret
    exact ⟨by rw [HR.out]; rfl, HB2.out⟩
  · have hg' : geoB p t = false := by simpa using hg
    have hx1 : x = 1 := by rw [hx]; unfold geoE; rw [if_neg hg]
    have HR : Hid (ifGeo p t (sealedN p.toNat) = 0) := by show _ = _; unfold ifGeo; rw [if_neg hg]
    clear hx hg hg'
    subst hx1
    go_enter Try.func23, Try.ntmps23
    go_wp2_with fail
    refine (HE.out _).mono ?_
    rintro e w1 ⟨rfl, hb1⟩
    have HB1 : Hid (Below w.heap.size w w1) := (below_box w _).trans (hb1.mono (by simp))
    go_wp2
    go_ret
    exact ⟨by rw [HR.out]; rfl, HB1.out⟩
set_option maxRecDepth 100000 in
set_option maxHeartbeats 1000000 in
theorem gSealed_c (p t : Int) (w : World) :
    Calls Try.prog 12 #[.agg #[.int .i64 p, .int .i64 t]] w fun e w' => e = .returned (.int .i64 (ifGeo p t (sealedN p.toNat) : Int)) ∧ Below w.heap.size w w' := by
  have HS := Lib.hid (fun w => asked_sealed_c p t w)
  obtain ⟨m, hm⟩ : ∃ m, m = ifGeo p t (sealedN p.toNat) := ⟨_, rfl⟩
  rw [← hm] at HS ⊢
  clear hm
  go_enter Try.func12, Try.ntmps12
  go_wp2_with fail
  refine (HS.out _).mono ?_
  rintro e w1 ⟨rfl, hb1⟩
  have HB1 : Hid (Below w.heap.size w w1) := (below_box w _).trans (hb1.mono (by simp))
  go_wp2
  go_ret
  exact ⟨rfl, HB1.out⟩
set_option maxRecDepth 100000 in
set_option maxHeartbeats 1000000 in
theorem asked_maps_c (p t : Int) (w : World) :
    Calls Try.prog 23 #[.agg #[.int .i64 p, .int .i64 t], .func (.func 45) #[] #[]] w fun e w' => e = .returned (.int .i64 (ifGeo p t (mapsN p.toNat) : Int)) ∧ Below w.heap.size w w' := by
  have HE := Lib.hid (fun w => gcheck_c p t w)
  obtain ⟨x, hx⟩ : ∃ x, x = geoE p t := ⟨_, rfl⟩
  rw [← hx] at HE
  by_cases hg : geoB p t = true
  · have hx0 : x = 0 := by rw [hx]; unfold geoE; rw [if_pos hg]
    have hp := (geoB_iff p t).1 hg
    have HR : Hid (ifGeo p t (mapsN p.toNat) = mapsN p.toNat) := by show _ = _; unfold ifGeo; rw [if_pos hg]
    obtain ⟨n, rfl⟩ : ∃ n : Nat, p = n := ⟨p.toNat, by omega⟩
    have hn : n ≤ 64 := by omega
    rw [Int.toNat_natCast] at HR ⊢
    have HS := Lib.hid (fun w => gmaps1_c n t hn w)
    clear hx hg hp hn
    subst hx0
    go_enter Try.func23, Try.ntmps23
    go_wp2_with fail
    refine (HE.out _).mono ?_
    rintro e w1 ⟨rfl, hb1⟩
    have hc1 := (hb1.block w.heap.size (by simp)).trans (heap_new' w _)
    have HB1 : Hid (Below w.heap.size w w1) := (below_box w _).trans (hb1.mono (by simp))
    have hi1 := lt_of_block hc1
    clear hb1
    go_wp2_with (first | (refine wpList_load_row rfl 23 (.tmp 2) rfl w.heap.size rfl _ _ _ _ hc1 Try.underlying23 rfl (by rw [geo2]; rfl) ?_) | fail)
    refine (HS.out _).mono ?_
    rintro e w2 ⟨rfl, hb2⟩
    have HB2 : Hid (Below w.heap.size w w2) := HB1.out.trans (hb2.mono HB1.out.size)
    go_wp2
    go_ret
    exact ⟨by rw [HR.out]; rfl, HB2.out⟩
  · have hg' : geoB p t = false := by simpa using hg
    have hx1 : x = 1 := by rw [hx]; unfold geoE; rw [if_neg hg]
    have HR : Hid (ifGeo p t (mapsN p.toNat) = 0) := by show _ = _; unfold ifGeo; rw [if_neg hg]
    clear hx hg hg'
    subst hx1
    go_enter Try.func23, Try.ntmps23
    go_wp2_with fail
    refine (HE.out _).mono ?_
    rintro e w1 ⟨rfl, hb1⟩
    have HB1 : Hid (Below w.heap.size w w1) := (below_box w _).trans (hb1.mono (by simp))
    go_wp2
    go_ret
    exact ⟨by rw [HR.out]; rfl, HB1.out⟩
set_option maxRecDepth 100000 in
set_option maxHeartbeats 1000000 in
theorem gMaps_c (p t : Int) (w : World) :
    Calls Try.prog 26 #[.agg #[.int .i64 p, .int .i64 t]] w fun e w' => e = .returned (.int .i64 (ifGeo p t (mapsN p.toNat) : Int)) ∧ Below w.heap.size w w' := by
  have HS := Lib.hid (fun w => asked_maps_c p t w)
  obtain ⟨m, hm⟩ : ∃ m, m = ifGeo p t (mapsN p.toNat) := ⟨_, rfl⟩
  rw [← hm] at HS ⊢
  clear hm
  go_enter Try.func26, Try.ntmps26
  go_wp2_with fail
  refine (HS.out _).mono ?_
  rintro e w1 ⟨rfl, hb1⟩
  have HB1 : Hid (Below w.heap.size w w1) := (below_box w _).trans (hb1.mono (by simp))
  go_wp2
  go_ret
  exact ⟨rfl, HB1.out⟩
theorem mapsN_le (n : Nat) (h : n ≤ 64) : mapsN n ≤ 4 := by unfold mapsN; omega
set_option maxRecDepth 100000 in
set_option maxHeartbeats 1000000 in
theorem gPageAt_c (n k : Nat) (t : Int) (hg : geoB n t = true) (hk : k < n) (w : World) :
    Calls Try.prog 15 #[.agg #[.int .i64 (n : Int), .int .i64 t], .int .i64 (k : Int)] w fun e w' => e = .returned (.int .i64 ((1 + mapsN n + k : Nat) : Int)) ∧ Below w.heap.size w w' := by
  have HE := Lib.hid (fun w => gcheck_c n t w)
  have hx0 : geoE n t = 0 := by unfold geoE; rw [if_pos hg]
  rw [hx0] at HE
  have hp := (geoB_iff n t).1 hg
  have hm := mapsN_le n (by omega)
  have HM := Lib.hid (fun w => gMaps_c n t w)
  have hi : ifGeo n t (mapsN (n : Int).toNat) = mapsN n := by unfold ifGeo; rw [if_pos hg, Int.toNat_natCast]
  rw [hi] at HM
  obtain ⟨m, hm2⟩ : ∃ m, m = mapsN n := ⟨_, rfl⟩
  rw [← hm2] at HM hm ⊢
  have e1 : IntKind.i64.wrap (1 + (m : Int)) = 1 + (m : Int) := IntWalk.i64_in _ (by omega)
  have e2 : IntKind.i64.wrap (1 + (m : Int) + (k : Int)) = ((1 + m + k : Nat) : Int) := by
    rw [show 1 + (m : Int) + (k : Int) = ((1 + m + k : Nat) : Int) by omega]; exact IntWalk.i64_in _ (by omega)
  have k0 : decide ((k : Int) < 0) = false := by simp
  have k1 : decide ((k : Int) ≥ (n : Int)) = false := by simp; omega
  have k2 : ¬ (n : Int) ≤ (k : Int) := by omega
  have k3 : (k : Int) < (n : Int) := by omega
  clear hx0 hp hm2 hi hg hk hm
  go_enter Try.func15, Try.ntmps15
  go_wp2_with fail
  refine (HE.out _).mono ?_
  rintro e w1 ⟨rfl, hb1⟩
  have hc1 := (hb1.block w.heap.size (by simp)).trans (heap_new' w _)
  have cc0 := (cells_at hc1 0).trans (show _ = some (Value.int .i64 (n : Int)) from rfl)
  have HB1 : Hid (Below w.heap.size w w1) := (below_box w _).trans (hb1.mono (by simp))
  have hi1 := lt_of_block hc1
  clear hb1
  go_wp2_with (first | (refine wpList_load_row rfl 23 (.tmp 2) rfl w.heap.size rfl _ _ _ _ hc1 Try.underlying23 rfl (by rw [geo2]; rfl) ?_) | fail)
  refine (HM.out _).mono ?_
  rintro e w2 ⟨rfl, hb2⟩
  have HB2 : Hid (Below w.heap.size w w2) := HB1.out.trans (hb2.mono HB1.out.size)
  go_wp2
  go_ret
  exact ⟨rfl, HB2.out⟩
set_option maxRecDepth 100000 in
set_option maxHeartbeats 1000000 in
theorem rgMaps_c (n : Nat) (t : Int) (hn : n ≤ 64) (w : World) :
    Calls Try.prog 43 #[.agg #[.int .i64 (n : Int), .int .i64 t]] w fun e w' => e = .returned (.int .i64 (mapsN n : Int)) ∧ Below w.heap.size w w' := by
  have hc : (w.alloc (.cells #[.int .i64 (n : Int), .int .i64 t] 23)).cell? ⟨w.heap.size, 0, none⟩ = some (.int .i64 (n : Int)) := by simp
  go_enter Try.func43, Try.ntmps43
  go_wp2
  go_loop [3] (fun vi => ∃ k : Nat, k ≤ mapsN n ∧ vi = .int .i64 k) (fun vi => mapsN n - (RowKit.intOf vi).toNat)
  case atStart => exact ⟨0, by omega, rfl⟩
  case round =>
    obtain ⟨k, hk, rfl⟩ := hrel
    have hm := mapsN_le n hn
    have e1 : IntKind.i64.wrap (16 * (k : Int)) = 16 * (k : Int) := IntWalk.i64_in _ (by omega)
    have e2 : IntKind.i64.wrap ((k : Int) + 1) = (k : Int) + 1 := IntWalk.i64_in _ (by omega)
    by_cases hlt : k < mapsN n
    · have dk : decide (16 * (k : Int) < (n : Int)) = true := by have := hlt; unfold mapsN at this; simp; omega
      have ik : 16 * (k : Int) < (n : Int) := by have := hlt; unfold mapsN at this; omega
      have HK := Lib.hid hlt
      clear hlt hk hm
      go_wp2
      go_round
      case rel => exact ⟨k + 1, by have := HK.out; omega, by go_num⟩
      case measure => simp [RowKit.intOf]; have := HK.out; omega
    · have dk : decide (16 * (k : Int) < (n : Int)) = false := by have := hlt; unfold mapsN at this; simp; omega
      have ik : ¬ 16 * (k : Int) < (n : Int) := by have := hlt; unfold mapsN at this; omega
      have HZ : Hid (mapsN n = k) := by show _ = _; omega
      clear hlt hk hm
      go_wp2
      go_ret
      exact ⟨by rw [HZ.out]; rfl, below_box _ _⟩
set_option maxRecDepth 100000 in
set_option maxHeartbeats 1000000 in
theorem rgSealed_c (n : Nat) (t : Int) (hn : n ≤ 64) (w : World) :
    Calls Try.prog 21 #[.agg #[.int .i64 (n : Int), .int .i64 t]] w fun e w' => e = .returned (.int .i64 (sealedN n : Int)) ∧ Below w.heap.size w w' := by
  have hm := mapsN_le n hn
  obtain ⟨m, hm2⟩ : ∃ m, m = mapsN n := ⟨_, rfl⟩
  have HS : Hid (sealedN n = 1 + m + n) := by show _ = _; unfold sealedN; rw [hm2]
  rw [← hm2] at hm
  have e1 : IntKind.i64.wrap (1 + (m : Int)) = 1 + (m : Int) := IntWalk.i64_in _ (by omega)
  have e2 : IntKind.i64.wrap (1 + (m : Int) + (n : Int)) = 1 + (m : Int) + (n : Int) := IntWalk.i64_in _ (by omega)
  have HM : Hid (∀ w, Calls Try.prog 43 #[.agg #[.int .i64 (n : Int), .int .i64 t]] w fun e w' => e = .returned (.int .i64 (m : Int)) ∧ Below w.heap.size w w') := by rw [hm2]; exact fun w => rgMaps_c n t hn w
  clear hm hm2 hn
  go_enter Try.func21, Try.ntmps21
  go_wp2
  obtain ⟨W, hW⟩ : ∃ W, W = w.alloc (.cells #[.int .i64 (n : Int), .int .i64 t] 23) := ⟨_, rfl⟩
  rw [← hW]
  have hWh : W.heap[w.heap.size]? = some (.cells #[.int .i64 (n : Int), .int .i64 t] 23 (0, 0)) := by rw [hW]; exact heap_new' _ _
  have hz : w.heap.size < W.heap.size := by rw [hW]; simp
  have hbW : Below w.heap.size w W := by rw [hW]; exact below_box _ _
  clear hW
  obtain ⟨S, f, hne, h1, h2⟩ := bclass W
  have c0 : ∀ s, (f s).cell? ⟨w.heap.size, 0, none⟩ = some (.int .i64 (n : Int)) := fun s => (cells_at (((h1 s).block _ hz).trans hWh) 0).trans rfl
  have HK : Hid (∀ s', (f s').heap[w.heap.size]? = some (.cells #[.int .i64 (n : Int), .int .i64 t] 23 (0, 0))) := fun s' => ((h1 s').block _ hz).trans hWh
  have H1 := Lib.hid h1
  have H2 := Lib.hid h2
  have HB := Lib.hid hbW
  have M1 : Hid (∀ x : S, Calls Try.prog 43 #[.agg #[.int .i64 (n : Int), .int .i64 t]] (f x) fun e w' => e = .returned (.int .i64 (m : Int)) ∧ ∃ s', w' = f s') := fun x => bcall h1 h2 (HM.out _)
  clear h1 h2 hbW
  refine wp_region_quiet (C := fun w' => ∃ s, w' = f s) (by kernel_rfl) (by kernel_rfl) (H2.out _ (Below.refl _ _).drew) ?_
  simp only
  repeat first | (refine quiet_load_rowG rfl 23 (.tmp 1) rfl w.heap.size rfl 23 #[.int .i64 (n : Int), .int .i64 t] (0, 0) _ (by rintro _ ⟨x, rfl⟩; exact HK.out x) Try.underlying23 rfl (by rw [geo2]; rfl) ?_; simp only [Act.put, List.setIfInBounds_toArray, List.set_cons_succ, List.set_cons_zero]) | go_big_quiet_step ((with_reducible first | exact M1.out _))
  refine wpQuiet_nil ?_
  rintro _ ⟨s0, rfl⟩
  have b0 := Lib.hid (HB.out.trans ((H1.out s0).mono (by omega)))
  clear HK H1 H2 HB M1 hWh
  go_wp2
  go_ret
  exact ⟨by rw [HS.out]; go_num, b0.out⟩
end Go.Proofs.Ytpbmjfjnmcpieaa
