/- check.Blocks: what it answers for what may not be. -/
import Derived.Test.YtpbmjfjnmcpieaaChLe
set_option linter.unusedVariables false
set_option linter.unusedSimpArgs false
namespace Go.Proofs.Ytpbmjfjnmcpieaa
open Go Go.RowKit
def argB (p t : Int) (L : List (List Nat)) : Bool := geoB p t && (L.length == sealedN p.toNat) && !L.any (fun l => !(l.length == 256))
set_option maxRecDepth 100000 in
set_option maxHeartbeats 1000000 in
theorem blocks_arg (p t : Int) (va : Option Addr) (n cap : Nat) (L : List (List Nat)) (hn : L.length = n) (hnm : n ≤ 1000) (hbad : argB p t L = false) (w : World) (hR : RowsAt w va L) :
    Calls Try.prog 6 #[.agg #[.int .i64 p, .int .i64 t], .slice va n cap] w fun e w' => e = .returned (.tuple #[.slice none 0 0, .int .i64 1]) ∧ Below w.heap.size w w' := by
  have HG : Hid ((w.alloc (.cells #[.int .i64 p, .int .i64 t] 23)).heap[w.heap.size]? = some (.cells #[.int .i64 p, .int .i64 t] 23 (0, 0))) := heap_new' _ _
  have HE : Hid (Below w.heap.size w (w.alloc (.cells #[.int .i64 p, .int .i64 t] 23))) := below_box _ _
  have HC := Lib.hid (fun w => gcheck_c p t w)
  have HS := Lib.hid (fun w => gSealed_c p t w)
  have HX : Hid (∀ w', Below w.heap.size w w' → Calls Try.prog 14 #[.slice va n cap, .func (.func 13) #[] #[]] w' fun e w'' => e = .returned (.bool (L.any (fun l => !(l.length == 256)))) ∧ Below w'.heap.size w' w'') := fun w' h =>
    cf_long_c va n cap L hn (by omega) w' (hR.up h (Nat.le_refl _))
  unfold argB at hbad
  have hsl : ifGeo p t (sealedN p.toNat) = if geoB p t then sealedN p.toNat else 0 := rfl
  have hge : geoE p t = if geoB p t then 0 else 1 := rfl
  rw [hsl] at HS
  rw [hge] at HC
  rw [hn] at hbad
  clear hR hn hsl hge hnm
  generalize geoB p t = gb at hbad HS HC
  generalize sealedN p.toNat = sn at hbad HS
  generalize L.any (fun l => !(l.length == 256)) = bd at hbad HX
  cases gb with
  | false =>
    rw [if_neg (by simp)] at HC
    clear HS HX hbad
    go_enter Try.func6, Try.ntmps6
    go_wp2_with (first
      | (refine wpList_load_row rfl 23 (.tmp 2) rfl w.heap.size rfl _ _ _ _ HG.out Try.underlying23 rfl (by rw [geo2]; rfl) ?_)
      | fail)
    refine (HC.out _).mono ?_
    rintro e w1 ⟨rfl, hb1⟩
    have HE1 : Hid (Below w.heap.size w w1) := HE.out.trans (hb1.mono HE.out.size)
    clear hb1
    go_wp2
    go_ret2
    exact ⟨rfl, HE1.out⟩
  | true =>
    rw [if_pos rfl] at HC HS
    by_cases hl : n = sn
    · have hbt : bd = true := by
        subst hl; simpa using hbad
      subst hl
      subst hbt
      have hd : ((n : Int) == (n : Int)) = true := beq_self_eq_true _
      clear hbad
      go_enter Try.func6, Try.ntmps6
      go_wp2_with (first
        | (refine wpList_load_row rfl 23 (.tmp 2) rfl w.heap.size rfl _ _ _ _ HG.out Try.underlying23 rfl (by rw [geo2]; rfl) ?_)
        | fail)
      refine (HC.out _).mono ?_
      rintro e w1 ⟨rfl, hb1⟩
      have HE1 : Hid (Below w.heap.size w w1) := HE.out.trans (hb1.mono HE.out.size)
      have HG1 := Lib.hid ((hb1.block _ (lt_of_block HG.out)).trans HG.out)
      have g0 := (cells_at HG1.out 0).trans (show _ = some (Value.int .i64 p) from rfl)
      have g1 := (cells_at HG1.out 1).trans (show _ = some (Value.int .i64 t) from rfl)
      clear hb1
      go_wp2_with fail
      refine (HS.out _).mono ?_
      rintro e w2 ⟨rfl, hb2⟩
      have HE2 : Hid (Below w.heap.size w w2) := HE1.out.trans (hb2.mono HE1.out.size)
      clear hb2 g0 g1
      go_wp2_with fail
      refine (HX.out _ HE2.out).mono ?_
      rintro e w3 ⟨rfl, hb3⟩
      have HE3 : Hid (Below w.heap.size w w3) := HE2.out.trans (hb3.mono HE2.out.size)
      clear hb3
      go_wp2
      go_ret2
      exact ⟨rfl, HE3.out⟩
    · have hd : ((n : Int) == (sn : Int)) = false := by simp; omega
      have hx : ¬ (n : Int) = (sn : Int) := by omega
      clear hbad HX
      go_enter Try.func6, Try.ntmps6
      go_wp2_with (first
        | (refine wpList_load_row rfl 23 (.tmp 2) rfl w.heap.size rfl _ _ _ _ HG.out Try.underlying23 rfl (by rw [geo2]; rfl) ?_)
        | fail)
      refine (HC.out _).mono ?_
      rintro e w1 ⟨rfl, hb1⟩
      have HE1 : Hid (Below w.heap.size w w1) := HE.out.trans (hb1.mono HE.out.size)
      have HG1 := Lib.hid ((hb1.block _ (lt_of_block HG.out)).trans HG.out)
      have g0 := (cells_at HG1.out 0).trans (show _ = some (Value.int .i64 p) from rfl)
      have g1 := (cells_at HG1.out 1).trans (show _ = some (Value.int .i64 t) from rfl)
      clear hb1
      go_wp2_with fail
      refine (HS.out _).mono ?_
      rintro e w2 ⟨rfl, hb2⟩
      have HE2 : Hid (Below w.heap.size w w2) := HE1.out.trans (hb2.mono HE1.out.size)
      clear hb2 g0 g1
      go_wp2
      go_ret2
      exact ⟨rfl, HE2.out⟩
end Go.Proofs.Ytpbmjfjnmcpieaa
