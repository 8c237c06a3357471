/- The walk of GaugeNil. The contracts of gauge's own functions as in GauB, GauC, GauD. -/
import Derived.Test.YtjclofkkpgdjnaaGauA
import Derived.Test.YtjclofkkpgdjnaaCat
import Derived.Laws.CopyOwn
import Derived.Test.YtjclofkkpgdjnaaReg
set_option linter.unusedVariables false
set_option linter.unusedSimpArgs false
namespace Go.Proofs.Ytjclofkkpgdjnaa
open Go Go.RowKit
def rA (f l : Int) (s : Nat → Int) : Array Value := #[.int .i64 f, .int .i64 l, .int .i64 (s 0), .int .i64 (s 1), .int .i64 (s 2), .int .i64 (s 3), .int .i64 (s 4), .int .i64 (s 5), .int .i64 (s 6), .int .i64 (s 7)]
theorem rA_slot (f l : Int) (s : Nat → Int) (c : Nat) (h : c < 8) : (rA f l s)[2 + c]? = some (.int .i64 (s c)) := by
  have hc : c = 0 ∨ c = 1 ∨ c = 2 ∨ c = 3 ∨ c = 4 ∨ c = 5 ∨ c = 6 ∨ c = 7 := by omega
  rcases hc with rfl | rfl | rfl | rfl | rfl | rfl | rfl | rfl <;> rfl
def fitB (f l : Int) (s : Nat → Int) (n : Int) : Bool :=
  if 1 ≤ n ∧ n ≤ 120 then decide (0 < s (clsN n.toNat)) || decide (0 < f)
  else if 120 < n ∧ n ≤ 4096 then decide ((((n.toNat + 255) / 256 : Nat) : Int) ≤ l) else false
theorem ret_b {a b : Bool} (h : a = b) : Ending.returned (.bool a) = .returned (.bool b) := by rw [h]
set_option maxRecDepth 100000 in
set_option maxHeartbeats 1000000 in
theorem fits_c (f l : Int) (s : Nat → Int) (n : Int) (w : World) :
    Calls Try.prog 6 #[.agg (rA f l s), .int .i64 n] w fun e w' => e = .returned (.bool (fitB f l s n)) ∧ Below w.heap.size w w' := by
  have hbel : Below w.heap.size w (w.alloc (.cells (rA f l s) 24)) := (Below.refl _ _).alloc (Nat.le_refl _) _
  have HB := Lib.hid hbel
  clear hbel
  by_cases h1 : 1 ≤ n ∧ n ≤ 120
  · obtain ⟨m, rfl⟩ : ∃ m : Nat, n = m := ⟨n.toNat, by omega⟩
    have c8 := (cls_all m (by omega) (by omega)).1
    have hcell : (w.alloc (.cells (rA f l s) 24)).cell? ⟨w.heap.size, 2 + clsN m, none⟩ = some (.int .i64 (s (clsN m))) := by
      rw [World.cell?_alloc_new]; exact rA_slot f l s _ c8
    have hfc : (w.alloc (.cells (rA f l s) 24)).cell? ⟨w.heap.size, 0, none⟩ = some (.int .i64 f) := by
      rw [World.cell?_alloc_new]; rfl
    have hfit : fitB f l s m = (decide (0 < s (clsN m)) || decide (0 < f)) := by unfold fitB; rw [if_pos h1]; simp
    have HF := Lib.hid hfit
    clear hfit
    have HO := Lib.hid (of_yes m (by omega) (by omega))
    clear h1
    by_cases hs : 0 < s (clsN m)
    · go_enter Try.func6, Try.ntmps6
      go_wp2_with fail
      refine (HO.out _).mono ?_
      rintro e w' ⟨rfl, rfl⟩
      go_wp2
      go_ret
      exact ⟨ret_b (by rw [HF.out]; simp [hs]), HB.out⟩
    · by_cases hf : 0 < f
      · go_enter Try.func6, Try.ntmps6
        go_wp2_with fail
        refine (HO.out _).mono ?_
        rintro e w' ⟨rfl, rfl⟩
        go_wp2
        go_ret
        exact ⟨ret_b (by rw [HF.out]; simp [hf]), HB.out⟩
      · go_enter Try.func6, Try.ntmps6
        go_wp2_with fail
        refine (HO.out _).mono ?_
        rintro e w' ⟨rfl, rfl⟩
        go_wp2
        go_ret
        exact ⟨ret_b (by rw [HF.out]), HB.out⟩
  · have HO := Lib.hid (of_no n (by omega))
    by_cases h2 : 120 < n ∧ n ≤ 4096
    · obtain ⟨m, rfl⟩ : ∃ m : Nat, n = m := ⟨n.toNat, by omega⟩
      have hlc : (w.alloc (.cells (rA f l s) 24)).cell? ⟨w.heap.size, 1, none⟩ = some (.int .i64 l) := by
        rw [World.cell?_alloc_new]; rfl
      have hfit : fitB f l s m = decide ((((m + 255) / 256 : Nat) : Int) ≤ l) := by unfold fitB; rw [if_neg h1, if_pos h2]; simp
      have HF := Lib.hid hfit
      have HP := Lib.hid (pages_yes m (by omega) (by omega))
      clear hfit h1 h2
      generalize (m + 255) / 256 = p at *
      go_enter Try.func6, Try.ntmps6
      go_wp2_with fail
      refine (HO.out _).mono ?_
      rintro e w' ⟨rfl, rfl⟩
      go_wp2_with fail
      refine (HP.out _).mono ?_
      rintro e w' ⟨rfl, rfl⟩
      go_wp2
      go_ret
      exact ⟨ret_b (by rw [HF.out]), HB.out⟩
    · have hfit : fitB f l s n = false := by unfold fitB; rw [if_neg h1, if_neg h2]
      have HF := Lib.hid hfit
      have HP := Lib.hid (pages_no n (by omega))
      clear hfit h1 h2
      go_enter Try.func6, Try.ntmps6
      go_wp2_with fail
      refine (HO.out _).mono ?_
      rintro e w' ⟨rfl, rfl⟩
      go_wp2_with fail
      refine (HP.out _).mono ?_
      rintro e w' ⟨rfl, rfl⟩
      go_wp2
      go_ret
      exact ⟨ret_b (by rw [HF.out]), HB.out⟩
theorem room10 : (Try.prog.info? 24).map (·.size) = some 10 := by kernel_rfl
def mostGo (f l : Int) (s : Nat → Int) : Nat → Nat
  | 0 => 0
  | n + 1 => if fitB f l s ((n + 1 : Nat) : Int) = true then n + 1 else mostGo f l s n
theorem mostGo_fit (f l : Int) (s : Nat → Int) (n : Nat) : mostGo f l s n = 0 ∨ fitB f l s (mostGo f l s n : Int) = true := by
  induction n with
  | zero => exact .inl rfl
  | succ n ih =>
    unfold mostGo
    by_cases h : fitB f l s ((n + 1 : Nat) : Int) = true
    · rw [if_pos h]; exact .inr h
    · rw [if_neg h]; exact ih
theorem mostGo_le (f l : Int) (s : Nat → Int) (n : Nat) : mostGo f l s n ≤ n := by
  induction n with
  | zero => exact Nat.le_refl _
  | succ n ih => unfold mostGo; split <;> omega
theorem mostGo_max (f l : Int) (s : Nat → Int) (n k : Nat) (hk : k ≤ n) (hf : fitB f l s (k : Int) = true) : k ≤ mostGo f l s n := by
  induction n with
  | zero => omega
  | succ n ih =>
    unfold mostGo
    by_cases h : fitB f l s ((n + 1 : Nat) : Int) = true
    · rw [if_pos h]; exact hk
    · rw [if_neg h]
      by_cases e : k = n + 1
      · subst e; exact absurd hf h
      · exact ih (by omega)
theorem mostGo_step (f l : Int) (s : Nat → Int) (k : Nat) (h : 0 < k) : mostGo f l s k = if fitB f l s (k : Int) = true then k else mostGo f l s (k - 1) := by
  obtain ⟨j, rfl⟩ : ∃ j, k = j + 1 := ⟨k - 1, by omega⟩
  rfl
theorem fitB_range (f l : Int) (s : Nat → Int) (n : Int) (h : fitB f l s n = true) : 1 ≤ n ∧ n ≤ 4096 := by
  unfold fitB at h
  by_cases h1 : 1 ≤ n ∧ n ≤ 120
  · omega
  · rw [if_neg h1] at h
    by_cases h2 : 120 < n ∧ n ≤ 4096
    · omega
    · rw [if_neg h2] at h; cases h
set_option maxRecDepth 100000 in
set_option maxHeartbeats 1000000 in
theorem most_c (f l : Int) (s : Nat → Int) (w : World) :
    Calls Try.prog 7 #[.agg (rA f l s)] w fun e w' => e = .returned (.int .i64 (mostGo f l s 4096 : Int)) ∧ Below w.heap.size w w' := by
  have h0 : (w.alloc (.cells (rA f l s) 24)).heap[w.heap.size]? = some (.cells (rA f l s) 24 (0, 0)) := heap_new' _ _
  have H0 := Lib.hid h0
  clear h0
  go_enter Try.func7, Try.ntmps7
  go_wp2
  go_loopw [3] (fun vi wr => ∃ k : Nat, k ≤ 4096 ∧ vi = .int .i64 k ∧ Hid (wr.heap[w.heap.size]? = some (.cells (rA f l s) 24 (0, 0))) ∧ Hid (Below w.heap.size w wr) ∧ Hid (mostGo f l s k = mostGo f l s 4096)) (fun vi _ => (intOf vi).toNat)
  case atStart => exact ⟨4096, by omega, rfl, H0, (Below.refl _ _).alloc (Nat.le_refl _) _, rfl⟩
  case round =>
    clear H0
    obtain ⟨k, hk, rfl, hb, hbel, hm⟩ := hrel
    by_cases hlt : 0 < k
    · have hz : w.heap.size < wr.heap.size := lt_of_block hb.out
      have hst := mostGo_step f l s k hlt
      by_cases hf : fitB f l s (k : Int) = true
      · have HM : Hid (k = mostGo f l s 4096) := by
          have h2 := hm.out; rw [hst, if_pos hf] at h2; exact h2
        clear hm hst
        go_wp2_with (first
          | (refine wpList_load_row rfl 24 (.tmp 1) rfl w.heap.size rfl _ _ _ _ hb.out Try.underlying24 rfl (by rw [room10]; rfl) ?_)
          | (go_at_call 6; refine (fits_c f l s _ _).mono ?_; rintro e w1 ⟨rfl, hb1⟩))
        go_ret
        exact ⟨ret_i (by rw [← HM.out]), hbel.out.trans (hb1.mono (by omega))⟩
      · have hf' : fitB f l s (k : Int) = false := by simpa using hf
        have HM : Hid (mostGo f l s (k - 1) = mostGo f l s 4096) := by
          have h2 := hm.out; rw [hst, if_neg hf] at h2; exact h2
        clear hm hst hf
        go_wp2_with (first
          | (refine wpList_load_row rfl 24 (.tmp 1) rfl w.heap.size rfl _ _ _ _ hb.out Try.underlying24 rfl (by rw [room10]; rfl) ?_)
          | (go_at_call 6; refine (fits_c f l s _ _).mono ?_; rintro e w1 ⟨rfl, hb1⟩))
        go_roundw
        case rel => exact ⟨k - 1, by omega, vint (by omega), (hb1.block _ hz).trans hb.out, hbel.out.trans (hb1.mono (by omega)), HM⟩
        case measure => simp [intOf]; omega
    · obtain rfl : k = 0 := by omega
      have HM : Hid (0 = mostGo f l s 4096) := hm
      clear hm
      go_wp2
      go_ret
      exact ⟨ret_i (by rw [← HM.out]; rfl), hbel.out⟩
def zS : Nat → Int := fun _ => 0
theorem ex26a : fitB 5 5 zS 1280 = true := by decide +kernel
theorem ex26b : fitB 5 5 zS 1281 = false := by decide +kernel
theorem ex26c : mostGo 5 5 zS 4096 = 1280 := by decide +kernel
theorem rA_55 : #[.int .i64 5, .int .i64 5, .int .i64 0, .int .i64 0, .int .i64 0, .int .i64 0, .int .i64 0, .int .i64 0, .int .i64 0, .int .i64 0] = rA 5 5 zS := rfl
set_option maxRecDepth 100000 in
set_option maxHeartbeats 1000000 in
theorem awake26_c (w : World) : Calls Try.prog 8 #[] w fun e w' => e = .returned (.bool true) ∧ Below w.heap.size w w' := by
  have c1 : ∀ w, Calls Try.prog 6 #[.agg (rA 5 5 zS), .int .i64 1280] w fun e w' => e = .returned (.bool true) ∧ Below w.heap.size w w' := fun w => by
    have := fits_c 5 5 zS 1280 w; rw [ex26a] at this; exact this
  have c2 : ∀ w, Calls Try.prog 6 #[.agg (rA 5 5 zS), .int .i64 1281] w fun e w' => e = .returned (.bool false) ∧ Below w.heap.size w w' := fun w => by
    have := fits_c 5 5 zS 1281 w; rw [ex26b] at this; exact this
  have c3 : ∀ w, Calls Try.prog 7 #[.agg (rA 5 5 zS)] w fun e w' => e = .returned (.int .i64 1280) ∧ Below w.heap.size w w' := fun w => by
    have := most_c 5 5 zS w; rw [ex26c] at this; exact this
  have C1 := Lib.hid c1
  have C2 := Lib.hid c2
  have C3 := Lib.hid c3
  clear c1 c2 c3
  go_enter Try.func8, Try.ntmps8
  go_wp2_with fail
  refine (C1.out _).mono ?_
  rintro e w1 ⟨rfl, hb1⟩
  have h1 := Lib.hid ((hb1.block w.heap.size (by simp)).trans (heap_new' _ _))
  have b1 := Lib.hid (((Below.refl w.heap.size w).alloc (Nat.le_refl _) _).trans (hb1.mono (by simp)))
  have z1 := hb1.size
  rw [World.size_alloc] at z1
  clear hb1
  go_wp2_with (refine load_row_w rfl 24 (.tmp 1) rfl w.heap.size rfl _ _ _ _ h1.out Try.underlying24 rfl (by rw [room10]; rfl) ?_)
  refine (C2.out _).mono ?_
  rintro e w2 ⟨rfl, hb2⟩
  have h2 := Lib.hid ((hb2.block w.heap.size (by omega)).trans h1.out)
  have b2 := Lib.hid (b1.out.trans (hb2.mono (by omega)))
  have z2 := hb2.size
  clear hb2
  go_wp2_with (refine load_row_w rfl 24 (.tmp 1) rfl w.heap.size rfl _ _ _ _ h2.out Try.underlying24 rfl (by rw [room10]; rfl) ?_)
  refine (C3.out _).mono ?_
  rintro e w3 ⟨rfl, hb3⟩
  have b3 := Lib.hid (b2.out.trans (hb3.mono (by omega)))
  clear hb3
  go_wp2
  go_ret
  exact ⟨rfl, b3.out⟩
theorem walk_nil (w : World) : Calls Try.prog 16 #[.pointer none] w fun e w' => e = .returned (.tuple #[.slice none 0 0, .int .i64 2]) ∧ w = w' := by
  go_enter Try.func16, Try.ntmps16
  go_wp2
  exact bodyPost_ret (v := .tuple #[.slice none 0 0, .int .i64 2]) (by simp [results, Try.f16, go_sem]) rfl ⟨rfl, rfl⟩
theorem rA_zero : #[.int .i64 0, .int .i64 0, .int .i64 0, .int .i64 0, .int .i64 0, .int .i64 0, .int .i64 0, .int .i64 0, .int .i64 0, .int .i64 0] = rA 0 0 zS := rfl
set_option maxRecDepth 100000 in
set_option maxHeartbeats 1000000 in
theorem of_nil (w : World) : Calls Try.prog 5 #[.pointer none] w fun e w' => e = .returned (.tuple #[.agg (rA 0 0 zS), .int .i64 2]) ∧ Below w.heap.size w w' := by
  have h0 := heap_new' w (.cells (rA 0 0 zS) 24)
  go_enter Try.func5, Try.ntmps5
  go_wp2_with fail
  refine (walk_nil _).mono ?_
  rintro e w1 ⟨rfl, rfl⟩
  go_wp2
  refine bodyPost_ret (v := .tuple #[.agg (rA 0 0 zS), .int .i64 2]) ?_ rfl ⟨rfl, (Below.refl _ _).alloc (Nat.le_refl _) _⟩
  have hg : (w.alloc (Obj.cells #[.int .i64 0, .int .i64 0, .int .i64 0, .int .i64 0, .int .i64 0, .int .i64 0, .int .i64 0, .int .i64 0, .int .i64 0, .int .i64 0] 24)).heap[w.heap.size]? = some (.cells (rA 0 0 zS) 24 (0, 0)) := h0
  clear h0
  generalize (w.alloc _) = W1 at hg ⊢
  have hv := run_loadVar_row (P := Try.prog) W1 w.heap.size 24 24 (rA 0 0 zS) (0, 0) _ hg Try.underlying24 rfl (by rw [room10]; rfl)
  simp [results, Try.f5, asAddr, hv]
theorem fit_zero (n : Int) : fitB 0 0 zS n = false := by
  unfold fitB zS
  simp
  omega
theorem rA_one : (rA 0 0 zS).all (·.oneCell') = true := by simp [rA, Value.oneCell']
theorem eq_room (w : World) : (binOp .eql 24 (.agg (rA 0 0 zS)) (.agg (rA 0 0 zS))).run Try.prog w = .ok (.bool true) w := by kernel_rfl
theorem most_zero : mostGo 0 0 zS 4096 = 0 := by
  rcases mostGo_fit 0 0 zS 4096 with h | h
  · exact h
  · rw [fit_zero] at h; cases h
set_option maxRecDepth 100000 in
set_option maxHeartbeats 2000000 in
theorem walkGaugeNil (n : Int) (wn : (Lit.int .i64 n).wf = true) (w : World) :
    Calls Try.prog 3 #[.int .i64 n] w fun e w' => e = .returned (.bool true) ∧ Below w.heap.size w w' := by
  clear wn
  have c1 : ∀ w, Calls Try.prog 6 #[.agg (rA 0 0 zS), .int .i64 n] w fun e w' => e = .returned (.bool false) ∧ Below w.heap.size w w' := fun w => by
    have := fits_c 0 0 zS n w; rw [fit_zero] at this; exact this
  have c2 : ∀ w, Calls Try.prog 7 #[.agg (rA 0 0 zS)] w fun e w' => e = .returned (.int .i64 0) ∧ Below w.heap.size w w' := fun w => by
    have := most_c 0 0 zS w; rw [most_zero] at this; exact this
  have C1 := Lib.hid c1
  have C2 := Lib.hid c2
  clear c1 c2
  go_enter Try.func3, Try.ntmps3
  go_wp2_with fail
  refine (of_nil _).mono ?_
  rintro e w1 ⟨rfl, hb1⟩
  have hrs : (rA 0 0 zS).size = 10 := rfl
  have HR := Lib.hid hrs
  clear hrs
  have E1 : ∀ w, (binOp .eql 24 (.agg (rA 0 0 zS)) (.agg #[.int .i64 0, .int .i64 0, .int .i64 0, .int .i64 0, .int .i64 0, .int .i64 0, .int .i64 0, .int .i64 0, .int .i64 0, .int .i64 0])).run Try.prog w = .ok (.bool true) w := eq_room
  go_wp2_with (first
    | (refine wpList_store_row rfl 24 (.tmp 3) (.tmp 7) rfl w1.heap.size _ rfl rfl 24 _ (heap_new' _ _) (by rw [room10]; rfl) rfl rA_one ?_; generalize hW5 : World.setRow _ _ _ = W5; have hg : Hid (W5.heap[w1.heap.size]? = some (.cells (rA 0 0 zS) 24 (0, 0))) := (by rw [← hW5]; exact setRow_heap _ _ _ _ _ _ (heap_new' w1 _)); have hb5 : Hid (Below w.heap.size w W5) := (by rw [← hW5]; exact below_setRow (hb1.alloc hb1.size _) hb1.size _); clear hW5)
    | (refine load_row_w rfl 24 (.tmp 3) rfl w1.heap.size rfl _ _ _ _ hg.out Try.underlying24 rfl (by rw [room10]; rfl) ?_)
    | fail)
  refine (C1.out _).mono ?_
  rintro e w2 ⟨rfl, hb2⟩
  have hg2 : Hid (w2.heap[w1.heap.size]? = some (.cells (rA 0 0 zS) 24 (0, 0))) := (hb2.block _ (lt_of_block hg.out)).trans hg.out
  have hbb2 : Hid (Below w.heap.size w w2) := hb5.out.trans (hb2.mono hb5.out.size)
  clear hb2 hb1 hg
  go_wp2_with (first
    | (refine load_row_w rfl 24 (.tmp 3) rfl w1.heap.size rfl _ _ _ _ hg2.out Try.underlying24 rfl (by rw [room10]; rfl) ?_)
    | fail)
  refine (C2.out _).mono ?_
  rintro e w3 ⟨rfl, hb3⟩
  have hbb3 : Hid (Below w.heap.size w w3) := hbb2.out.trans (hb3.mono hbb2.out.size)
  clear hb3
  go_wp2_with fail
  refine (awake26_c _).mono ?_
  rintro e w4 ⟨rfl, hb4⟩
  go_wp2
  go_ret
  exact ⟨rfl, hbb3.out.trans (hb4.mono hbb3.out.size)⟩
end Go.Proofs.Ytjclofkkpgdjnaa
