/- Contracts of the reference's package 17. -/
import Derived.Test.YtnmjkdmhfogeiaaGauA
set_option linter.unusedVariables false
namespace Go.Proofs.Ytnmjkdmhfogeiaa
open Go Go.RowKit
set_option maxRecDepth 100000 in
set_option maxHeartbeats 1000000 in
theorem rsize_c (c : Nat) (hc : c < 8) (w : World) :
    Calls Try.prog 94 #[.int .i64 (c : Int)] w fun e w' => e = .returned (.int .i64 (sz c : Int)) ∧ w = w' := by
  have hc : c = 0 ∨ c = 1 ∨ c = 2 ∨ c = 3 ∨ c = 4 ∨ c = 5 ∨ c = 6 ∨ c = 7 := by omega
  rcases hc with rfl | rfl | rfl | rfl | rfl | rfl | rfl | rfl
  all_goals
    go_enter Try.func94, Try.ntmps94
    go_wp2
    go_ret
    exact ⟨rfl, rfl⟩
set_option maxRecDepth 100000 in
set_option maxHeartbeats 1000000 in
theorem rof_yes (n : Nat) (h1 : 1 ≤ n) (h2 : n ≤ 120) (w : World) :
    Calls Try.prog 65 #[.int .i64 (n : Int)] w fun e w' => e = .returned (.tuple #[.int .i64 (clsN n : Int), .bool true]) ∧ w = w' := by
  obtain ⟨c8, hle, hlt⟩ := cls_all n (by omega) h1
  have HL := Lib.hid hlt
  clear hlt
  have a1 : ¬ (n : Int) < 1 := by omega
  have a2 : ¬ (120 : Int) < n := by omega
  go_enter Try.func65, Try.ntmps65
  go_wp2
  go_loop [4] (fun vi => ∃ k : Nat, k ≤ clsN n ∧ vi = .int .i64 k) (fun vi => clsN n - (intOf vi).toNat)
  case atStart => exact ⟨0, by omega, rfl⟩
  case round =>
    obtain ⟨k, hk, rfl⟩ := hrel
    have hs := sz_le_all k (by omega)
    by_cases he : k = clsN n
    · have hT : ¬ (sz k : Int) < (n : Int) := by rw [he]; omega
      have HE := Lib.hid he
      clear he
      go_wp2_with (go_at_call 94; (with_reducible refine (rsize_c k (by omega) _).mono ?_); rintro e w' ⟨rfl, rfl⟩)
      go_ret2
      exact ⟨by rw [← HE.out]; rfl, rfl⟩
    · have hT : (sz k : Int) < (n : Int) := by have := HL.out k (by omega); omega
      go_wp2_with (go_at_call 94; (with_reducible refine (rsize_c k (by omega) _).mono ?_); rintro e w' ⟨rfl, rfl⟩)
      go_round
      case rel => exact ⟨k + 1, by omega, by go_num⟩
      case measure => simp [intOf]; omega
theorem rof_no (n : Int) (h : n < 1 ∨ 120 < n) (w : World) :
    Calls Try.prog 65 #[.int .i64 n] w fun e w' => e = .returned (.tuple #[.int .i64 0, .bool false]) ∧ w = w' := by
  by_cases a1 : n < 1
  · go_enter Try.func65, Try.ntmps65
    go_wp2
    go_ret2
    exact ⟨rfl, rfl⟩
  · have a2 : (120 : Int) < n := by omega
    go_enter Try.func65, Try.ntmps65
    go_wp2
    go_ret2
    exact ⟨rfl, rfl⟩
theorem rpages_no (n : Int) (h : n ≤ 120 ∨ 4096 < n) (w : World) :
    Calls Try.prog 66 #[.int .i64 n] w fun e w' => e = .returned (.tuple #[.int .i64 0, .bool false]) ∧ w = w' := by
  by_cases a1 : n < 121
  · go_enter Try.func66, Try.ntmps66
    go_wp2
    go_ret2
    exact ⟨rfl, rfl⟩
  · have a2 : (4096 : Int) < n := by omega
    go_enter Try.func66, Try.ntmps66
    go_wp2
    go_ret2
    exact ⟨rfl, rfl⟩
set_option maxHeartbeats 1000000 in
theorem rpages_yes (n : Nat) (h1 : 120 < n) (h2 : n ≤ 4096) (w : World) :
    Calls Try.prog 66 #[.int .i64 (n : Int)] w fun e w' => e = .returned (.tuple #[.int .i64 (((n + 255) / 256 : Nat) : Int), .bool true]) ∧ w = w' := by
  have a1 : ¬ (n : Int) < 121 := by omega
  have a2 : ¬ (4096 : Int) < n := by omega
  go_enter Try.func66, Try.ntmps66
  go_wp2
  go_loop [4] (fun vi => ∃ k : Nat, 1 ≤ k ∧ k ≤ (n + 255) / 256 ∧ vi = .int .i64 k) (fun vi => 20 - (intOf vi).toNat)
  case atStart => exact ⟨1, by omega, by omega, rfl⟩
  case round =>
    obtain ⟨k, hk1, hk, rfl⟩ := hrel
    by_cases he : 256 * k < n
    · have hT : (256 : Int) * k < n := by omega
      go_wp2
      go_round
      case rel => exact ⟨k + 1, by omega, by omega, by go_num⟩
      case measure => simp [intOf]; omega
    · have hT : ¬ (256 : Int) * k < n := by omega
      go_wp2
      go_ret2
      exact ⟨ret_ib (by omega), rfl⟩
/-- a room -/
def rA (f l : Int) (s : Nat → Int) : Array Value := #[.int .i64 f, .int .i64 l, .int .i64 (s 0), .int .i64 (s 1), .int .i64 (s 2), .int .i64 (s 3), .int .i64 (s 4), .int .i64 (s 5), .int .i64 (s 6), .int .i64 (s 7)]
theorem rA_slot (f l : Int) (s : Nat → Int) (c : Nat) (h : c < 8) : (rA f l s)[2 + c]? = some (.int .i64 (s c)) := by
  have hc : c = 0 ∨ c = 1 ∨ c = 2 ∨ c = 3 ∨ c = 4 ∨ c = 5 ∨ c = 6 ∨ c = 7 := by omega
  rcases hc with rfl | rfl | rfl | rfl | rfl | rfl | rfl | rfl <;> rfl
def fitB (f l : Int) (s : Nat → Int) (n : Int) : Bool :=
  if 1 ≤ n ∧ n ≤ 120 then decide (0 < s (clsN n.toNat)) || decide (0 < f)
  else if 120 < n ∧ n ≤ 4096 then decide ((((n.toNat + 255) / 256 : Nat) : Int) ≤ l) else false
theorem ret_b {a b : Bool} (h : a = b) : Ending.returned (.bool a) = .returned (.bool b) := by rw [h]
set_option maxRecDepth 100000 in
set_option maxHeartbeats 1000000 in
theorem fits_c (f l : Int) (s : Nat → Int) (n : Int) (w : World) :
    Calls Try.prog 23 #[.agg (rA f l s), .int .i64 n] w fun e w' => e = .returned (.bool (fitB f l s n)) ∧ Below w.heap.size w w' := by
  have hbel : Below w.heap.size w (w.alloc (.cells (rA f l s) 24)) := (Below.refl _ _).alloc (Nat.le_refl _) _
  have HB := Lib.hid hbel
  clear hbel
  by_cases h1 : 1 ≤ n ∧ n ≤ 120
  · obtain ⟨m, rfl⟩ : ∃ m : Nat, n = m := ⟨n.toNat, by omega⟩
    have c8 := (cls_all m (by omega) (by omega)).1
    have hcell : (w.alloc (.cells (rA f l s) 24)).cell? ⟨w.heap.size, 2 + clsN m, none⟩ = some (.int .i64 (s (clsN m))) := by
      rw [World.cell?_alloc_new]; exact rA_slot f l s _ c8
    have hfc : (w.alloc (.cells (rA f l s) 24)).cell? ⟨w.heap.size, 0, none⟩ = some (.int .i64 f) := by
      rw [World.cell?_alloc_new]; rfl
    have hfit : fitB f l s m = (decide (0 < s (clsN m)) || decide (0 < f)) := by unfold fitB; rw [if_pos h1]; simp
    have HF := Lib.hid hfit
    clear hfit
    have HO := Lib.hid (of_yes m (by omega) (by omega))
    clear h1
    by_cases hs : 0 < s (clsN m)
    · go_enter Try.func23, Try.ntmps23
      go_wp2_with fail
      refine (HO.out _).mono ?_
      rintro e w' ⟨rfl, rfl⟩
      go_wp2
      go_ret
      exact ⟨ret_b (by rw [HF.out]; simp [hs]), HB.out⟩
    · by_cases hf : 0 < f
      · go_enter Try.func23, Try.ntmps23
        go_wp2_with fail
        refine (HO.out _).mono ?_
        rintro e w' ⟨rfl, rfl⟩
        go_wp2
        go_ret
        exact ⟨ret_b (by rw [HF.out]; simp [hf]), HB.out⟩
      · go_enter Try.func23, Try.ntmps23
        go_wp2_with fail
        refine (HO.out _).mono ?_
        rintro e w' ⟨rfl, rfl⟩
        go_wp2
        go_ret
        exact ⟨ret_b (by rw [HF.out]), HB.out⟩
  · have HO := Lib.hid (of_no n (by omega))
    by_cases h2 : 120 < n ∧ n ≤ 4096
    · obtain ⟨m, rfl⟩ : ∃ m : Nat, n = m := ⟨n.toNat, by omega⟩
      have hlc : (w.alloc (.cells (rA f l s) 24)).cell? ⟨w.heap.size, 1, none⟩ = some (.int .i64 l) := by
        rw [World.cell?_alloc_new]; rfl
      have hfit : fitB f l s m = decide ((((m + 255) / 256 : Nat) : Int) ≤ l) := by unfold fitB; rw [if_neg h1, if_pos h2]; simp
      have HF := Lib.hid hfit
      have HP := Lib.hid (pages_yes m (by omega) (by omega))
      clear hfit h1 h2
      generalize (m + 255) / 256 = p at *
      go_enter Try.func23, Try.ntmps23
      go_wp2_with fail
      refine (HO.out _).mono ?_
      rintro e w' ⟨rfl, rfl⟩
      go_wp2_with fail
      refine (HP.out _).mono ?_
      rintro e w' ⟨rfl, rfl⟩
      go_wp2
      go_ret
      exact ⟨ret_b (by rw [HF.out]), HB.out⟩
    · have hfit : fitB f l s n = false := by unfold fitB; rw [if_neg h1, if_neg h2]
      have HF := Lib.hid hfit
      have HP := Lib.hid (pages_no n (by omega))
      clear hfit h1 h2
      go_enter Try.func23, Try.ntmps23
      go_wp2_with fail
      refine (HO.out _).mono ?_
      rintro e w' ⟨rfl, rfl⟩
      go_wp2_with fail
      refine (HP.out _).mono ?_
      rintro e w' ⟨rfl, rfl⟩
      go_wp2
      go_ret
      exact ⟨ret_b (by rw [HF.out]), HB.out⟩
set_option maxRecDepth 100000 in
set_option maxHeartbeats 1000000 in
theorem rfits_c (f l : Int) (s : Nat → Int) (n : Int) (w : World) :
    Calls Try.prog 24 #[.agg (rA f l s), .int .i64 n] w fun e w' => e = .returned (.bool (fitB f l s n)) ∧ Below w.heap.size w w' := by
  have hbel : Below w.heap.size w (w.alloc (.cells (rA f l s) 27)) := (Below.refl _ _).alloc (Nat.le_refl _) _
  have HB := Lib.hid hbel
  clear hbel
  by_cases h1 : 1 ≤ n ∧ n ≤ 120
  · obtain ⟨m, rfl⟩ : ∃ m : Nat, n = m := ⟨n.toNat, by omega⟩
    have c8 := (cls_all m (by omega) (by omega)).1
    have hcell : (w.alloc (.cells (rA f l s) 27)).cell? ⟨w.heap.size, 2 + clsN m, none⟩ = some (.int .i64 (s (clsN m))) := by
      rw [World.cell?_alloc_new]; exact rA_slot f l s _ c8
    have hfc : (w.alloc (.cells (rA f l s) 27)).cell? ⟨w.heap.size, 0, none⟩ = some (.int .i64 f) := by
      rw [World.cell?_alloc_new]; rfl
    have hfit : fitB f l s m = (decide (0 < s (clsN m)) || decide (0 < f)) := by unfold fitB; rw [if_pos h1]; simp
    have HF := Lib.hid hfit
    clear hfit
    have HO := Lib.hid (rof_yes m (by omega) (by omega))
    clear h1
    by_cases hs : 0 < s (clsN m)
    · go_enter Try.func24, Try.ntmps24
      go_wp2_with fail
      refine (HO.out _).mono ?_
      rintro e w' ⟨rfl, rfl⟩
      go_wp2
      go_ret
      exact ⟨ret_b (by rw [HF.out]; simp [hs]), HB.out⟩
    · by_cases hf : 0 < f
      · go_enter Try.func24, Try.ntmps24
        go_wp2_with fail
        refine (HO.out _).mono ?_
        rintro e w' ⟨rfl, rfl⟩
        go_wp2
        go_ret
        exact ⟨ret_b (by rw [HF.out]; simp [hf]), HB.out⟩
      · go_enter Try.func24, Try.ntmps24
        go_wp2_with fail
        refine (HO.out _).mono ?_
        rintro e w' ⟨rfl, rfl⟩
        go_wp2
        go_ret
        exact ⟨ret_b (by rw [HF.out]), HB.out⟩
  · have HO := Lib.hid (rof_no n (by omega))
    by_cases h2 : 120 < n ∧ n ≤ 4096
    · obtain ⟨m, rfl⟩ : ∃ m : Nat, n = m := ⟨n.toNat, by omega⟩
      have hlc : (w.alloc (.cells (rA f l s) 27)).cell? ⟨w.heap.size, 1, none⟩ = some (.int .i64 l) := by
        rw [World.cell?_alloc_new]; rfl
      have hfit : fitB f l s m = decide ((((m + 255) / 256 : Nat) : Int) ≤ l) := by unfold fitB; rw [if_neg h1, if_pos h2]; simp
      have HF := Lib.hid hfit
      have HP := Lib.hid (rpages_yes m (by omega) (by omega))
      clear hfit h1 h2
      generalize (m + 255) / 256 = p at *
      go_enter Try.func24, Try.ntmps24
      go_wp2_with fail
      refine (HO.out _).mono ?_
      rintro e w' ⟨rfl, rfl⟩
      go_wp2_with fail
      refine (HP.out _).mono ?_
      rintro e w' ⟨rfl, rfl⟩
      go_wp2
      go_ret
      exact ⟨ret_b (by rw [HF.out]), HB.out⟩
    · have hfit : fitB f l s n = false := by unfold fitB; rw [if_neg h1, if_neg h2]
      have HF := Lib.hid hfit
      have HP := Lib.hid (rpages_no n (by omega))
      clear hfit h1 h2
      go_enter Try.func24, Try.ntmps24
      go_wp2_with fail
      refine (HO.out _).mono ?_
      rintro e w' ⟨rfl, rfl⟩
      go_wp2_with fail
      refine (HP.out _).mono ?_
      rintro e w' ⟨rfl, rfl⟩
      go_wp2
      go_ret
      exact ⟨ret_b (by rw [HF.out]), HB.out⟩
end Go.Proofs.Ytnmjkdmhfogeiaa
