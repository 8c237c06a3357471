/- The walks of the laws GfField, GfPower, GfBox. -/
import Derived.Test.YtnmjkdmhfogeiaaGfW
namespace Go.Proofs.Ytnmjkdmhfogeiaa
open Go Go.RowKit GfM
theorem mul_as {A B : Int} (R : Int) (a b : Nat) (ha : a < 256) (hb : b < 256) (hA : A = a) (hB : B = b) (hR : R = ((gmul a b : Nat) : Int)) (w : World) :
    Calls Try.prog 28 #[.int .u8 A, .int .u8 B] w fun e w' => e = .returned (.int .u8 R) ∧ w = w' := by
  subst hA hB hR; exact mul_c a b ha hb w
theorem power_as {A B : Int} (R : Int) (a n : Nat) (ha : a < 256) (hn : n < 2 ^ 32) (hA : A = a) (hB : B = n) (hR : R = ((powN a n : Nat) : Int)) (w : World) :
    Calls Try.prog 33 #[.int .u8 A, .int .i64 B] w fun e w' => e = .returned (.int .u8 R) ∧ w = w' := by
  subst hA hB hR; exact power_c a n ha hn w
theorem sub_as {A : Int} (R : Int) (b c : Nat) (hc : c < 256) (hA : A = c) (hR : R = ((sbx c : Nat) : Int)) (w : World) (h : IsBox w b) :
    Calls Try.prog 35 #[.pointer (some ⟨b, 0, none⟩), .int .u8 A] w fun e w' => e = .returned (.int .u8 R) ∧ w = w' := by
  subst hA hR; exact sub_c w b c hc h
theorem back_as {A : Int} (R : Int) (b c : Nat) (hc : c < 256) (hA : A = c) (hR : R = ((bkx c : Nat) : Int)) (w : World) (h : IsBox w b) :
    Calls Try.prog 37 #[.pointer (some ⟨b, 0, none⟩), .int .u8 A] w fun e w' => e = .returned (.int .u8 R) ∧ w = w' := by
  subst hA hR; exact back_c w b c hc h
set_option maxRecDepth 100000 in
set_option maxHeartbeats 1000000 in
theorem walkGfField (a : Int) (wa : (Lit.int .u8 a).wf = true) (b : Int) (wb : (Lit.int .u8 b).wf = true) (c : Int) (wc : (Lit.int .u8 c).wf = true) (w : World) :
    Calls Try.prog 5 #[.int .u8 a, .int .u8 b, .int .u8 c] w fun e w' => e = .returned (.bool true) ∧ Below w.heap.size w w' := by
  obtain ⟨a, ha, rfl⟩ := wf_nat8 wa
  obtain ⟨b, hb, rfl⟩ := wf_nat8 wb
  obtain ⟨c, hc, rfl⟩ := wf_nat8 wc
  clear wa wb wc
  go_enter Try.func5, Try.ntmps5
  go_wp2_with fail
  refine (mul_as ((gmul a b : Nat) : Int) a b ha hb rfl rfl rfl _).mono ?_
  rintro e w' ⟨rfl, rfl⟩
  go_wp2_with fail
  refine (mul_as ((gmul a b : Nat) : Int) b a hb ha rfl rfl (by rw [gmul_comm a b ha hb]) _).mono ?_
  rintro e w' ⟨rfl, rfl⟩
  go_wp2_with fail
  refine (mul_as ((gmul b c : Nat) : Int) b c hb hc rfl rfl rfl _).mono ?_
  rintro e w' ⟨rfl, rfl⟩
  go_wp2_with fail
  refine (mul_as ((gmul (gmul a b) c : Nat) : Int) a (gmul b c) ha (gmul_lt _ _ hb) rfl rfl (by rw [gmul_assoc a b c ha hb hc]) _).mono ?_
  rintro e w' ⟨rfl, rfl⟩
  go_wp2_with fail
  refine (mul_as ((gmul a b : Nat) : Int) a b ha hb rfl rfl rfl _).mono ?_
  rintro e w' ⟨rfl, rfl⟩
  go_wp2_with fail
  refine (mul_as ((gmul (gmul a b) c : Nat) : Int) (gmul a b) c (gmul_lt _ _ ha) hc rfl rfl rfl _).mono ?_
  rintro e w' ⟨rfl, rfl⟩
  go_wp2_with fail
  refine (mul_as (bits BinOp.xor IntKind.u8 ((gmul a b : Nat) : Int) ((gmul a c : Nat) : Int)) a (b ^^^ c) ha (xor_lt _ _ hb hc) rfl (u8x rfl rfl hb hc) (by rw [gmul_right]; exact u8x rfl rfl (gmul_lt _ _ ha) (gmul_lt _ _ ha)) _).mono ?_
  rintro e w' ⟨rfl, rfl⟩
  go_wp2_with fail
  refine (mul_as ((gmul a b : Nat) : Int) a b ha hb rfl rfl rfl _).mono ?_
  rintro e w' ⟨rfl, rfl⟩
  go_wp2_with fail
  refine (mul_as ((gmul a c : Nat) : Int) a c ha hc rfl rfl rfl _).mono ?_
  rintro e w' ⟨rfl, rfl⟩
  go_wp2_with fail
  refine (mul_as (a : Int) a 1 ha (by omega) rfl rfl (by rw [gmul_one a ha]) _).mono ?_
  rintro e w' ⟨rfl, rfl⟩
  go_wp2_with fail
  refine (awake02_c _).mono ?_
  rintro e w1 ⟨rfl, hb1⟩
  go_wp2
  go_ret
  exact ⟨rfl, hb1⟩
set_option maxRecDepth 100000 in
set_option maxHeartbeats 1000000 in
theorem walkGfBox (a : Int) (wa : (Lit.int .u8 a).wf = true) (w : World) :
    Calls Try.prog 8 #[.int .u8 a] w fun e w' => e = .returned (.bool true) ∧ Below w.heap.size w w' := by
  obtain ⟨c, hc, rfl⟩ := wf_nat8 wa
  clear wa
  go_enter Try.func8, Try.ntmps8
  go_wp2_with fail
  refine (newbox_c _).mono ?_
  rintro e w1 ⟨rfl, hbox, hz, hbel⟩
  go_wp2_with fail
  refine (sub_as ((sbx c : Nat) : Int) _ c hc rfl rfl _ hbox).mono ?_
  rintro e w' ⟨rfl, rfl⟩
  go_wp2_with fail
  refine (refsub_c c hc _).mono ?_
  rintro e w' ⟨rfl, rfl⟩
  go_wp2_with fail
  refine (sub_as ((sbx c : Nat) : Int) _ c hc rfl rfl _ hbox).mono ?_
  rintro e w' ⟨rfl, rfl⟩
  go_wp2_with fail
  refine (back_as (c : Int) _ (sbx c) (sbx_lt c hc) rfl (by rw [bkx_sbx c hc]) _ hbox).mono ?_
  rintro e w' ⟨rfl, rfl⟩
  go_wp2_with fail
  refine (back_as ((bkx c : Nat) : Int) _ c hc rfl rfl _ hbox).mono ?_
  rintro e w' ⟨rfl, rfl⟩
  go_wp2_with fail
  refine (sub_as (c : Int) _ (bkx c) (bkx_lt c hc) rfl (by rw [sbx_bkx c hc]) _ hbox).mono ?_
  rintro e w' ⟨rfl, rfl⟩
  go_wp2_with fail
  refine (sub_nil _ _).mono ?_
  rintro e w' ⟨rfl, rfl⟩
  go_wp2_with fail
  refine (back_nil _ _).mono ?_
  rintro e w' ⟨rfl, rfl⟩
  go_wp2_with fail
  refine (awake02_c _).mono ?_
  rintro e w2 ⟨rfl, hb1⟩
  go_wp2
  go_ret
  exact ⟨rfl, hbel.trans (hb1.mono (by omega))⟩
theorem i64a1023 (n : Nat) (hn : n < 9223372036854775808) : bits BinOp.and IntKind.i64 (n : Int) 1023 = ((n % 1024 : Nat) : Int) := by
  have h := i64n (x := n) (y := 1023) (a := n) (b := 1023) rfl rfl hn (by omega)
  rw [h, nat_mask10]
set_option maxRecDepth 100000 in
set_option maxHeartbeats 1000000 in
theorem walkGfPower (a : Int) (wa : (Lit.int .u8 a).wf = true) (n : Int) (wn : (Lit.int .i64 n).wf = true) (w : World) :
    Calls Try.prog 7 #[.int .u8 a, .int .i64 n] w fun e w' => e = .returned (.bool true) ∧ Below w.heap.size w w' := by
  obtain ⟨a, ha, rfl⟩ := wf_nat8 wa
  have hn := wf_i64 wn
  clear wa wn
  by_cases h1 : n < 1
  · have h0 : n ≤ 0 := by omega
    go_enter Try.func7, Try.ntmps7
    go_wp2_with fail
    refine (power_neg a n h0 _).mono ?_
    rintro e w' ⟨rfl, rfl⟩
    go_wp2_with fail
    refine (awake02_c _).mono ?_
    rintro e w1 ⟨rfl, hb1⟩
    go_wp2
    go_ret
    exact ⟨rfl, hb1⟩
  · obtain ⟨m, rfl⟩ : ∃ m : Nat, n = m := ⟨n.toNat, by omega⟩
    have e := i64a1023 m (by omega)
    have hk : m % 1024 < 1024 := by omega
    generalize m % 1024 = k at *
    go_enter Try.func7, Try.ntmps7
    go_wp2_with fail
    clear e
    refine (power_as ((powN a (k + 1) : Nat) : Int) a (k + 1) ha (by omega) rfl (by omega) rfl _).mono ?_
    rintro e w' ⟨rfl, rfl⟩
    go_wp2_with fail
    refine (power_as ((powN a k : Nat) : Int) a k ha (by omega) rfl rfl rfl _).mono ?_
    rintro e w' ⟨rfl, rfl⟩
    go_wp2_with fail
    refine (mul_as ((powN a (k + 1) : Nat) : Int) (powN a k) a (powN_lt _ _) ha rfl rfl rfl _).mono ?_
    rintro e w' ⟨rfl, rfl⟩
    go_wp2_with fail
    refine (power_neg a 0 (by omega) _).mono ?_
    rintro e w' ⟨rfl, rfl⟩
    go_wp2_with fail
    refine (awake02_c _).mono ?_
    rintro e w1 ⟨rfl, hb1⟩
    go_wp2
    go_ret
    exact ⟨rfl, hb1⟩
end Go.Proofs.Ytnmjkdmhfogeiaa
