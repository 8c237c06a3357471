/- Contracts of gf.twice, gf.Mul, gf.Power, gf.Inv. -/
import Derived.Test.YtjclofkkpgdjnaaProg
import Derived.Test.YtjclofkkpgdjnaaGfMath
import Derived.Test.YtjclofkkpgdjnaaLib
set_option linter.unusedVariables false
namespace Go.Proofs.Ytjclofkkpgdjnaa
open Go Go.RowKit GfM

theorem tw_int (a : Nat) (ha : a < 256) : bits BinOp.xor IntKind.u8 ((a : Int) * 2 % 256) (27 * ((a : Int) / 128)) = ((tw a : Nat) : Int) :=
  u8x (a := a * 2 % 256) (b := 27 * (a / 128)) (by omega) (by omega) (by omega) (by omega)

theorem twice_c (a : Nat) (ha : a < 256) (w : World) :
    Calls Try.prog 119 #[.int .u8 (a : Int)] w fun e w' => e = .returned (.int .u8 ((tw a : Nat) : Int)) ∧ w = w' := by
  go_enter Try.func119, Try.ntmps119
  go_wp2
  go_ret
  exact ⟨ret_i (tw_int a ha), rfl⟩

theorem mulbit_int (x y o : Nat) (hx : x < 256) (hy : y < 256) (ho : o < 256) :
    bits BinOp.xor IntKind.u8 (o : Int) ((x : Int) * bits BinOp.and IntKind.u8 (y : Int) 1 % 256) = ((o ^^^ x * (y % 2) : Nat) : Int) := by
  refine u8x rfl ?_ ho (mb_lt x y hx)
  rw [u8a1 y hy]; have := mb_lt x y hx
  rw [← Int.natCast_mul]; omega
set_option maxHeartbeats 400000 in
theorem mul_c (a b : Nat) (ha : a < 256) (hb : b < 256) (w : World) :
    Calls Try.prog 111 #[.int .u8 (a : Int), .int .u8 (b : Int)] w fun e w' => e = .returned (.int .u8 ((gmul a b : Nat) : Int)) ∧ w = w' := by
  go_enter Try.func111, Try.ntmps111
  go_wp2
  go_loop [0, 1, 5, 6] (fun va vb vo vi => ∃ (k x y o : Nat), k ≤ 8 ∧ x < 256 ∧ y < 256 ∧ o < 256 ∧ va = .int .u8 x ∧ vb = .int .u8 y ∧ vo = .int .u8 o ∧ vi = .int .i64 k ∧ Hid (mulGo (8 - k) o x y = gmul a b)) (fun _ _ _ vi => 8 - (intOf vi).toNat)
  case atStart => exact ⟨0, a, b, 0, by omega, ha, hb, by omega, rfl, rfl, rfl, rfl, rfl⟩
  case round =>
    obtain ⟨k, x, y, o, hk, hx, hy, ho, rfl, rfl, rfl, rfl, hm⟩ := hrel
    by_cases hlt : k < 8
    · go_wp2_with (go_at_call 119; refine (twice_c x hx _).mono ?_; rintro e w' ⟨rfl, rfl⟩)
      go_round
      case rel => exact ⟨k + 1, tw x, y / 2, o ^^^ x * (y % 2), by omega, tw_lt x hx, by omega, xor_lt _ _ ho (mb_lt x y hx), rfl, by go_num, vint (mulbit_int x y o hx hy ho), by go_num, by rw [show 8 - k = (8 - (k + 1)) + 1 by omega] at hm; exact hm⟩
      case measure => simp [intOf]; omega
    · have h8 : Hid (o = gmul a b) := by have := hm.out; rw [show 8 - k = 0 by omega] at this; exact this
      clear hm
      go_wp2
      go_ret
      exact ⟨ret_i (by rw [h8.out]), rfl⟩
theorem powGo_step (f o x m : Nat) (h : 0 < m) : powGo (f + 1) o x m = powGo f (if m % 2 = 1 then gmul o x else o) (gmul x x) (m / 2) := by
  show (if m = 0 then o else _) = _
  rw [if_neg (by omega)]
theorem powGo_zero (f o x : Nat) : powGo f o x 0 = o := by cases f <;> simp [powGo]
set_option maxHeartbeats 800000 in
theorem power_c (a n : Nat) (ha : a < 256) (hn : n < 2 ^ 32) (w : World) :
    Calls Try.prog 93 #[.int .u8 (a : Int), .int .i64 (n : Int)] w fun e w' => e = .returned (.int .u8 ((powN a n : Nat) : Int)) ∧ w = w' := by
  go_enter Try.func93, Try.ntmps93
  go_wp2
  go_loop [0, 1, 5] (fun va vn vo => ∃ (f x m o : Nat), f ≤ 32 ∧ m < 2 ^ f ∧ x < 256 ∧ o < 256 ∧ m < 4294967296 ∧ va = .int .u8 x ∧ vn = .int .i64 m ∧ vo = .int .u8 o ∧ Hid (powGo f o x m = powN a n)) (fun _ vn _ => (intOf vn).toNat)
  case atStart => exact ⟨32, a, n, 1, by omega, hn, ha, by omega, hn, rfl, rfl, rfl, by rw [powGo_eq 32 1 a n hn (by omega) ha, gmul_comm _ _ (by omega) (powN_lt _ _), gmul_one _ (powN_lt _ _)]; exact rfl⟩
  case round =>
    obtain ⟨f, x, m, o, hf, hmf, hx, ho, hmm, rfl, rfl, rfl, hp⟩ := hrel
    clear hn
    by_cases h0 : 0 < m
    · obtain ⟨f, rfl⟩ : ∃ g, f = g + 1 := by
        cases f with
        | zero => simp at hmf; omega
        | succ g => exact ⟨g, rfl⟩
      have hst := powGo_step f o x m h0
      have hm2 : m / 2 < 2 ^ f := by rw [Nat.pow_succ] at hmf; omega
      have HM2 := Lib.hid hm2
      clear hmf hm2
      by_cases h1 : m % 2 = 1
      · have hb := i64_odd m (by omega) h1
        have HP : Hid (powGo f (gmul o x) (gmul x x) (m / 2) = powN a n) := by rw [if_pos h1] at hst; rw [← hst]; exact hp.out
        clear h1 hst hp
        go_wp2_with (first | (go_at_call 111; (with_reducible refine (mul_c o x ho hx _).mono ?_); rintro e w' ⟨rfl, rfl⟩) | (go_at_call 111; (with_reducible refine (mul_c x x hx hx _).mono ?_); rintro e w' ⟨rfl, rfl⟩))
        go_round
        case rel => exact ⟨f, gmul x x, m / 2, gmul o x, by omega, HM2.out, gmul_lt _ _ hx, gmul_lt _ _ ho, by omega, rfl, by go_num, rfl, HP⟩
        case measure => simp [intOf]; omega
      · have hb := i64_even m (by omega) h1
        have HP : Hid (powGo f o (gmul x x) (m / 2) = powN a n) := by rw [if_neg h1] at hst; rw [← hst]; exact hp.out
        clear h1 hst hp
        go_wp2_with (go_at_call 111; (with_reducible refine (mul_c x x hx hx _).mono ?_); rintro e w' ⟨rfl, rfl⟩)
        go_round
        case rel => exact ⟨f, gmul x x, m / 2, o, by omega, HM2.out, gmul_lt _ _ hx, ho, by omega, rfl, by go_num, rfl, HP⟩
        case measure => simp [intOf]; omega
    · have hz : m = 0 := by omega
      subst hz
      have HO : Hid (o = powN a n) := by have := hp.out; rw [powGo_zero] at this; exact this
      clear hp hmf
      go_wp2
      go_ret
      exact ⟨ret_i (by rw [HO.out]), rfl⟩
theorem power_neg (a : Nat) (n : Int) (hn : n ≤ 0) (w : World) :
    Calls Try.prog 93 #[.int .u8 (a : Int), .int .i64 n] w fun e w' => e = .returned (.int .u8 1) ∧ w = w' := by
  have h : ¬ 0 < n := by omega
  go_enter Try.func93, Try.ntmps93
  go_wp2
  refine wp_loop_rounds 1 ?_; rw [rounds_succ]
  go_wp2
  go_ret
  exact ⟨rfl, rfl⟩
theorem inv_c (a : Nat) (ha : a < 256) (w : World) :
    Calls Try.prog 65 #[.int .u8 (a : Int)] w fun e w' => e = .returned (.int .u8 ((ginv a : Nat) : Int)) ∧ w = w' := by
  have hg : ginv a = powN a 254 := by unfold ginv; rw [powGo_eq 8 1 a 254 (by decide) (by omega) ha, gmul_comm _ _ (by omega) (powN_lt _ _), gmul_one _ (powN_lt _ _)]
  have HG := Lib.hid hg
  clear hg
  go_enter Try.func65, Try.ntmps65
  go_wp2_with (go_at_call 93; (refine (power_c a 254 ha (by decide) _).mono ?_); rintro e w' ⟨rfl, rfl⟩)
  go_ret
  exact ⟨ret_i (by rw [HG.out]), rfl⟩
end Go.Proofs.Ytjclofkkpgdjnaa
