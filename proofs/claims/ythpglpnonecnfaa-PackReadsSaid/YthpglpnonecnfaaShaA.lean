/- Contracts of the bits' functions and the words of SHA-256. (not built yet) -/
import Derived.Test.YthpglpnonecnfaaShaMath
import Derived.Test.YthpglpnonecnfaaLib
import Derived.Test.YthpglpnonecnfaaCtrA
import Derived.Laws.Externs
set_option linter.unusedVariables false
set_option linter.unusedSimpArgs false
namespace Go.Proofs.Ythpglpnonecnfaa
open Go Go.RowKit Sha
theorem u32_nat (a b : Nat) (ha : a < 2 ^ 32) (hb : b < 2 ^ 32) :
    bits .and .u32 a b = ((a &&& b : Nat) : Int) ∧ bits .or .u32 a b = ((a ||| b : Nat) : Int) ∧ bits .xor .u32 a b = ((a ^^^ b : Nat) : Int) := by
  have ha' : a % 2 ^ 32 = a := Nat.mod_eq_of_lt ha
  have hb' : b % 2 ^ 32 = b := Nat.mod_eq_of_lt hb
  have wr : ∀ n : Nat, n < 2 ^ 32 → IntKind.u32.wrap (n : Int) = n := fun n h => by rw [IntKind.wrap_u32]; omega
  have e : IntKind.u32.bits = 32 := rfl
  refine ⟨?_, ?_, ?_⟩
  · simp only [bits, e, BitVec.ofInt_natCast, BitVec.toNat_and, BitVec.toNat_ofNat, ha', hb']
    exact wr _ (Nat.and_lt_two_pow _ hb)
  · simp only [bits, e, BitVec.ofInt_natCast, BitVec.toNat_or, BitVec.toNat_ofNat, ha', hb']
    exact wr _ (Nat.or_lt_two_pow ha hb)
  · simp only [bits, e, BitVec.ofInt_natCast, BitVec.toNat_xor, BitVec.toNat_ofNat, ha', hb']
    exact wr _ (Nat.xor_lt_two_pow ha hb)
theorem u32x {x y : Int} {a b : Nat} (hx : x = a) (hy : y = b) (ha : a < 4294967296) (hb : b < 4294967296) : bits .xor .u32 x y = ((a ^^^ b : Nat) : Int) := by
  subst hx; subst hy; exact (u32_nat a b ha hb).2.2
theorem u32o {x y : Int} {a b : Nat} (hx : x = a) (hy : y = b) (ha : a < 4294967296) (hb : b < 4294967296) : bits .or .u32 x y = ((a ||| b : Nat) : Int) := by
  subst hx; subst hy; exact (u32_nat a b ha hb).2.1
theorem u32n {x y : Int} {a b : Nat} (hx : x = a) (hy : y = b) (ha : a < 4294967296) (hb : b < 4294967296) : bits .and .u32 x y = ((a &&& b : Nat) : Int) := by
  subst hx; subst hy; exact (u32_nat a b ha hb).1
theorem u64_nat (a b : Nat) (ha : a < 2 ^ 64) (hb : b < 2 ^ 64) :
    bits .and .u64 a b = ((a &&& b : Nat) : Int) ∧ bits .or .u64 a b = ((a ||| b : Nat) : Int) := by
  have ha' : a % 2 ^ 64 = a := Nat.mod_eq_of_lt ha
  have hb' : b % 2 ^ 64 = b := Nat.mod_eq_of_lt hb
  have wr : ∀ n : Nat, n < 2 ^ 64 → IntKind.u64.wrap (n : Int) = n := fun n h => by rw [IntKind.wrap_u64]; omega
  have e : IntKind.u64.bits = 64 := rfl
  refine ⟨?_, ?_⟩
  · simp only [bits, e, BitVec.ofInt_natCast, BitVec.toNat_and, BitVec.toNat_ofNat, ha', hb']
    exact wr _ (Nat.and_lt_two_pow _ hb)
  · simp only [bits, e, BitVec.ofInt_natCast, BitVec.toNat_or, BitVec.toNat_ofNat, ha', hb']
    exact wr _ (Nat.or_lt_two_pow ha hb)
theorem u64_low (x : Nat) (hx : x < 18446744073709551616) : bits .and .u64 (x : Int) 4294967295 = ((x % 4294967296 : Nat) : Int) := by
  have h := (u64_nat x 4294967295 hx (by decide)).1
  rw [show (4294967295 : Nat) = 2 ^ 32 - 1 from rfl, Nat.and_two_pow_sub_one_eq_mod] at h
  exact h
theorem shl_lt (x s : Nat) : shl x s < 4294967296 := by unfold shl; omega
theorem shr_lt (x s : Nat) (h : x < 4294967296) : shr x s < 4294967296 := by
  unfold shr; exact Nat.lt_of_le_of_lt (Nat.div_le_self _ _) h
theorem rotr_lt (x k : Nat) (h : x < 4294967296) : rotr x k < 4294967296 := by
  unfold rotr; exact Nat.or_lt_two_pow (n := 32) (shl_lt _ _) (shr_lt _ _ h)
theorem xor32 {a b : Nat} (ha : a < 4294967296) (hb : b < 4294967296) : a ^^^ b < 4294967296 := Nat.xor_lt_two_pow (n := 32) ha hb
theorem neg_low (k q : Nat) (h1 : 1 ≤ k) (h2 : k ≤ 31) (hq : q = 32 - k) : bits BinOp.and IntKind.u64 (IntKind.u64.wrap (-(k : Int))) 31 = (q : Int) := by
  have e : IntKind.u64.wrap (-(k : Int)) = ((18446744073709551616 - k : Nat) : Int) := by rw [IntKind.wrap_u64]; omega
  rw [e]
  have h := (u64_nat (18446744073709551616 - k) 31 (by omega) (by decide)).1
  rw [show (31 : Nat) = 2 ^ 5 - 1 from rfl, Nat.and_two_pow_sub_one_eq_mod] at h
  have h3 : (18446744073709551616 - k) % 2 ^ 5 = q := by
    show _ % 32 = _
    omega
  rw [h3] at h
  exact h
set_option maxRecDepth 100000 in
theorem rotl_c (x k : Nat) (hx : x < 4294967296) (h1 : 1 ≤ k) (h2 : k ≤ 31) (w : World) :
    Calls Try.prog 68 #[.int .u32 (x : Int), .int .i64 (-(k : Int))] w fun e w' => e = .returned (.int .u32 ((rotr x k : Nat) : Int)) ∧ w = w' := by
  obtain ⟨q, hq⟩ : ∃ q, q = 32 - k := ⟨_, rfl⟩
  have hs := neg_low k q h1 h2 hq
  have ht : IntKind.u64.wrap (32 - (q : Int)) = (k : Int) := by rw [IntKind.wrap_u64]; omega
  have d1 : ¬ (64 : Int) ≤ (q : Int) := by omega
  have d2 : (q : Int) < 32 := by omega
  have d3 : (k : Int) < 32 := by omega
  have HQ := Lib.hid hq
  have HX := Lib.hid hx
  have HK := Lib.hid (And.intro h1 h2)
  clear hq hx h1 h2
  go_enter Try.func68, Try.ntmps68
  go_wp2
  go_ret
  refine ⟨ret_i (u32o (a := shl x (32 - k)) (b := shr x k) ?_ ?_ (shl_lt _ _) (shr_lt _ _ HX.out)), rfl⟩
  · rw [← HQ.out]; simp [shl]
  · have e : 32 - q = k := by have := HQ.out; have := HK.out; omega
    simp [shr, e]
theorem mod32 (a : Nat) : IntKind.u32.wrap (a : Int) = ((a % 4294967296 : Nat) : Int) := by rw [IntKind.wrap_u32]; omega
set_option maxRecDepth 100000 in
theorem w32r_c (x k : Nat) (hx : x < 4294967296) (h1 : 1 ≤ k) (h2 : k ≤ 31) (w : World) :
    Calls Try.prog 67 #[.int .u32 (x : Int), .int .i64 (k : Int)] w fun e w' => e = .returned (.int .u32 ((rotr x k : Nat) : Int)) ∧ w = w' := by
  have e1 : IntKind.i64.wrap (-(k : Int)) = -(k : Int) := IntWalk.i64_in _ (by omega)
  have HR := Lib.hid (rotl_c x k hx h1 h2)
  have e2 : IntKind.u32.wrap (x : Int) = (x : Int) := by rw [IntKind.wrap_u32]; omega
  have e3 : IntKind.u32.wrap ((rotr x k : Nat) : Int) = ((rotr x k : Nat) : Int) := by have := rotr_lt x k hx; rw [IntKind.wrap_u32]; omega
  clear hx h1 h2
  go_enter Try.func67, Try.ntmps67
  go_wp2_with fail
  refine (HR.out w).mono ?_
  rintro r w' ⟨rfl, rfl⟩
  go_wp2
  go_ret
  exact ⟨rfl, rfl⟩
set_option maxRecDepth 100000 in
theorem small0_c (x : Nat) (hx : x < 4294967296) (w : World) :
    Calls Try.prog 66 #[.int .u32 (x : Int)] w fun e w' => e = .returned (.int .u32 ((sm0 x : Nat) : Int)) ∧ w = w' := by
  have HR := Lib.hid (fun (k : Nat) (h1 : 1 ≤ k) (h2 : k ≤ 31) => w32r_c x k hx h1 h2)
  have l0 := rotr_lt x 7 hx
  obtain ⟨r0, hr0⟩ : ∃ r, r = rotr x 7 := ⟨_, rfl⟩
  rw [← hr0] at l0
  have l1 := rotr_lt x 18 hx
  obtain ⟨r1, hr1⟩ : ∃ r, r = rotr x 18 := ⟨_, rfl⟩
  rw [← hr1] at l1
  have hx01 : bits BinOp.xor IntKind.u32 (r0 : Int) (r1 : Int) = ((r0 ^^^ r1 : Nat) : Int) := u32x rfl rfl l0 l1
  have ls := shr_lt x 3 hx
  have hsh : (x : Int) / 8 = ((shr x 3 : Nat) : Int) := by unfold shr; omega
  obtain ⟨r2, hr2⟩ : ∃ r, r = shr x 3 := ⟨_, rfl⟩
  rw [← hr2] at ls hsh
  have hval : sm0 x = r0 ^^^ r1 ^^^ r2 := by rw [hr0, hr1, hr2]; rfl
  have hx2 : bits BinOp.xor IntKind.u32 ((r0 ^^^ r1 : Nat) : Int) (r2 : Int) = ((r0 ^^^ r1 ^^^ r2 : Nat) : Int) := u32x rfl rfl (xor32 l0 l1) ls
  have HR0 := Lib.hid hr0
  have HR1 := Lib.hid hr1
  rw [hval]
  clear hval hr0 hr1 hr2 hx
  go_enter Try.func66, Try.ntmps66
  go_wp2_with fail
  refine (HR.out 7 (by omega) (by omega) w).mono ?_
  rintro r w' ⟨rfl, rfl⟩
  rw [← HR0.out]
  go_wp2_with fail
  refine (HR.out 18 (by omega) (by omega) w).mono ?_
  rintro r w' ⟨rfl, rfl⟩
  rw [← HR1.out]
  go_wp2
  go_ret
  exact ⟨rfl, rfl⟩
set_option maxRecDepth 100000 in
theorem small1_c (x : Nat) (hx : x < 4294967296) (w : World) :
    Calls Try.prog 65 #[.int .u32 (x : Int)] w fun e w' => e = .returned (.int .u32 ((sm1 x : Nat) : Int)) ∧ w = w' := by
  have HR := Lib.hid (fun (k : Nat) (h1 : 1 ≤ k) (h2 : k ≤ 31) => w32r_c x k hx h1 h2)
  have l0 := rotr_lt x 17 hx
  obtain ⟨r0, hr0⟩ : ∃ r, r = rotr x 17 := ⟨_, rfl⟩
  rw [← hr0] at l0
  have l1 := rotr_lt x 19 hx
  obtain ⟨r1, hr1⟩ : ∃ r, r = rotr x 19 := ⟨_, rfl⟩
  rw [← hr1] at l1
  have hx01 : bits BinOp.xor IntKind.u32 (r0 : Int) (r1 : Int) = ((r0 ^^^ r1 : Nat) : Int) := u32x rfl rfl l0 l1
  have ls := shr_lt x 10 hx
  have hsh : (x : Int) / 1024 = ((shr x 10 : Nat) : Int) := by unfold shr; omega
  obtain ⟨r2, hr2⟩ : ∃ r, r = shr x 10 := ⟨_, rfl⟩
  rw [← hr2] at ls hsh
  have hval : sm1 x = r0 ^^^ r1 ^^^ r2 := by rw [hr0, hr1, hr2]; rfl
  have hx2 : bits BinOp.xor IntKind.u32 ((r0 ^^^ r1 : Nat) : Int) (r2 : Int) = ((r0 ^^^ r1 ^^^ r2 : Nat) : Int) := u32x rfl rfl (xor32 l0 l1) ls
  have HR0 := Lib.hid hr0
  have HR1 := Lib.hid hr1
  rw [hval]
  clear hval hr0 hr1 hr2 hx
  go_enter Try.func65, Try.ntmps65
  go_wp2_with fail
  refine (HR.out 17 (by omega) (by omega) w).mono ?_
  rintro r w' ⟨rfl, rfl⟩
  rw [← HR0.out]
  go_wp2_with fail
  refine (HR.out 19 (by omega) (by omega) w).mono ?_
  rintro r w' ⟨rfl, rfl⟩
  rw [← HR1.out]
  go_wp2
  go_ret
  exact ⟨rfl, rfl⟩
set_option maxRecDepth 100000 in
theorem great0_c (x : Nat) (hx : x < 4294967296) (w : World) :
    Calls Try.prog 62 #[.int .u32 (x : Int)] w fun e w' => e = .returned (.int .u32 ((gr0 x : Nat) : Int)) ∧ w = w' := by
  have HR := Lib.hid (fun (k : Nat) (h1 : 1 ≤ k) (h2 : k ≤ 31) => w32r_c x k hx h1 h2)
  have l0 := rotr_lt x 2 hx
  obtain ⟨r0, hr0⟩ : ∃ r, r = rotr x 2 := ⟨_, rfl⟩
  rw [← hr0] at l0
  have l1 := rotr_lt x 13 hx
  obtain ⟨r1, hr1⟩ : ∃ r, r = rotr x 13 := ⟨_, rfl⟩
  rw [← hr1] at l1
  have l2 := rotr_lt x 22 hx
  obtain ⟨r2, hr2⟩ : ∃ r, r = rotr x 22 := ⟨_, rfl⟩
  rw [← hr2] at l2
  have hx01 : bits BinOp.xor IntKind.u32 (r0 : Int) (r1 : Int) = ((r0 ^^^ r1 : Nat) : Int) := u32x rfl rfl l0 l1
  have hval : gr0 x = r0 ^^^ r1 ^^^ r2 := by rw [hr0, hr1, hr2]; rfl
  have hx2 : bits BinOp.xor IntKind.u32 ((r0 ^^^ r1 : Nat) : Int) (r2 : Int) = ((r0 ^^^ r1 ^^^ r2 : Nat) : Int) := u32x rfl rfl (xor32 l0 l1) l2
  have HR0 := Lib.hid hr0
  have HR1 := Lib.hid hr1
  have HR2 := Lib.hid hr2
  rw [hval]
  clear hval hr0 hr1 hr2 hx
  go_enter Try.func62, Try.ntmps62
  go_wp2_with fail
  refine (HR.out 2 (by omega) (by omega) w).mono ?_
  rintro r w' ⟨rfl, rfl⟩
  rw [← HR0.out]
  go_wp2_with fail
  refine (HR.out 13 (by omega) (by omega) w).mono ?_
  rintro r w' ⟨rfl, rfl⟩
  rw [← HR1.out]
  go_wp2_with fail
  refine (HR.out 22 (by omega) (by omega) w).mono ?_
  rintro r w' ⟨rfl, rfl⟩
  rw [← HR2.out]
  go_wp2
  go_ret
  exact ⟨rfl, rfl⟩
set_option maxRecDepth 100000 in
theorem great1_c (x : Nat) (hx : x < 4294967296) (w : World) :
    Calls Try.prog 61 #[.int .u32 (x : Int)] w fun e w' => e = .returned (.int .u32 ((gr1 x : Nat) : Int)) ∧ w = w' := by
  have HR := Lib.hid (fun (k : Nat) (h1 : 1 ≤ k) (h2 : k ≤ 31) => w32r_c x k hx h1 h2)
  have l0 := rotr_lt x 6 hx
  obtain ⟨r0, hr0⟩ : ∃ r, r = rotr x 6 := ⟨_, rfl⟩
  rw [← hr0] at l0
  have l1 := rotr_lt x 11 hx
  obtain ⟨r1, hr1⟩ : ∃ r, r = rotr x 11 := ⟨_, rfl⟩
  rw [← hr1] at l1
  have l2 := rotr_lt x 25 hx
  obtain ⟨r2, hr2⟩ : ∃ r, r = rotr x 25 := ⟨_, rfl⟩
  rw [← hr2] at l2
  have hx01 : bits BinOp.xor IntKind.u32 (r0 : Int) (r1 : Int) = ((r0 ^^^ r1 : Nat) : Int) := u32x rfl rfl l0 l1
  have hval : gr1 x = r0 ^^^ r1 ^^^ r2 := by rw [hr0, hr1, hr2]; rfl
  have hx2 : bits BinOp.xor IntKind.u32 ((r0 ^^^ r1 : Nat) : Int) (r2 : Int) = ((r0 ^^^ r1 ^^^ r2 : Nat) : Int) := u32x rfl rfl (xor32 l0 l1) l2
  have HR0 := Lib.hid hr0
  have HR1 := Lib.hid hr1
  have HR2 := Lib.hid hr2
  rw [hval]
  clear hval hr0 hr1 hr2 hx
  go_enter Try.func61, Try.ntmps61
  go_wp2_with fail
  refine (HR.out 6 (by omega) (by omega) w).mono ?_
  rintro r w' ⟨rfl, rfl⟩
  rw [← HR0.out]
  go_wp2_with fail
  refine (HR.out 11 (by omega) (by omega) w).mono ?_
  rintro r w' ⟨rfl, rfl⟩
  rw [← HR1.out]
  go_wp2_with fail
  refine (HR.out 25 (by omega) (by omega) w).mono ?_
  rintro r w' ⟨rfl, rfl⟩
  rw [← HR2.out]
  go_wp2
  go_ret
  exact ⟨rfl, rfl⟩
/-! products and roots -/
theorem low64 (a : Nat) : IntKind.u64.wrap (a : Int) = ((a % 18446744073709551616 : Nat) : Int) := by rw [IntKind.wrap_u64]; omega
set_option maxRecDepth 100000 in
set_option maxHeartbeats 2000000 in
theorem mul64_c (x y : Nat) (hx : x < 18446744073709551616) (hy : y < 18446744073709551616) (w : World) :
    Calls Try.prog 55 #[.int .u64 (x : Int), .int .u64 (y : Int)] w fun e w' => e = .returned (.tuple #[.int .u64 ((mulH x y : Nat) : Int), .int .u64 ((mulL x y : Nat) : Int)]) ∧ w = w' := by
  obtain ⟨m1, m2, m3⟩ := mul_halves x y hx hy
  have ax := u64_low x hx
  have ay := u64_low y hy
  obtain ⟨x0, hx0⟩ : ∃ a, a = x % 4294967296 := ⟨_, rfl⟩
  obtain ⟨x1, hx1⟩ : ∃ a, a = x / 4294967296 := ⟨_, rfl⟩
  obtain ⟨y0, hy0⟩ : ∃ a, a = y % 4294967296 := ⟨_, rfl⟩
  obtain ⟨y1, hy1⟩ : ∃ a, a = y / 4294967296 := ⟨_, rfl⟩
  have sx : (x : Int) / 4294967296 = (x1 : Int) := by omega
  have sy : (y : Int) / 4294967296 = (y1 : Int) := by omega
  rw [← hx0, ← hx1, ← hy0] at m1
  rw [← hx0, ← hx1, ← hy0, ← hy1] at m2 m3
  rw [← hx0] at ax
  rw [← hy0] at ay
  have bx0 : x0 ≤ 4294967295 := by omega
  have by0 : y0 ≤ 4294967295 := by omega
  have bx1 : x1 ≤ 4294967295 := by omega
  have by1 : y1 ≤ 4294967295 := by omega
  have b00 := Nat.mul_le_mul bx0 by0
  have b11 := Nat.mul_le_mul bx1 by1
  have b10 := Nat.mul_le_mul bx1 by0
  have b01 := Nat.mul_le_mul bx0 by1
  have hml : IntKind.u64.wrap ((x : Int) * (y : Int)) = ((mulL x y : Nat) : Int) := by
    rw [← Int.natCast_mul, low64]; rfl
  have hmh : mulH x y = x * y / 18446744073709551616 := rfl
  rw [← hmh] at m3
  obtain ⟨p00, e00⟩ : ∃ p, p = x0 * y0 := ⟨_, rfl⟩
  obtain ⟨p10, e10⟩ : ∃ p, p = x1 * y0 := ⟨_, rfl⟩
  obtain ⟨p01, e01⟩ : ∃ p, p = x0 * y1 := ⟨_, rfl⟩
  obtain ⟨p11, e11⟩ : ∃ p, p = x1 * y1 := ⟨_, rfl⟩
  rw [← e00, ← e10] at m1
  rw [← e00, ← e10, ← e01] at m2
  rw [← e00, ← e10, ← e01, ← e11] at m3
  rw [← e00] at b00
  rw [← e10] at b10
  rw [← e01] at b01
  rw [← e11] at b11
  obtain ⟨t, ht⟩ : ∃ t, t = p10 + p00 / 4294967296 := ⟨_, rfl⟩
  rw [← ht] at m1 m2 m3
  obtain ⟨v, hv⟩ : ∃ v, v = t % 4294967296 + p01 := ⟨_, rfl⟩
  rw [← hv] at m2 m3
  have q00 : IntKind.u64.wrap ((x0 : Int) * (y0 : Int)) = (p00 : Int) := by rw [← Int.natCast_mul, ← e00, IntKind.wrap_u64]; omega
  have q10 : IntKind.u64.wrap ((x1 : Int) * (y0 : Int)) = (p10 : Int) := by rw [← Int.natCast_mul, ← e10, IntKind.wrap_u64]; omega
  have q01 : IntKind.u64.wrap ((x0 : Int) * (y1 : Int)) = (p01 : Int) := by rw [← Int.natCast_mul, ← e01, IntKind.wrap_u64]; omega
  have q11 : IntKind.u64.wrap ((x1 : Int) * (y1 : Int)) = (p11 : Int) := by rw [← Int.natCast_mul, ← e11, IntKind.wrap_u64]; omega
  obtain ⟨h00, eh00⟩ : ∃ h, h = p00 / 4294967296 := ⟨_, rfl⟩
  have s00 : (p00 : Int) / 4294967296 = (h00 : Int) := by omega
  have qt : IntKind.u64.wrap ((p10 : Int) + (h00 : Int)) = (t : Int) := by rw [IntKind.wrap_u64]; omega
  have at_ := u64_low t m1
  obtain ⟨t0, et0⟩ : ∃ h, h = t % 4294967296 := ⟨_, rfl⟩
  obtain ⟨t1, et1⟩ : ∃ h, h = t / 4294967296 := ⟨_, rfl⟩
  rw [← et0] at at_
  have st : (t : Int) / 4294967296 = (t1 : Int) := by omega
  have qv : IntKind.u64.wrap ((t0 : Int) + (p01 : Int)) = (v : Int) := by rw [IntKind.wrap_u64]; omega
  obtain ⟨v1, ev1⟩ : ∃ h, h = v / 4294967296 := ⟨_, rfl⟩
  have sv : (v : Int) / 4294967296 = (v1 : Int) := by omega
  have mh : mulH x y < 18446744073709551616 := by
    rw [hmh]
    have := Nat.mul_lt_mul'' hx hy
    omega
  obtain ⟨u, hu⟩ : ∃ u, u = p11 + t1 := ⟨_, rfl⟩
  have qu : IntKind.u64.wrap ((p11 : Int) + (t1 : Int)) = (u : Int) := by rw [IntKind.wrap_u64]; omega
  have qh : IntKind.u64.wrap ((u : Int) + (v1 : Int)) = ((mulH x y : Nat) : Int) := by rw [IntKind.wrap_u64]; omega
  clear m1 m2 m3 hx0 hx1 hy0 hy1 bx0 by0 bx1 by1 b00 b11 b10 b01 hmh e00 e10 e01 e11 ht hv eh00 et0 et1 ev1 mh hu hx hy
  go_enter Try.func55, Try.ntmps55
  go_wp2
  go_ret2
  exact ⟨rfl, rfl⟩
theorem mulH_lt (x y : Nat) (hx : x < 18446744073709551616) (hy : y < 18446744073709551616) : mulH x y < 18446744073709551616 := by
  unfold mulH
  have := Nat.mul_lt_mul'' hx hy
  omega
theorem mulL_lt (x y : Nat) : mulL x y < 18446744073709551616 := by unfold mulL; omega
set_option maxRecDepth 100000 in
theorem square_c (p x : Nat) (hp : p < 18446744073709551616) (hx : x < 18446744073709551616) (w : World) :
    Calls Try.prog 48 #[.agg #[.int .u64 (p : Int)], .int .u64 (x : Int)] w fun e w' => e = .returned (.bool (squareF p x)) ∧ Below w.heap.size w w' := by
  have hM := fun w => mul64_c x x hx hx w
  have h0 := heap_new' w (.cells #[.int .u64 (p : Int)] 83)
  have c0 : (w.alloc (.cells #[.int .u64 (p : Int)] 83)).cell? ⟨w.heap.size, 0, none⟩ = some (.int .u64 (p : Int)) := (cells_at h0 0).trans rfl
  have hF : squareF p x = (decide (mulH x x < p) || (mulH x x == p && mulL x x == 0)) := rfl
  obtain ⟨hi, hhi⟩ : ∃ h, h = mulH x x := ⟨_, rfl⟩
  obtain ⟨lo, hlo⟩ : ∃ h, h = mulL x x := ⟨_, rfl⟩
  rw [← hhi, ← hlo] at hF
  have HM := Lib.hid hM
  rw [← hhi, ← hlo] at HM
  have HF := Lib.hid hF
  have HB : Hid (Below w.heap.size w (w.alloc (.cells #[.int .u64 (p : Int)] 83))) := (Below.refl _ _).alloc (Nat.le_refl _) _
  clear hM h0 hF hhi hlo hx hp
  by_cases h1 : hi < p
  · have d1 : decide ((hi : Int) < (p : Int)) = true := by simp; omega
    have HV : Hid (squareF p x = true) := by show _ = _; rw [HF.out]; simp [h1]
    go_enter Try.func48, Try.ntmps48
    go_wp2_with fail
    refine (HM.out _).mono ?_
    rintro r w' ⟨rfl, rfl⟩
    go_wp2
    go_ret
    exact ⟨by rw [HV.out]; rfl, HB.out⟩
  · have d1 : decide ((hi : Int) < (p : Int)) = false := by simp; omega
    by_cases h2 : hi = p
    · have d2 : ((hi : Int) == (p : Int)) = true := by simp [h2]
      by_cases h3 : lo = 0
      · have d3 : ((lo : Int) == 0) = true := by simp [h3]
        have HV : Hid (squareF p x = true) := by show _ = _; rw [HF.out]; simp [h2, h3]
        have H1 := Lib.hid h1
        clear h2 h3
        go_enter Try.func48, Try.ntmps48
        go_wp2_with fail
        refine (HM.out _).mono ?_
        rintro r w' ⟨rfl, rfl⟩
        go_wp2
        go_ret
        exact ⟨by rw [HV.out]; rfl, HB.out⟩
      · have d3 : ((lo : Int) == 0) = false := by simp; omega
        have HV : Hid (squareF p x = false) := by show _ = _; rw [HF.out]; simp [h2, h3]
        clear h2 h3
        go_enter Try.func48, Try.ntmps48
        go_wp2_with fail
        refine (HM.out _).mono ?_
        rintro r w' ⟨rfl, rfl⟩
        go_wp2
        go_ret
        exact ⟨by rw [HV.out]; rfl, HB.out⟩
    · have d2 : ((hi : Int) == (p : Int)) = false := by simp; omega
      have HV : Hid (squareF p x = false) := by show _ = _; rw [HF.out]; simp [h1, h2]
      clear h2
      go_enter Try.func48, Try.ntmps48
      go_wp2_with fail
      refine (HM.out _).mono ?_
      rintro r w' ⟨rfl, rfl⟩
      go_wp2
      go_ret
      exact ⟨by rw [HV.out]; rfl, HB.out⟩
set_option maxRecDepth 100000 in
theorem add64_x (a c : Nat) (w : World) : Sem.run Try.prog (callFunc 56 #[.int .u64 (a : Int), .int .u64 (c : Int), .int .u64 0]) w = .ok (.value (.tuple #[.int .u64 (((a + c) % 18446744073709551616 : Nat) : Int), .int .u64 (((a + c) / 18446744073709551616 : Nat) : Int)])) w := by
  rw [run_callFunc_extern Try.func56 rfl rfl rfl (e := add64Entry) rfl, run_add64 _ _ _ (by omega) (by omega) (by omega) (by omega)]
  simp [Result.andThen]
set_option maxRecDepth 100000 in
set_option maxHeartbeats 2000000 in
theorem cube_c (p x : Nat) (hp : p < 18446744073709551616) (hx : x < 18446744073709551616) (w : World) :
    Calls Try.prog 47 #[.agg #[.int .u64 (p : Int)], .int .u64 (x : Int)] w fun e w' => e = .returned (.bool (cubeF p x)) ∧ Below w.heap.size w w' := by
  have h0 := heap_new' w (.cells #[.int .u64 (p : Int)] 83)
  have c0 : (w.alloc (.cells #[.int .u64 (p : Int)] 83)).cell? ⟨w.heap.size, 0, none⟩ = some (.int .u64 (p : Int)) := (cells_at h0 0).trans rfl
  have hF : cubeF p x = (decide ((mulH (mulL x x) x + mulL (mulH x x) x) % 18446744073709551616 < p * 4294967296 % 18446744073709551616) || ((mulH (mulL x x) x + mulL (mulH x x) x) % 18446744073709551616 == p * 4294967296 % 18446744073709551616 && mulL (mulL x x) x == 0)) := rfl
  have HM := Lib.hid (fun w => mul64_c x x hx hx w)
  have HM2 := Lib.hid (fun w => mul64_c (mulL x x) x (mulL_lt x x) hx w)
  have HM3 := Lib.hid (fun w => mul64_c (mulH x x) x (mulH_lt x x hx hx) hx w)
  obtain ⟨hi, hhi⟩ : ∃ h, h = mulH x x := ⟨_, rfl⟩
  obtain ⟨lo, hlo⟩ : ∃ h, h = mulL x x := ⟨_, rfl⟩
  rw [← hhi, ← hlo] at hF HM
  rw [← hlo] at HM2
  rw [← hhi] at HM3
  obtain ⟨aa, haa⟩ : ∃ h, h = mulH lo x := ⟨_, rfl⟩
  obtain ⟨bb, hbb⟩ : ∃ h, h = mulL lo x := ⟨_, rfl⟩
  obtain ⟨cc, hcc⟩ : ∃ h, h = mulL hi x := ⟨_, rfl⟩
  rw [← haa, ← hbb, ← hcc] at hF
  rw [← haa, ← hbb] at HM2
  rw [← hcc] at HM3
  obtain ⟨ss, hss⟩ : ∃ h, h = (aa + cc) % 18446744073709551616 := ⟨_, rfl⟩
  obtain ⟨qq, hqq⟩ : ∃ h, h = p * 4294967296 % 18446744073709551616 := ⟨_, rfl⟩
  rw [← hss, ← hqq] at hF
  have HAD := Lib.hid (fun w => add64_x aa cc w)
  rw [← hss] at HAD
  have hq : IntKind.u64.wrap ((p : Int) * 4294967296) = (qq : Int) := by rw [IntKind.wrap_u64]; omega
  have HF := Lib.hid hF
  have HB : Hid (Below w.heap.size w (w.alloc (.cells #[.int .u64 (p : Int)] 83))) := (Below.refl _ _).alloc (Nat.le_refl _) _
  clear h0 hF hhi hlo haa hbb hcc hss hqq hx hp
  by_cases h1 : ss < qq
  · have d1 : decide ((ss : Int) < (qq : Int)) = true := by simp; omega
    have HV : Hid (cubeF p x = true) := by show _ = _; rw [HF.out]; simp [h1]
    go_enter Try.func47, Try.ntmps47
    go_wp2_with fail
    refine (HM.out _).mono ?_
    rintro r w' ⟨rfl, rfl⟩
    go_wp2_with fail
    refine (HM2.out _).mono ?_
    rintro r w' ⟨rfl, rfl⟩
    go_wp2_with fail
    refine (HM3.out _).mono ?_
    rintro r w' ⟨rfl, rfl⟩
    have hadd := HAD.out
    go_wp2
    go_ret
    exact ⟨by rw [HV.out]; rfl, HB.out⟩
  · have d1 : decide ((ss : Int) < (qq : Int)) = false := by simp; omega
    by_cases h2 : ss = qq
    · have d2 : ((ss : Int) == (qq : Int)) = true := by simp [h2]
      by_cases h3 : bb = 0
      · have d3 : ((bb : Int) == 0) = true := by simp [h3]
        have HV : Hid (cubeF p x = true) := by show _ = _; rw [HF.out]; simp [h2, h3]
        clear h2 h3
        go_enter Try.func47, Try.ntmps47
        go_wp2_with fail
        refine (HM.out _).mono ?_
        rintro r w' ⟨rfl, rfl⟩
        go_wp2_with fail
        refine (HM2.out _).mono ?_
        rintro r w' ⟨rfl, rfl⟩
        go_wp2_with fail
        refine (HM3.out _).mono ?_
        rintro r w' ⟨rfl, rfl⟩
        have hadd := HAD.out
        go_wp2
        go_ret
        exact ⟨by rw [HV.out]; rfl, HB.out⟩
      · have d3 : ((bb : Int) == 0) = false := by simp; omega
        have HV : Hid (cubeF p x = false) := by show _ = _; rw [HF.out]; simp [h2, h3]
        clear h2 h3
        go_enter Try.func47, Try.ntmps47
        go_wp2_with fail
        refine (HM.out _).mono ?_
        rintro r w' ⟨rfl, rfl⟩
        go_wp2_with fail
        refine (HM2.out _).mono ?_
        rintro r w' ⟨rfl, rfl⟩
        go_wp2_with fail
        refine (HM3.out _).mono ?_
        rintro r w' ⟨rfl, rfl⟩
        have hadd := HAD.out
        go_wp2
        go_ret
        exact ⟨by rw [HV.out]; rfl, HB.out⟩
    · have d2 : ((ss : Int) == (qq : Int)) = false := by simp; omega
      have HV : Hid (cubeF p x = false) := by show _ = _; rw [HF.out]; simp [h1, h2]
      clear h2
      go_enter Try.func47, Try.ntmps47
      go_wp2_with fail
      refine (HM.out _).mono ?_
      rintro r w' ⟨rfl, rfl⟩
      go_wp2_with fail
      refine (HM2.out _).mono ?_
      rintro r w' ⟨rfl, rfl⟩
      go_wp2_with fail
      refine (HM3.out _).mono ?_
      rintro r w' ⟨rfl, rfl⟩
      have hadd := HAD.out
      go_wp2
      go_ret
      exact ⟨by rw [HV.out]; rfl, HB.out⟩
end Go.Proofs.Ythpglpnonecnfaa
