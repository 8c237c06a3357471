/- Lemmas for the proof. -/
import Derived.Test.YtnmdjggdgakeoaaGreatPXb
import Derived.Laws.Externs
import Derived.Deep.Cut
import Derived.Deep.CutRange
import Derived.OrdersHeld
import Derived.Deep.RegionHeld
import Derived.Laws.CopyOwn
import Derived.Deep.MidRow
import Derived.StillTailTactics
set_option maxRecDepth 100000
set_option maxHeartbeats 16000000
set_option linter.unusedVariables false
set_option linter.unusedSimpArgs false
set_option linter.unusedSectionVars false
namespace Go.Proofs.YtnmdjggdgakeoaaGreat.Sha
def shl (x s : Nat) : Nat := x * 2 ^ s % 4294967296
def shr (x s : Nat) : Nat := x / 2 ^ s
def rotr (x k : Nat) : Nat := shl x (32 - k) ||| shr x k
def sm0 (x : Nat) : Nat := rotr x 7 ^^^ rotr x 18 ^^^ shr x 3
def sm1 (x : Nat) : Nat := rotr x 17 ^^^ rotr x 19 ^^^ shr x 10
def gr0 (x : Nat) : Nat := rotr x 2 ^^^ rotr x 13 ^^^ rotr x 22
def gr1 (x : Nat) : Nat := rotr x 6 ^^^ rotr x 11 ^^^ rotr x 25
def inv (x : Nat) : Nat := x ^^^ 4294967295
def ch (e f g : Nat) : Nat := (e &&& f) ^^^ (inv e &&& g)
def maj (a b c : Nat) : Nat := (a &&& b) ^^^ (a &&& c) ^^^ (b &&& c)
theorem ch_ref (e f g : Nat) (hg : g < 4294967296) : g ^^^ (e &&& (f ^^^ g)) = ch e f g := by
 apply Nat.eq_of_testBit_eq
 intro i;have hinv : (inv e).testBit i = (e.testBit i ^^ decide (i < 32)) := by
  unfold inv;rw [Nat.testBit_xor, show (4294967295 : Nat) = 2 ^ 32 - 1 from rfl, Nat.testBit_two_pow_sub_one]
 unfold ch;simp only [Nat.testBit_xor, Nat.testBit_and, hinv]
 by_cases h : i < 32
 ·simp only [h, decide_true]
  cases e.testBit i <;> cases f.testBit i <;> cases g.testBit i <;> rfl
 ·have hg0 : g.testBit i = false := Nat.testBit_lt_two_pow (Nat.lt_of_lt_of_le hg (Nat.pow_le_pow_right (show 0 < 2 by decide) (show 32 <= i by omega)))
  simp only [h, hg0, decide_false]
  cases e.testBit i <;> cases f.testBit i <;> rfl
theorem maj_ref (a b c : Nat) : (a &&& b) ||| (c &&& (a ||| b)) = maj a b c := by
 apply Nat.eq_of_testBit_eq
 intro i;unfold maj;simp only [Nat.testBit_xor, Nat.testBit_and, Nat.testBit_or]
 cases a.testBit i <;> cases b.testBit i <;> cases c.testBit i <;> rfl
def be4 (a b c d : Nat) : Nat := ((a * 256 + b) * 256 + c) * 256 + d
def wdAt (b : List Nat) (t : Nat) : Nat := be4 (b.getD (4 * t) 0) (b.getD (4 * t + 1) 0) (b.getD (4 * t + 2) 0) (b.getD (4 * t + 3) 0)
def schedW (b : List Nat) : Nat -> List Nat
 | 0 => []
 | t + 1 => schedW b t ++ [if t < 16 then wdAt b t else (sm1 ((schedW b t).getD (t - 2) 0) + (schedW b t).getD (t - 7) 0 + sm0 ((schedW b t).getD (t - 15) 0) + (schedW b t).getD (t - 16) 0) % 4294967296]
theorem schedW_len (b : List Nat) : ∀ t, (schedW b t).length = t
 | 0 => rfl
 | t + 1 => by rw [schedW, List.length_append, schedW_len b t]; rfl
structure St where
 a : Nat
 b : Nat
 c : Nat
 d : Nat
 e : Nat
 f : Nat
 g : Nat
 h : Nat
 deriving DecidableEq
def St.step (s : St) (k w : Nat) : St :=
 let t1 := (s.h + gr1 s.e + ch s.e s.f s.g + k + w) % 4294967296
 let t2 := (gr0 s.a + maj s.a s.b s.c) % 4294967296
 ⟨(t1 + t2) % 4294967296, s.a, s.b, s.c, (s.d + t1) % 4294967296, s.e, s.f, s.g⟩
def St.add (s t : St) : St := ⟨(s.a + t.a) % 4294967296, (s.b + t.b) % 4294967296, (s.c + t.c) % 4294967296, (s.d + t.d) % 4294967296, (s.e + t.e) % 4294967296, (s.f + t.f) % 4294967296, (s.g + t.g) % 4294967296, (s.h + t.h) % 4294967296⟩
def KT : List Nat := [0x428a2f98, 0x71374491, 0xb5c0fbcf, 0xe9b5dba5, 0x3956c25b, 0x59f111f1, 0x923f82a4, 0xab1c5ed5, 0xd807aa98, 0x12835b01, 0x243185be, 0x550c7dc3, 0x72be5d74, 0x80deb1fe, 0x9bdc06a7, 0xc19bf174, 0xe49b69c1, 0xefbe4786, 0x0fc19dc6, 0x240ca1cc, 0x2de92c6f, 0x4a7484aa, 0x5cb0a9dc, 0x76f988da, 0x983e5152, 0xa831c66d, 0xb00327c8, 0xbf597fc7, 0xc6e00bf3, 0xd5a79147, 0x06ca6351, 0x14292967, 0x27b70a85, 0x2e1b2138, 0x4d2c6dfc, 0x53380d13, 0x650a7354, 0x766a0abb, 0x81c2c92e, 0x92722c85, 0xa2bfe8a1, 0xa81a664b, 0xc24b8b70, 0xc76c51a3, 0xd192e819, 0xd6990624, 0xf40e3585, 0x106aa070, 0x19a4c116, 0x1e376c08, 0x2748774c, 0x34b0bcb5, 0x391c0cb3, 0x4ed8aa4a, 0x5b9cca4f, 0x682e6ff3, 0x748f82ee, 0x78a5636f, 0x84c87814, 0x8cc70208, 0x90befffa, 0xa4506ceb, 0xbef9a3f7, 0xc67178f2]
def HT : St := ⟨0x6a09e667, 0xbb67ae85, 0x3c6ef372, 0xa54ff53a, 0x510e527f, 0x9b05688c, 0x1f83d9ab, 0x5be0cd19⟩
def stepsN (s : St) (w : List Nat) : Nat -> St
 | 0 => s
 | t + 1 => (stepsN s w t).step (KT.getD t 0) (w.getD t 0)
def blockN (s : St) (b : List Nat) : St := s.add (stepsN s (schedW b 64) 64)
def blocksN (m : List Nat) : Nat -> St
 | 0 => HT
 | k + 1 => blockN (blocksN m k) ((m.drop (64 * k)).take 64)
def be8 (n k : Nat) : Nat := n / 2 ^ (8 * (7 - k)) % 256
def padL (n : Nat) : List Nat := 128 :: (List.replicate ((119 - n % 64) % 64) 0 ++ (List.range 8).map (be8 (8 * n)))
theorem padL_len (n : Nat) : (n + (padL n).length) % 64 = 0 := by simp [padL]; omega
def outW (w : Nat) : List Nat := [w / 16777216 % 256, w / 65536 % 256, w / 256 % 256, w % 256]
def St.out (s : St) : List Nat := outW s.a ++ outW s.b ++ outW s.c ++ outW s.d ++ outW s.e ++ outW s.f ++ outW s.g ++ outW s.h
def sumN (m : List Nat) : List Nat := (blocksN (m ++ padL m.length) ((m.length + (padL m.length).length) / 64)).out
theorem sum_len (m : List Nat) : (sumN m).length = 32 := by simp [sumN, St.out, outW]
/-! products of two words, by halves -/
theorem mul_halves (x y : Nat) (hx : x < 18446744073709551616) (hy : y < 18446744073709551616) :
  (x / 4294967296) * (y % 4294967296) + (x % 4294967296) * (y % 4294967296) / 4294967296 < 18446744073709551616 /\
  ((x / 4294967296) * (y % 4294967296) + (x % 4294967296) * (y % 4294967296) / 4294967296) % 4294967296 + (x % 4294967296) * (y / 4294967296) < 18446744073709551616 /\
  (x / 4294967296) * (y / 4294967296) + ((x / 4294967296) * (y % 4294967296) + (x % 4294967296) * (y % 4294967296) / 4294967296) / 4294967296 +
   (((x / 4294967296) * (y % 4294967296) + (x % 4294967296) * (y % 4294967296) / 4294967296) % 4294967296 + (x % 4294967296) * (y / 4294967296)) / 4294967296 = x * y / 18446744073709551616 := by
 obtain ⟨x1, hx1⟩ : ∃ a, a = x / 4294967296 := ⟨_, rfl⟩
 obtain ⟨x0, hx0⟩ : ∃ a, a = x % 4294967296 := ⟨_, rfl⟩
 obtain ⟨y1, hy1⟩ : ∃ a, a = y / 4294967296 := ⟨_, rfl⟩
 obtain ⟨y0, hy0⟩ : ∃ a, a = y % 4294967296 := ⟨_, rfl⟩
 have ex : x = x1 * 4294967296 + x0 := by omega
 have ey : y = y1 * 4294967296 + y0 := by omega
 have bx1 : x1 <= 4294967295 := by omega
 have bx0 : x0 <= 4294967295 := by omega
 have by1 : y1 <= 4294967295 := by omega
 have by0 : y0 <= 4294967295 := by omega
 rw [<- hx1, <- hx0, <- hy1, <- hy0]
 have e : x * y = x1 * y1 * 18446744073709551616 + (x1 * y0 + x0 * y1) * 4294967296 + x0 * y0 := by
  rw [ex, ey, Nat.add_mul, Nat.mul_add, Nat.mul_add]
  rw [show x1 * 4294967296 * (y1 * 4294967296) = x1 * y1 * 18446744073709551616 by rw [Nat.mul_mul_mul_comm], show x1 * 4294967296 * y0 = x1 * y0 * 4294967296 by rw [Nat.mul_right_comm], show x0 * (y1 * 4294967296) = x0 * y1 * 4294967296 by rw [Nat.mul_assoc]]
  omega
 have b11 := Nat.mul_le_mul bx1 by1
 have b10 := Nat.mul_le_mul bx1 by0
 have b01 := Nat.mul_le_mul bx0 by1
 have b00 := Nat.mul_le_mul bx0 by0
 rw [e];generalize x1 * y1 = p11 at *
 generalize x1 * y0 = p10 at *
 generalize x0 * y1 = p01 at *
 generalize x0 * y0 = p00 at *
 clear hx1 hx0 hy1 hy0 ex ey e;refine ⟨by omega, by omega, by omega⟩
/-! the program's table: roots of primes -/
def mulH (x y : Nat) : Nat := x * y / 18446744073709551616
def mulL (x y : Nat) : Nat := x * y % 18446744073709551616
def squareF (p x : Nat) : Bool := decide (mulH x x < p) || (mulH x x == p && mulL x x == 0)
def cubeF (p x : Nat) : Bool :=
 let hi := (mulH (mulL x x) x + mulL (mulH x x) x) % 18446744073709551616
 let q := p * 4294967296 % 18446744073709551616
 decide (hi < q) || (hi == q && mulL (mulL x x) x == 0)
def behindN (f : Nat -> Bool) : Nat -> Nat -> Nat
 | 0, x => x
 | n + 1, x => behindN f n (if f (x ||| 2 ^ n) then x ||| 2 ^ n else x)
def primeL : List Nat := [2, 3, 5, 7, 11, 13, 17, 19, 23, 29, 31, 37, 41, 43, 47, 53, 59, 61, 67, 71, 73, 79, 83, 89, 97, 101, 103, 107, 109, 113, 127, 131, 137, 139, 149, 151, 157, 163, 167, 173, 179, 181, 191, 193, 197, 199, 211, 223, 227, 229, 233, 239, 241, 251, 257, 263, 269, 271, 277, 281, 283, 293, 307, 311]
theorem table_k : ∀ k, k < 64 -> behindN (cubeF (primeL.getD k 0)) 38 0 % 4294967296 = KT.getD k 0 := by decide +kernel
def noDiv (n : Nat) : Nat -> Nat -> Bool
 | 0, _ => true
 | f + 1, d => if d * d <= n then (if n % d = 0 then false else noDiv n f (d + 1)) else true
def isP (n : Nat) : Bool := noDiv n 20 2
def cntP (n : Nat) : Nat := (primeL.filter (fun p => decide (p <= n))).length
theorem cntP_next : ∀ n, n < 311 -> cntP (n + 1) = cntP n + (if 2 <= n + 1 /\ isP (n + 1) = true then 1 else 0) := by decide +kernel
theorem cntP_one : cntP 1 = 0 := by decide +kernel
theorem cntP_all : cntP 311 = 64 := by decide +kernel
theorem cntP_at : ∀ n, n < 312 -> 2 <= n -> isP n = true -> primeL.getD (cntP n - 1) 0 = n := by decide +kernel
def HL : List Nat := [0x6a09e667, 0xbb67ae85, 0x3c6ef372, 0xa54ff53a, 0x510e527f, 0x9b05688c, 0x1f83d9ab, 0x5be0cd19]
theorem table_h : ∀ k, k < 8 -> behindN (squareF (primeL.getD k 0)) 38 0 % 4294967296 = HL.getD k 0 := by decide +kernel
end Go.Proofs.YtnmdjggdgakeoaaGreat.Sha
namespace Go.Proofs.YtnmdjggdgakeoaaGreat
open Go Go.RowKit Sha
theorem u32_nat (a b : Nat) (ha : a < 2 ^ 32) (hb : b < 2 ^ 32) :
  bits .and .u32 a b = ((a &&& b : Nat) : Int) /\ bits .or .u32 a b = ((a ||| b : Nat) : Int) /\ bits .xor .u32 a b = ((a ^^^ b : Nat) : Int) := by
 have ha' : a % 2 ^ 32 = a := Nat.mod_eq_of_lt ha
 have hb' : b % 2 ^ 32 = b := Nat.mod_eq_of_lt hb
 have wr : ∀ n : Nat, n < 2 ^ 32 -> IntKind.u32.wrap (n : Int) = n := fun n h => by rw [IntKind.wrap_u32]; omega
 have e : IntKind.u32.bits = 32 := rfl
 refine ⟨?_, ?_, ?_⟩
 ·simp only [bits, e, BitVec.ofInt_natCast, BitVec.toNat_and, BitVec.toNat_ofNat, ha', hb']
  exact wr _ (Nat.and_lt_two_pow _ hb)
 ·simp only [bits, e, BitVec.ofInt_natCast, BitVec.toNat_or, BitVec.toNat_ofNat, ha', hb']
  exact wr _ (Nat.or_lt_two_pow ha hb)
 ·simp only [bits, e, BitVec.ofInt_natCast, BitVec.toNat_xor, BitVec.toNat_ofNat, ha', hb']
  exact wr _ (Nat.xor_lt_two_pow ha hb)
theorem u32x {x y : Int} {a b : Nat} (hx : x = a) (hy : y = b) (ha : a < 4294967296) (hb : b < 4294967296) : bits .xor .u32 x y = ((a ^^^ b : Nat) : Int) := by
 subst hx; subst hy; exact (u32_nat a b ha hb).2.2
theorem u32o {x y : Int} {a b : Nat} (hx : x = a) (hy : y = b) (ha : a < 4294967296) (hb : b < 4294967296) : bits .or .u32 x y = ((a ||| b : Nat) : Int) := by
 subst hx; subst hy; exact (u32_nat a b ha hb).2.1
theorem u32n {x y : Int} {a b : Nat} (hx : x = a) (hy : y = b) (ha : a < 4294967296) (hb : b < 4294967296) : bits .and .u32 x y = ((a &&& b : Nat) : Int) := by
 subst hx; subst hy; exact (u32_nat a b ha hb).1
theorem u64_nat (a b : Nat) (ha : a < 2 ^ 64) (hb : b < 2 ^ 64) :
  bits .and .u64 a b = ((a &&& b : Nat) : Int) /\ bits .or .u64 a b = ((a ||| b : Nat) : Int) := by
 have ha' : a % 2 ^ 64 = a := Nat.mod_eq_of_lt ha
 have hb' : b % 2 ^ 64 = b := Nat.mod_eq_of_lt hb
 have wr : ∀ n : Nat, n < 2 ^ 64 -> IntKind.u64.wrap (n : Int) = n := fun n h => by rw [IntKind.wrap_u64]; omega
 have e : IntKind.u64.bits = 64 := rfl
 refine ⟨?_, ?_⟩
 ·simp only [bits, e, BitVec.ofInt_natCast, BitVec.toNat_and, BitVec.toNat_ofNat, ha', hb']
  exact wr _ (Nat.and_lt_two_pow _ hb)
 ·simp only [bits, e, BitVec.ofInt_natCast, BitVec.toNat_or, BitVec.toNat_ofNat, ha', hb']
  exact wr _ (Nat.or_lt_two_pow ha hb)
theorem u64_low (x : Nat) (hx : x < 18446744073709551616) : bits .and .u64 (x : Int) 4294967295 = ((x % 4294967296 : Nat) : Int) := by
 have h := (u64_nat x 4294967295 hx (by decide)).1
 rw [show (4294967295 : Nat) = 2 ^ 32 - 1 from rfl, Nat.and_two_pow_sub_one_eq_mod] at h
 exact h
theorem shl_lt (x s : Nat) : shl x s < 4294967296 := by unfold shl; omega
theorem shr_lt (x s : Nat) (h : x < 4294967296) : shr x s < 4294967296 := by
 unfold shr; exact Nat.lt_of_le_of_lt (Nat.div_le_self _ _) h
theorem rotr_lt (x k : Nat) (h : x < 4294967296) : rotr x k < 4294967296 := by
 unfold rotr; exact Nat.or_lt_two_pow (n := 32) (shl_lt _ _) (shr_lt _ _ h)
theorem xor32 {a b : Nat} (ha : a < 4294967296) (hb : b < 4294967296) : a ^^^ b < 4294967296 := Nat.xor_lt_two_pow (n := 32) ha hb
theorem neg_low (k q : Nat) (h1 : 1 <= k) (h2 : k <= 31) (hq : q = 32 - k) : bits BinOp.and IntKind.u64 (IntKind.u64.wrap (-(k : Int))) 31 = (q : Int) := by
 have e : IntKind.u64.wrap (-(k : Int)) = ((18446744073709551616 - k : Nat) : Int) := by rw [IntKind.wrap_u64]; omega
 rw [e];have h := (u64_nat (18446744073709551616 - k) 31 (by omega) (by decide)).1
 rw [show (31 : Nat) = 2 ^ 5 - 1 from rfl, Nat.and_two_pow_sub_one_eq_mod] at h
 have h3 : (18446744073709551616 - k) % 2 ^ 5 = q := by
  show _ % 32 = _
  omega
 rw [h3] at h;exact h
theorem rotl_c (x k : Nat) (hx : x < 4294967296) (h1 : 1 <= k) (h2 : k <= 31) (w : World) :
  Calls Tryz.prog 116 #[.int .u32 (x : Int), .int .i64 (-(k : Int))] w fun e w' => e = .returned (.int .u32 ((rotr x k : Nat) : Int)) /\ w = w' := by
 obtain ⟨q, hq⟩ : ∃ q, q = 32 - k := ⟨_, rfl⟩
 have hs := neg_low k q h1 h2 hq
 have ht : IntKind.u64.wrap (32 - (q : Int)) = (k : Int) := by rw [IntKind.wrap_u64]; omega
 have d1 : ¬ (64 : Int) <= (q : Int) := by omega
 have d2 : (q : Int) < 32 := by omega
 have d3 : (k : Int) < 32 := by omega
 have HQ := Lib.hid hq;have HX := Lib.hid hx;have HK := Lib.hid (And.intro h1 h2)
 clear hq hx h1 h2
 go_enter Tryz.func116, Tryz.ntmps116
 go_wp2
 go_ret
 refine ⟨ret_i (u32o (a := shl x (32 - k)) (b := shr x k) ?_ ?_ (shl_lt _ _) (shr_lt _ _ HX.out)), rfl⟩
 ·rw [<- HQ.out]; simp [shl]
 ·have e : 32 - q = k := by have := HQ.out; have := HK.out; omega
  simp [shr, e]
theorem mod32 (a : Nat) : IntKind.u32.wrap (a : Int) = ((a % 4294967296 : Nat) : Int) := by rw [IntKind.wrap_u32]; omega
theorem w32r_c (x k : Nat) (hx : x < 4294967296) (h1 : 1 <= k) (h2 : k <= 31) (w : World) :
  Calls Tryz.prog 77 #[.int .u32 (x : Int), .int .i64 (k : Int)] w fun e w' => e = .returned (.int .u32 ((rotr x k : Nat) : Int)) /\ w = w' := by
 have e1 : IntKind.i64.wrap (-(k : Int)) = -(k : Int) := IntWalk.i64_in _ (by omega)
 have HR := Lib.hid (rotl_c x k hx h1 h2)
 have e2 : IntKind.u32.wrap (x : Int) = (x : Int) := by rw [IntKind.wrap_u32]; omega
 have e3 : IntKind.u32.wrap ((rotr x k : Nat) : Int) = ((rotr x k : Nat) : Int) := by have := rotr_lt x k hx; rw [IntKind.wrap_u32]; omega
 clear hx h1 h2
 go_enter Tryz.func77, Tryz.ntmps77
 go_wp2_with fail
 refine (HR.out w).mono ?_
 rintro r w' ⟨rfl, rfl⟩
 go_wp2
 go_ret
 exact ⟨rfl, rfl⟩
theorem small0_c (x : Nat) (hx : x < 4294967296) (w : World) :
  Calls Tryz.prog 76 #[.int .u32 (x : Int)] w fun e w' => e = .returned (.int .u32 ((sm0 x : Nat) : Int)) /\ w = w' := by
 have HR := Lib.hid (fun (k : Nat) (h1 : 1 <= k) (h2 : k <= 31) => w32r_c x k hx h1 h2)
 have l0 := rotr_lt x 7 hx
 obtain ⟨r0, hr0⟩ : ∃ r, r = rotr x 7 := ⟨_, rfl⟩
 rw [<- hr0] at l0;have l1 := rotr_lt x 18 hx
 obtain ⟨r1, hr1⟩ : ∃ r, r = rotr x 18 := ⟨_, rfl⟩
 rw [<- hr1] at l1;have hx01 : bits BinOp.xor IntKind.u32 (r0 : Int) (r1 : Int) = ((r0 ^^^ r1 : Nat) : Int) := u32x rfl rfl l0 l1
 have ls := shr_lt x 3 hx
 have hsh : (x : Int) / 8 = ((shr x 3 : Nat) : Int) := by unfold shr; omega
 obtain ⟨r2, hr2⟩ : ∃ r, r = shr x 3 := ⟨_, rfl⟩
 rw [<- hr2] at ls hsh;have hval : sm0 x = r0 ^^^ r1 ^^^ r2 := by rw [hr0, hr1, hr2]; rfl
 have hx2 : bits BinOp.xor IntKind.u32 ((r0 ^^^ r1 : Nat) : Int) (r2 : Int) = ((r0 ^^^ r1 ^^^ r2 : Nat) : Int) := u32x rfl rfl (xor32 l0 l1) ls
 have HR0 := Lib.hid hr0;have HR1 := Lib.hid hr1;rw [hval];clear hval hr0 hr1 hr2 hx
 go_enter Tryz.func76, Tryz.ntmps76
 go_wp2_with fail
 refine (HR.out 7 (by omega) (by omega) w).mono ?_
 rintro r w' ⟨rfl, rfl⟩
 rw [<- HR0.out];go_wp2_with fail
 refine (HR.out 18 (by omega) (by omega) w).mono ?_
 rintro r w' ⟨rfl, rfl⟩
 rw [<- HR1.out];go_wp2
 go_ret
 exact ⟨rfl, rfl⟩
theorem small1_c (x : Nat) (hx : x < 4294967296) (w : World) :
  Calls Tryz.prog 75 #[.int .u32 (x : Int)] w fun e w' => e = .returned (.int .u32 ((sm1 x : Nat) : Int)) /\ w = w' := by
 have HR := Lib.hid (fun (k : Nat) (h1 : 1 <= k) (h2 : k <= 31) => w32r_c x k hx h1 h2)
 have l0 := rotr_lt x 17 hx
 obtain ⟨r0, hr0⟩ : ∃ r, r = rotr x 17 := ⟨_, rfl⟩
 rw [<- hr0] at l0;have l1 := rotr_lt x 19 hx
 obtain ⟨r1, hr1⟩ : ∃ r, r = rotr x 19 := ⟨_, rfl⟩
 rw [<- hr1] at l1;have hx01 : bits BinOp.xor IntKind.u32 (r0 : Int) (r1 : Int) = ((r0 ^^^ r1 : Nat) : Int) := u32x rfl rfl l0 l1
 have ls := shr_lt x 10 hx
 have hsh : (x : Int) / 1024 = ((shr x 10 : Nat) : Int) := by unfold shr; omega
 obtain ⟨r2, hr2⟩ : ∃ r, r = shr x 10 := ⟨_, rfl⟩
 rw [<- hr2] at ls hsh;have hval : sm1 x = r0 ^^^ r1 ^^^ r2 := by rw [hr0, hr1, hr2]; rfl
 have hx2 : bits BinOp.xor IntKind.u32 ((r0 ^^^ r1 : Nat) : Int) (r2 : Int) = ((r0 ^^^ r1 ^^^ r2 : Nat) : Int) := u32x rfl rfl (xor32 l0 l1) ls
 have HR0 := Lib.hid hr0;have HR1 := Lib.hid hr1;rw [hval];clear hval hr0 hr1 hr2 hx
 go_enter Tryz.func75, Tryz.ntmps75
 go_wp2_with fail
 refine (HR.out 17 (by omega) (by omega) w).mono ?_
 rintro r w' ⟨rfl, rfl⟩
 rw [<- HR0.out];go_wp2_with fail
 refine (HR.out 19 (by omega) (by omega) w).mono ?_
 rintro r w' ⟨rfl, rfl⟩
 rw [<- HR1.out];go_wp2
 go_ret
 exact ⟨rfl, rfl⟩
theorem great0_c (x : Nat) (hx : x < 4294967296) (w : World) :
  Calls Tryz.prog 56 #[.int .u32 (x : Int)] w fun e w' => e = .returned (.int .u32 ((gr0 x : Nat) : Int)) /\ w = w' := by
 have HR := Lib.hid (fun (k : Nat) (h1 : 1 <= k) (h2 : k <= 31) => w32r_c x k hx h1 h2)
 have l0 := rotr_lt x 2 hx
 obtain ⟨r0, hr0⟩ : ∃ r, r = rotr x 2 := ⟨_, rfl⟩
 rw [<- hr0] at l0;have l1 := rotr_lt x 13 hx
 obtain ⟨r1, hr1⟩ : ∃ r, r = rotr x 13 := ⟨_, rfl⟩
 rw [<- hr1] at l1;have l2 := rotr_lt x 22 hx
 obtain ⟨r2, hr2⟩ : ∃ r, r = rotr x 22 := ⟨_, rfl⟩
 rw [<- hr2] at l2;have hx01 : bits BinOp.xor IntKind.u32 (r0 : Int) (r1 : Int) = ((r0 ^^^ r1 : Nat) : Int) := u32x rfl rfl l0 l1
 have hval : gr0 x = r0 ^^^ r1 ^^^ r2 := by rw [hr0, hr1, hr2]; rfl
 have hx2 : bits BinOp.xor IntKind.u32 ((r0 ^^^ r1 : Nat) : Int) (r2 : Int) = ((r0 ^^^ r1 ^^^ r2 : Nat) : Int) := u32x rfl rfl (xor32 l0 l1) l2
 have HR0 := Lib.hid hr0;have HR1 := Lib.hid hr1;have HR2 := Lib.hid hr2;rw [hval];clear hval hr0 hr1 hr2 hx
 go_enter Tryz.func56, Tryz.ntmps56
 go_wp2_with fail
 refine (HR.out 2 (by omega) (by omega) w).mono ?_
 rintro r w' ⟨rfl, rfl⟩
 rw [<- HR0.out];go_wp2_with fail
 refine (HR.out 13 (by omega) (by omega) w).mono ?_
 rintro r w' ⟨rfl, rfl⟩
 rw [<- HR1.out];go_wp2_with fail
 refine (HR.out 22 (by omega) (by omega) w).mono ?_
 rintro r w' ⟨rfl, rfl⟩
 rw [<- HR2.out];go_wp2
 go_ret
 exact ⟨rfl, rfl⟩
theorem great1_c (x : Nat) (hx : x < 4294967296) (w : World) :
  Calls Tryz.prog 55 #[.int .u32 (x : Int)] w fun e w' => e = .returned (.int .u32 ((gr1 x : Nat) : Int)) /\ w = w' := by
 have HR := Lib.hid (fun (k : Nat) (h1 : 1 <= k) (h2 : k <= 31) => w32r_c x k hx h1 h2)
 have l0 := rotr_lt x 6 hx
 obtain ⟨r0, hr0⟩ : ∃ r, r = rotr x 6 := ⟨_, rfl⟩
 rw [<- hr0] at l0;have l1 := rotr_lt x 11 hx
 obtain ⟨r1, hr1⟩ : ∃ r, r = rotr x 11 := ⟨_, rfl⟩
 rw [<- hr1] at l1;have l2 := rotr_lt x 25 hx
 obtain ⟨r2, hr2⟩ : ∃ r, r = rotr x 25 := ⟨_, rfl⟩
 rw [<- hr2] at l2;have hx01 : bits BinOp.xor IntKind.u32 (r0 : Int) (r1 : Int) = ((r0 ^^^ r1 : Nat) : Int) := u32x rfl rfl l0 l1
 have hval : gr1 x = r0 ^^^ r1 ^^^ r2 := by rw [hr0, hr1, hr2]; rfl
 have hx2 : bits BinOp.xor IntKind.u32 ((r0 ^^^ r1 : Nat) : Int) (r2 : Int) = ((r0 ^^^ r1 ^^^ r2 : Nat) : Int) := u32x rfl rfl (xor32 l0 l1) l2
 have HR0 := Lib.hid hr0;have HR1 := Lib.hid hr1;have HR2 := Lib.hid hr2;rw [hval];clear hval hr0 hr1 hr2 hx
 go_enter Tryz.func55, Tryz.ntmps55
 go_wp2_with fail
 refine (HR.out 6 (by omega) (by omega) w).mono ?_
 rintro r w' ⟨rfl, rfl⟩
 rw [<- HR0.out];go_wp2_with fail
 refine (HR.out 11 (by omega) (by omega) w).mono ?_
 rintro r w' ⟨rfl, rfl⟩
 rw [<- HR1.out];go_wp2_with fail
 refine (HR.out 25 (by omega) (by omega) w).mono ?_
 rintro r w' ⟨rfl, rfl⟩
 rw [<- HR2.out];go_wp2
 go_ret
 exact ⟨rfl, rfl⟩
/-! products and roots -/
theorem low64 (a : Nat) : IntKind.u64.wrap (a : Int) = ((a % 18446744073709551616 : Nat) : Int) := by rw [IntKind.wrap_u64]; omega
theorem mul64_c (x y : Nat) (hx : x < 18446744073709551616) (hy : y < 18446744073709551616) (w : World) :
  Calls Tryz.prog 36 #[.int .u64 (x : Int), .int .u64 (y : Int)] w fun e w' => e = .returned (.tuple #[.int .u64 ((mulH x y : Nat) : Int), .int .u64 ((mulL x y : Nat) : Int)]) /\ w = w' := by
 obtain ⟨m1, m2, m3⟩ := mul_halves x y hx hy
 have ax := u64_low x hx
 have ay := u64_low y hy
 obtain ⟨x0, hx0⟩ : ∃ a, a = x % 4294967296 := ⟨_, rfl⟩
 obtain ⟨x1, hx1⟩ : ∃ a, a = x / 4294967296 := ⟨_, rfl⟩
 obtain ⟨y0, hy0⟩ : ∃ a, a = y % 4294967296 := ⟨_, rfl⟩
 obtain ⟨y1, hy1⟩ : ∃ a, a = y / 4294967296 := ⟨_, rfl⟩
 have sx : (x : Int) / 4294967296 = (x1 : Int) := by omega
 have sy : (y : Int) / 4294967296 = (y1 : Int) := by omega
 rw [<- hx0, <- hx1, <- hy0] at m1
 rw [<- hx0, <- hx1, <- hy0, <- hy1] at m2 m3
 rw [<- hx0] at ax;rw [<- hy0] at ay;have bx0 : x0 <= 4294967295 := by omega
 have by0 : y0 <= 4294967295 := by omega
 have bx1 : x1 <= 4294967295 := by omega
 have by1 : y1 <= 4294967295 := by omega
 have b00 := Nat.mul_le_mul bx0 by0
 have b11 := Nat.mul_le_mul bx1 by1
 have b10 := Nat.mul_le_mul bx1 by0
 have b01 := Nat.mul_le_mul bx0 by1
 have hml : IntKind.u64.wrap ((x : Int) * (y : Int)) = ((mulL x y : Nat) : Int) := by
  rw [<- Int.natCast_mul, low64]; rfl
 have hmh : mulH x y = x * y / 18446744073709551616 := rfl
 rw [<- hmh] at m3;obtain ⟨p00, e00⟩ : ∃ p, p = x0 * y0 := ⟨_, rfl⟩
 obtain ⟨p10, e10⟩ : ∃ p, p = x1 * y0 := ⟨_, rfl⟩
 obtain ⟨p01, e01⟩ : ∃ p, p = x0 * y1 := ⟨_, rfl⟩
 obtain ⟨p11, e11⟩ : ∃ p, p = x1 * y1 := ⟨_, rfl⟩
 rw [<- e00, <- e10] at m1
 rw [<- e00, <- e10, <- e01] at m2
 rw [<- e00, <- e10, <- e01, <- e11] at m3
 rw [<- e00] at b00;rw [<- e10] at b10;rw [<- e01] at b01;rw [<- e11] at b11;obtain ⟨t, ht⟩ : ∃ t, t = p10 + p00 / 4294967296 := ⟨_, rfl⟩
 rw [<- ht] at m1 m2 m3;obtain ⟨v, hv⟩ : ∃ v, v = t % 4294967296 + p01 := ⟨_, rfl⟩
 rw [<- hv] at m2 m3;have q00 : IntKind.u64.wrap ((x0 : Int) * (y0 : Int)) = (p00 : Int) := by rw [<- Int.natCast_mul, <- e00, IntKind.wrap_u64]; omega
 have q10 : IntKind.u64.wrap ((x1 : Int) * (y0 : Int)) = (p10 : Int) := by rw [<- Int.natCast_mul, <- e10, IntKind.wrap_u64]; omega
 have q01 : IntKind.u64.wrap ((x0 : Int) * (y1 : Int)) = (p01 : Int) := by rw [<- Int.natCast_mul, <- e01, IntKind.wrap_u64]; omega
 have q11 : IntKind.u64.wrap ((x1 : Int) * (y1 : Int)) = (p11 : Int) := by rw [<- Int.natCast_mul, <- e11, IntKind.wrap_u64]; omega
 obtain ⟨h00, eh00⟩ : ∃ h, h = p00 / 4294967296 := ⟨_, rfl⟩
 have s00 : (p00 : Int) / 4294967296 = (h00 : Int) := by omega
 have qt : IntKind.u64.wrap ((p10 : Int) + (h00 : Int)) = (t : Int) := by rw [IntKind.wrap_u64]; omega
 have at_ := u64_low t m1
 obtain ⟨t0, et0⟩ : ∃ h, h = t % 4294967296 := ⟨_, rfl⟩
 obtain ⟨t1, et1⟩ : ∃ h, h = t / 4294967296 := ⟨_, rfl⟩
 rw [<- et0] at at_
 have st : (t : Int) / 4294967296 = (t1 : Int) := by omega
 have qv : IntKind.u64.wrap ((t0 : Int) + (p01 : Int)) = (v : Int) := by rw [IntKind.wrap_u64]; omega
 obtain ⟨v1, ev1⟩ : ∃ h, h = v / 4294967296 := ⟨_, rfl⟩
 have sv : (v : Int) / 4294967296 = (v1 : Int) := by omega
 have mh : mulH x y < 18446744073709551616 := by
  rw [hmh];have := Nat.mul_lt_mul'' hx hy
  omega
 obtain ⟨u, hu⟩ : ∃ u, u = p11 + t1 := ⟨_, rfl⟩
 have qu : IntKind.u64.wrap ((p11 : Int) + (t1 : Int)) = (u : Int) := by rw [IntKind.wrap_u64]; omega
 have qh : IntKind.u64.wrap ((u : Int) + (v1 : Int)) = ((mulH x y : Nat) : Int) := by rw [IntKind.wrap_u64]; omega
 clear m1 m2 m3 hx0 hx1 hy0 hy1 bx0 by0 bx1 by1 b00 b11 b10 b01 hmh e00 e10 e01 e11 ht hv eh00 et0 et1 ev1 mh hu hx hy
 go_enter Tryz.func36, Tryz.ntmps36
 go_wp2
 go_ret2
 exact ⟨rfl, rfl⟩
theorem mulH_lt (x y : Nat) (hx : x < 18446744073709551616) (hy : y < 18446744073709551616) : mulH x y < 18446744073709551616 := by
 unfold mulH;have := Nat.mul_lt_mul'' hx hy
 omega
theorem mulL_lt (x y : Nat) : mulL x y < 18446744073709551616 := by unfold mulL; omega
theorem square_c (p x : Nat) (hp : p < 18446744073709551616) (hx : x < 18446744073709551616) (w : World) :
  Calls Tryz.prog 24 #[.agg #[.int .u64 (p : Int)], .int .u64 (x : Int)] w fun e w' => e = .returned (.bool (squareF p x)) /\ Below w.heap.size w w' := by
 have hM := fun w => mul64_c x x hx hx w
 have h0 := heap_new' w (.cells #[.int .u64 (p : Int)] 67)
 have c0 : (w.alloc (.cells #[.int .u64 (p : Int)] 67)).cell? ⟨w.heap.size, 0, none⟩ = some (.int .u64 (p : Int)) := (cells_at h0 0).trans rfl
 have hF : squareF p x = (decide (mulH x x < p) || (mulH x x == p && mulL x x == 0)) := rfl
 obtain ⟨hi, hhi⟩ : ∃ h, h = mulH x x := ⟨_, rfl⟩
 obtain ⟨lo, hlo⟩ : ∃ h, h = mulL x x := ⟨_, rfl⟩
 rw [<- hhi, <- hlo] at hF
 have HM := Lib.hid hM;rw [<- hhi, <- hlo] at HM
 have HF := Lib.hid hF;have HB : Hid (Below w.heap.size w (w.alloc (.cells #[.int .u64 (p : Int)] 67))) := (Below.refl _ _).alloc (Nat.le_refl _) _
 clear hM h0 hF hhi hlo hx hp
 by_cases h1 : hi < p
 ·have d1 : decide ((hi : Int) < (p : Int)) = true := by simp; omega
  have HV : Hid (squareF p x = true) := by show _ = _; rw [HF.out]; simp [h1]
  go_enter Tryz.func24, Tryz.ntmps24
  go_wp2_with fail
  refine (HM.out _).mono ?_
  rintro r w' ⟨rfl, rfl⟩
  go_wp2
  go_ret
  exact ⟨by rw [HV.out]; rfl, HB.out⟩
 ·have d1 : decide ((hi : Int) < (p : Int)) = false := by simp; omega
  by_cases h2 : hi = p
  ·have d2 : ((hi : Int) == (p : Int)) = true := by simp [h2]
   by_cases h3 : lo = 0
   ·have d3 : ((lo : Int) == 0) = true := by simp [h3]
    have HV : Hid (squareF p x = true) := by show _ = _; rw [HF.out]; simp [h2, h3]
    have H1 := Lib.hid h1;clear h2 h3
    go_enter Tryz.func24, Tryz.ntmps24
    go_wp2_with fail
    refine (HM.out _).mono ?_
    rintro r w' ⟨rfl, rfl⟩
    go_wp2
    go_ret
    exact ⟨by rw [HV.out]; rfl, HB.out⟩
   ·have d3 : ((lo : Int) == 0) = false := by simp; omega
    have HV : Hid (squareF p x = false) := by show _ = _; rw [HF.out]; simp [h2, h3]
    clear h2 h3
    go_enter Tryz.func24, Tryz.ntmps24
    go_wp2_with fail
    refine (HM.out _).mono ?_
    rintro r w' ⟨rfl, rfl⟩
    go_wp2
    go_ret
    exact ⟨by rw [HV.out]; rfl, HB.out⟩
  ·have d2 : ((hi : Int) == (p : Int)) = false := by simp; omega
   have HV : Hid (squareF p x = false) := by show _ = _; rw [HF.out]; simp [h1, h2]
   clear h2
   go_enter Tryz.func24, Tryz.ntmps24
   go_wp2_with fail
   refine (HM.out _).mono ?_
   rintro r w' ⟨rfl, rfl⟩
   go_wp2
   go_ret
   exact ⟨by rw [HV.out]; rfl, HB.out⟩
theorem add64_x (a c : Nat) (w : World) : Sem.run Tryz.prog (callFunc 37 #[.int .u64 (a : Int), .int .u64 (c : Int), .int .u64 0]) w = .ok (.value (.tuple #[.int .u64 (((a + c) % 18446744073709551616 : Nat) : Int), .int .u64 (((a + c) / 18446744073709551616 : Nat) : Int)])) w := by
 rw [run_callFunc_extern Tryz.func37 rfl rfl rfl (e := add64Entry) rfl, run_add64 _ _ _ (by omega) (by omega) (by omega) (by omega)]
 simp [Result.andThen]
theorem cube_c (p x : Nat) (hp : p < 18446744073709551616) (hx : x < 18446744073709551616) (w : World) :
  Calls Tryz.prog 23 #[.agg #[.int .u64 (p : Int)], .int .u64 (x : Int)] w fun e w' => e = .returned (.bool (cubeF p x)) /\ Below w.heap.size w w' := by
 have h0 := heap_new' w (.cells #[.int .u64 (p : Int)] 67)
 have c0 : (w.alloc (.cells #[.int .u64 (p : Int)] 67)).cell? ⟨w.heap.size, 0, none⟩ = some (.int .u64 (p : Int)) := (cells_at h0 0).trans rfl
 have hF : cubeF p x = (decide ((mulH (mulL x x) x + mulL (mulH x x) x) % 18446744073709551616 < p * 4294967296 % 18446744073709551616) || ((mulH (mulL x x) x + mulL (mulH x x) x) % 18446744073709551616 == p * 4294967296 % 18446744073709551616 && mulL (mulL x x) x == 0)) := rfl
 have HM := Lib.hid (fun w => mul64_c x x hx hx w)
 have HM2 := Lib.hid (fun w => mul64_c (mulL x x) x (mulL_lt x x) hx w)
 have HM3 := Lib.hid (fun w => mul64_c (mulH x x) x (mulH_lt x x hx hx) hx w)
 obtain ⟨hi, hhi⟩ : ∃ h, h = mulH x x := ⟨_, rfl⟩
 obtain ⟨lo, hlo⟩ : ∃ h, h = mulL x x := ⟨_, rfl⟩
 rw [<- hhi, <- hlo] at hF HM
 rw [<- hlo] at HM2;rw [<- hhi] at HM3;obtain ⟨aa, haa⟩ : ∃ h, h = mulH lo x := ⟨_, rfl⟩
 obtain ⟨bb, hbb⟩ : ∃ h, h = mulL lo x := ⟨_, rfl⟩
 obtain ⟨cc, hcc⟩ : ∃ h, h = mulL hi x := ⟨_, rfl⟩
 rw [<- haa, <- hbb, <- hcc] at hF
 rw [<- haa, <- hbb] at HM2
 rw [<- hcc] at HM3;obtain ⟨ss, hss⟩ : ∃ h, h = (aa + cc) % 18446744073709551616 := ⟨_, rfl⟩
 obtain ⟨qq, hqq⟩ : ∃ h, h = p * 4294967296 % 18446744073709551616 := ⟨_, rfl⟩
 rw [<- hss, <- hqq] at hF
 have HAD := Lib.hid (fun w => add64_x aa cc w)
 rw [<- hss] at HAD;have hq : IntKind.u64.wrap ((p : Int) * 4294967296) = (qq : Int) := by rw [IntKind.wrap_u64]; omega
 have HF := Lib.hid hF;have HB : Hid (Below w.heap.size w (w.alloc (.cells #[.int .u64 (p : Int)] 67))) := (Below.refl _ _).alloc (Nat.le_refl _) _
 clear h0 hF hhi hlo haa hbb hcc hss hqq hx hp
 by_cases h1 : ss < qq
 ·have d1 : decide ((ss : Int) < (qq : Int)) = true := by simp; omega
  have HV : Hid (cubeF p x = true) := by show _ = _; rw [HF.out]; simp [h1]
  go_enter Tryz.func23, Tryz.ntmps23
  go_wp2_with fail
  refine (HM.out _).mono ?_
  rintro r w' ⟨rfl, rfl⟩
  go_wp2_with fail
  refine (HM2.out _).mono ?_
  rintro r w' ⟨rfl, rfl⟩
  go_wp2_with fail
  refine (HM3.out _).mono ?_
  rintro r w' ⟨rfl, rfl⟩
  have hadd := HAD.out
  go_wp2
  go_ret
  exact ⟨by rw [HV.out]; rfl, HB.out⟩
 ·have d1 : decide ((ss : Int) < (qq : Int)) = false := by simp; omega
  by_cases h2 : ss = qq
  ·have d2 : ((ss : Int) == (qq : Int)) = true := by simp [h2]
   by_cases h3 : bb = 0
   ·have d3 : ((bb : Int) == 0) = true := by simp [h3]
    have HV : Hid (cubeF p x = true) := by show _ = _; rw [HF.out]; simp [h2, h3]
    clear h2 h3
    go_enter Tryz.func23, Tryz.ntmps23
    go_wp2_with fail
    refine (HM.out _).mono ?_
    rintro r w' ⟨rfl, rfl⟩
    go_wp2_with fail
    refine (HM2.out _).mono ?_
    rintro r w' ⟨rfl, rfl⟩
    go_wp2_with fail
    refine (HM3.out _).mono ?_
    rintro r w' ⟨rfl, rfl⟩
    have hadd := HAD.out
    go_wp2
    go_ret
    exact ⟨by rw [HV.out]; rfl, HB.out⟩
   ·have d3 : ((bb : Int) == 0) = false := by simp; omega
    have HV : Hid (cubeF p x = false) := by show _ = _; rw [HF.out]; simp [h2, h3]
    clear h2 h3
    go_enter Tryz.func23, Tryz.ntmps23
    go_wp2_with fail
    refine (HM.out _).mono ?_
    rintro r w' ⟨rfl, rfl⟩
    go_wp2_with fail
    refine (HM2.out _).mono ?_
    rintro r w' ⟨rfl, rfl⟩
    go_wp2_with fail
    refine (HM3.out _).mono ?_
    rintro r w' ⟨rfl, rfl⟩
    have hadd := HAD.out
    go_wp2
    go_ret
    exact ⟨by rw [HV.out]; rfl, HB.out⟩
  ·have d2 : ((ss : Int) == (qq : Int)) = false := by simp; omega
   have HV : Hid (cubeF p x = false) := by show _ = _; rw [HF.out]; simp [h1, h2]
   clear h2
   go_enter Tryz.func23, Tryz.ntmps23
   go_wp2_with fail
   refine (HM.out _).mono ?_
   rintro r w' ⟨rfl, rfl⟩
   go_wp2_with fail
   refine (HM2.out _).mono ?_
   rintro r w' ⟨rfl, rfl⟩
   go_wp2_with fail
   refine (HM3.out _).mono ?_
   rintro r w' ⟨rfl, rfl⟩
   have hadd := HAD.out
   go_wp2
   go_ret
   exact ⟨by rw [HV.out]; rfl, HB.out⟩
theorem noDiv_succ (n f d : Nat) : noDiv n (f + 1) d = if d * d <= n then (if n % d = 0 then false else noDiv n f (d + 1)) else true := rfl
theorem prime_c (n : Nat) (h1 : 2 <= n) (h2 : n < 312) (w : World) :
  Calls Tryz.prog 35 #[.int .i64 (n : Int)] w fun e w' => e = .returned (.bool (isP n)) /\ w = w' := by
 have HI : Hid (isP n = noDiv n 20 2) := rfl
 go_enter Tryz.func35, Tryz.ntmps35
 go_wp2
 go_loop [3] (fun vd => ∃ d f : Nat, d + f = 22 /\ 2 <= d /\ vd = .int .i64 (d : Int) /\ Hid (isP n = noDiv n f d)) (fun vd => 22 - (intOf vd).toNat)
 case atStart => exact ⟨2, 20, by omega, by omega, rfl, HI.out⟩
 case round =>
  clear HI;obtain ⟨d, f, hdf, hd2, rfl, hP⟩ := hrel
  obtain ⟨dd, hdd⟩ : ∃ dd, dd = d * d := ⟨_, rfl⟩
  have hd22 : d <= 22 := by omega
  have hb : dd <= 484 := by rw [hdd]; exact Nat.mul_le_mul hd22 hd22
  have e1 : IntKind.i64.wrap ((d : Int) * (d : Int)) = (dd : Int) := by rw [<- Int.natCast_mul, <- hdd]; exact IntWalk.i64_in _ (by omega)
  have e2 : IntKind.i64.wrap ((d : Int) + 1) = (d : Int) + 1 := IntWalk.i64_in _ (by omega)
  by_cases hle : dd <= n
  ·have hl : decide ((dd : Int) <= (n : Int)) = true := by simp; omega
   have hf : f ≠ 0 := by
    rintro rfl
    have : d = 22 := by omega
    rw [hdd, this] at hle; omega
   obtain ⟨f', rfl⟩ : ∃ f', f = f' + 1 := ⟨f - 1, by omega⟩
   have hPn : isP n = if n % d = 0 then false else noDiv n f' (d + 1) := by
    rw [hP.out, noDiv_succ, if_pos (by rw [<- hdd]; exact hle)]
   obtain ⟨md, hmd⟩ : ∃ md, md = n % d := ⟨_, rfl⟩
   have hd0 : (d : Int) ≠ 0 := by omega
   have emd : (n : Int).tmod (d : Int) = (md : Int) := by rw [Int.tmod_eq_emod_of_nonneg (by omega), hmd]; rfl
   rw [<- hmd] at hPn;have HDF := Lib.hid hdf;have HD2 := Lib.hid hd2;clear hP hdd hmd hdf hd2
   by_cases hz : md = 0
   ·have hzf : ((md : Int) == 0) = true := by simp [hz]
    rw [if_pos hz] at hPn
    have HPN := Lib.hid hPn;clear hPn hz;go_wp2
    go_ret
    exact ⟨by rw [HPN.out]; rfl, rfl⟩
   ·have hzf : ((md : Int) == 0) = false := by simp; omega
    rw [if_neg hz] at hPn
    have HPN := Lib.hid hPn;clear hPn hz;go_wp2
    go_round
    case rel => exact ⟨d + 1, f', by have := HDF.out; omega, by have := HD2.out; omega, by go_num, HPN.out⟩
    case measure => simp [intOf]; have := HDF.out; omega
  ·have hl : decide ((dd : Int) <= (n : Int)) = false := by simp; omega
   have hPt : isP n = true := by
    rw [hP.out]
    cases f with
    | zero => rfl
    | succ f => rw [noDiv_succ, if_neg (by rw [<- hdd]; exact hle)]
   have HPT := Lib.hid hPt;clear hP hPt hdd;go_wp2
   go_ret
   exact ⟨by rw [HPT.out]; rfl, rfl⟩
theorem prime64_c (k : Nat) (hk : k < 64) (w : World) :
  Calls Tryz.prog 21 #[.int .i64 (k : Int)] w fun e w' => e = .returned (.int .i64 ((primeL.getD k 0 : Nat) : Int)) /\ w = w' := by
 have d1 : ¬ (k : Int) < 0 := by omega
 have d2 : ¬ (64 : Int) <= (k : Int) := by omega
 have e0 : IntKind.i64.wrap ((k : Int) + 1) = ((k + 1 : Nat) : Int) := by rw [IntWalk.i64_in _ (by omega)]; omega
 have HK := Lib.hid hk;obtain ⟨k1, hk1⟩ : ∃ k1, k1 = k + 1 := ⟨_, rfl⟩
 have HK1 := Lib.hid hk1;rw [<- hk1] at e0;obtain ⟨pk, hpk⟩ : ∃ p, p = primeL.getD k 0 := ⟨_, rfl⟩
 have HPK := Lib.hid hpk;rw [<- hpk];clear hk1 hk hpk
 go_enter Tryz.func21, Tryz.ntmps21
 go_wp2
 go_loop [3, 4] (fun vn vl => ∃ n left : Nat, 1 <= n /\ n <= 311 /\ left <= k1 /\ vn = .int .i64 (n : Int) /\ vl = .int .i64 (left : Int) /\ Hid (left + cntP n = k1) /\ Hid (left = 0 -> pk = n)) (fun vn _ => 312 - (intOf vn).toNat)
 case atStart => exact ⟨1, k1, by omega, by omega, by omega, rfl, rfl, by show _ = _; rw [cntP_one]; rfl, fun h => by have := HK1.out; omega⟩
 case round =>
  obtain ⟨n, left, hn1, hn, hl1, rfl, rfl, hc, he⟩ := hrel
  by_cases hl : 0 < left
  ·have hd : decide ((left : Int) > 0) = true := by simp; omega
   have hn2 : n < 311 := by
    rcases Nat.lt_or_ge n 311 with h | h
    ·exact h
    ·have h3 : n = 311 := by omega
     have := hc.out
     rw [h3, cntP_all] at this
     have := HK1.out; have := HK.out
     omega
   have en : IntKind.i64.wrap ((n : Int) + 1) = ((n + 1 : Nat) : Int) := by rw [IntWalk.i64_in _ (by omega)]; omega
   have el : IntKind.i64.wrap ((left : Int) - 1) = ((left - 1 : Nat) : Int) := by have := HK1.out; have := HK.out; rw [IntWalk.i64_in _ (by omega)]; omega
   have hcn := cntP_next n hn2
   have HP := Lib.hid (fun w => prime_c (n + 1) (by omega) (by omega) w)
   have hat := cntP_at (n + 1) (by omega) (by omega)
   obtain ⟨n1, hn1'⟩ : ∃ n1, n1 = n + 1 := ⟨_, rfl⟩
   have HN1 := Lib.hid hn1';rw [<- hn1'] at en hcn HP hat;obtain ⟨l1, hl1'⟩ : ∃ l1, l1 = left - 1 := ⟨_, rfl⟩
   have HL1 := Lib.hid hl1';rw [<- hl1'] at el;have HLL := Lib.hid (And.intro hl hl1)
   have HNN := Lib.hid (And.intro hn1 hn2)
   have HAT := Lib.hid hat;clear hn1' hl1' hl1 hn hn2 hn1 he hat
   by_cases hp : isP n1 = true
   ·rw [if_pos ⟨by have := HN1.out; have := HNN.out; omega, hp⟩] at hcn
    have HCN := Lib.hid hcn;have HPP := Lib.hid hp;clear hcn;go_wp2_with fail
    refine (HP.out w).mono ?_
    rintro r w' ⟨rfl, rfl⟩
    rw [hp];clear hp;go_wp2
    go_round
    case rel =>
     refine ⟨n1, l1, by have := HN1.out; omega, by have := HN1.out; have := HNN.out; omega, by have := HL1.out; have := HLL.out; omega, rfl, rfl, ?_, fun h => ?_⟩
     ·show _ = _
      have := HCN.out; have := hc.out; have := HL1.out; have := HLL.out
      omega
     ·have h1 := HCN.out
      have h2 := hc.out
      have h3 := HL1.out
      have h4 := HLL.out
      have h5 := HK1.out
      have h6 := HAT.out HPP.out
      rw [show cntP n1 - 1 = k by omega, <- HPK.out] at h6
      exact h6
    case measure => simp [intOf]; have := HN1.out; have := HNN.out; omega
   ·rw [if_neg (fun h => hp h.2)] at hcn
    have HCN := Lib.hid hcn;have hpf : isP n1 = false := by simpa using hp
    clear hcn hp;go_wp2_with fail
    refine (HP.out w).mono ?_
    rintro r w' ⟨rfl, rfl⟩
    rw [hpf];clear hpf;go_wp2
    go_round
    case rel =>
     refine ⟨n1, left, by have := HN1.out; omega, by have := HN1.out; have := HNN.out; omega, HLL.out.2, rfl, rfl, ?_, fun h => ?_⟩
     ·show _ = _
      have := HCN.out; have := hc.out
      omega
     ·have := HLL.out; omega
    case measure => simp [intOf]; have := HN1.out; have := HNN.out; omega
  ·have hl0 : left = 0 := by omega
   have HE : Hid (pk = n) := he.out hl0
   have hd : decide ((left : Int) > 0) = false := by simp; omega
   go_wp2
   go_ret
   exact ⟨by rw [HE.out]; rfl, rfl⟩
theorem behindN_succ (f : Nat -> Bool) (n x : Nat) : behindN f (n + 1) x = behindN f n (if f (x ||| 2 ^ n) then x ||| 2 ^ n else x) := rfl
theorem root1 : (Tryz.prog.info? 67).map (·.size) = some 1 := by kernel_rfl
theorem behind_c (F : FuncId) (fit : Nat -> Bool) (p : Nat) (hF : ∀ x : Nat, x < 274877906944 -> ∀ w : World, Calls Tryz.prog F #[.agg #[.int .u64 (p : Int)], .int .u64 (x : Int)] w fun e w' => e = .returned (.bool (fit x)) /\ Below w.heap.size w w')
  (hcall : ∀ (a x : Value) (w : World), Sem.run Tryz.prog (callFunc F #[a, x]) w = .ok (.enter F #[a, x]) w) (w : World) :
  Calls Tryz.prog 22 #[.agg #[.int .u64 (p : Int)], .func (.func F) #[] #[]] w fun e w' => e = .returned (.int .u32 ((behindN fit 38 0 % 4294967296 : Nat) : Int)) /\ Below w.heap.size w w' := by
 have h0 := heap_new' w (.cells #[.int .u64 (p : Int)] 67)
 have H0 := Lib.hid h0;have HB0 : Hid (Below w.heap.size w (w.alloc (.cells #[.int .u64 (p : Int)] 67))) := (Below.refl _ _).alloc (Nat.le_refl _) _
 obtain ⟨R, hR⟩ : ∃ R, R = behindN fit 38 0 := ⟨_, rfl⟩
 have HR := Lib.hid hR;rw [<- hR];have HF := Lib.hid hF;clear h0 hR hF
 go_enter Tryz.func22, Tryz.ntmps22
 go_wp2
 go_loopw [5, 6] (fun vx vb wr => ∃ j x bt : Nat, j <= 38 /\ x < 274877906944 /\ vx = .int .u64 (x : Int) /\ vb = .int .u64 (bt : Int) /\ Hid (bt = 2 ^ j / 2) /\ Hid (R = behindN fit j x) /\ Hid (wr.heap[w.heap.size]? = some (.cells #[.int .u64 (p : Int)] 67 (0, 0))) /\ Hid (Below w.heap.size w wr)) (fun _ vb _ => (intOf vb).toNat)
 case atStart => exact ⟨38, 0, 137438953472, by omega, by omega, rfl, rfl, by show _ = _; decide, HR.out, H0.out, HB0.out⟩
 case round =>
  clear H0 HB0 HR;obtain ⟨j, x, bt, hj, hx, rfl, rfl, hbt, hRx, hbl, hbel⟩ := hrel
  cases j with
  | zero =>
   have hb0 : bt = 0 := by rw [hbt.out]
   have hd : decide ((bt : Int) > 0) = false := by simp; omega
   have hRx0 : R = x := hRx.out
   have HRX := Lib.hid hRx0;have e32 : IntKind.u32.wrap (x : Int) = ((x % 4294967296 : Nat) : Int) := mod32 x
   clear hRx0 hRx hbt;go_wp2
   go_ret
   exact ⟨by rw [HRX.out]; rfl, hbel.out⟩
  | succ j =>
   obtain ⟨q, hq⟩ : ∃ q, q = 2 ^ j := ⟨_, rfl⟩
   have hbq : bt = q := by rw [hbt.out, hq, Nat.pow_succ]; omega
   subst hbq;have hq1 : 1 <= bt := by rw [hq]; exact Nat.one_le_two_pow
   have hqm : bt < 274877906944 := by rw [hq, show (274877906944 : Nat) = 2 ^ 38 from rfl]; exact Nat.pow_lt_pow_right (by omega) (by omega)
   have hd : decide ((bt : Int) > 0) = true := by simp; omega
   have hor : x ||| bt < 274877906944 := Nat.or_lt_two_pow (n := 38) hx hqm
   have eor : bits BinOp.or IntKind.u64 (x : Int) (bt : Int) = ((x ||| bt : Nat) : Int) := (u64_nat x bt (by omega) (by omega)).2
   have hRs : R = behindN fit j (if fit (x ||| bt) then x ||| bt else x) := by rw [hRx.out, behindN_succ, hq]
   obtain ⟨hb, hhb⟩ : ∃ hb, hb = bt / 2 := ⟨_, rfl⟩
   have esh : (bt : Int) / 2 = (hb : Int) := by omega
   have hhb2 : hb = 2 ^ j / 2 := by rw [hhb, hq]
   obtain ⟨o, ho⟩ : ∃ o, o = x ||| bt := ⟨_, rfl⟩
   rw [<- ho] at hor eor hRs;have HO := Lib.hid hor;have HX := Lib.hid hx;have HJ := Lib.hid hj;have HH := Lib.hid hhb2;have HHB := Lib.hid (And.intro hhb hq1)
   have HRS := Lib.hid hRs;clear hbt hq hRx hRs ho hor hhb hhb2 hx hj hqm;go_wp2_with (first
    | (refine wpList_load_row rfl 67 (.tmp 2) rfl w.heap.size rfl _ _ _ _ hbl.out Tryz.underlying67 rfl (by rw [root1]; rfl) ?_)
    | fail)
   refine (HF.out o HO.out wr).mono ?_
   rintro r w1 ⟨rfl, hb1⟩
   have HB1 : Hid (Below w.heap.size w w1) := hbel.out.trans (hb1.mono hbel.out.size)
   have HL1 : Hid (w1.heap[w.heap.size]? = some (.cells #[.int .u64 (p : Int)] 67 (0, 0))) := (hb1.block _ (lt_of_block hbl.out)).trans hbl.out
   clear hb1
   cases hfit : fit o with
   | true =>
    have HFT := Lib.hid hfit;clear hfit;go_wp2
    go_roundw
    case rel =>
     refine ⟨j, o, hb, by have := HJ.out; omega, HO.out, by go_num, by go_num, HH.out, ?_, HL1.out, HB1.out⟩
     have h := HRS.out
     rw [if_pos HFT.out] at h
     exact h
    case measure => simp [intOf]; have := HHB.out; omega
   | false =>
    have HFT := Lib.hid hfit;clear hfit;go_wp2
    go_roundw
    case rel =>
     refine ⟨j, x, hb, by have := HJ.out; omega, HX.out, by go_num, by go_num, HH.out, ?_, HL1.out, HB1.out⟩
     have h := HRS.out
     rw [if_neg (by rw [HFT.out]; decide)] at h
     exact h
    case measure => simp [intOf]; have := HHB.out; omega
def wA (l : List Nat) : Array Value := (l.map fun (n : Nat) => Value.int .u32 (n : Int)).toArray
theorem wA_get (l : List Nat) (k : Nat) (h : k < l.length) : (wA l)[k]? = some (.int .u32 ((l.getD k 0 : Nat) : Int)) := by
 unfold wA; simp [h]
theorem wA_size (l : List Nat) : (wA l).size = l.length := by simp [wA]
theorem wA_set (l : List Nat) (k n : Nat) : (wA l).setIfInBounds k (.int .u32 (n : Int)) = wA (l.set k n) := by
 unfold wA; simp [List.map_set]
def partW (L : List Nat) (k : Nat) : List Nat := L.take k ++ List.replicate (L.length - k) 0
theorem partW_len (L : List Nat) (k : Nat) (h : k <= L.length) : (partW L k).length = L.length := by simp [partW]; omega
theorem partW_full (L : List Nat) : partW L L.length = L := by simp [partW]
theorem partW_set (L : List Nat) (k : Nat) (h : k < L.length) : (partW L k).set k (L.getD k 0) = partW L (k + 1) := by
 unfold partW;rw [List.set_append_right _ _ (by simp; omega)]
 simp only [List.length_take, Nat.min_eq_left (Nat.le_of_lt h), Nat.sub_self]
 rw [show L.length - k = (L.length - (k + 1)) + 1 by omega, List.replicate_succ, List.set_cons_zero, List.take_succ_eq_append_getElem h, List.append_assoc]
 simp [List.getD_eq_getElem?_getD, h]
theorem KT_len : KT.length = 64 := by decide
theorem HL_len : HL.length = 8 := by decide
theorem range_row1 {w : World} {g : Nat} {v : Value} {t : TypeId} (h : w.heap[g]? = some (.cells #[v] t (0, 0))) : w.rangeAt g 0 [v] := by
 intro j u hu;rw [Nat.zero_add, cells_at h j]
 rw [<- hu, <- Array.getElem?_toList]
def tabI (i j : Nat) : List Nat := partW KT i ++ partW HL j
theorem tabI_len (i j : Nat) (hi : i <= 64) (hj : j <= 8) : (tabI i j).length = 72 := by
 unfold tabI; rw [List.length_append, partW_len _ _ (by rw [KT_len]; exact hi), partW_len _ _ (by rw [HL_len]; exact hj), KT_len, HL_len]
theorem tab_k (i j : Nat) (hi : i < 64) : (tabI i j).set i (KT.getD i 0) = tabI (i + 1) j := by
 unfold tabI;rw [List.set_append_left _ _ (by rw [partW_len _ _ (by rw [KT_len]; omega), KT_len]; exact hi), partW_set _ _ (by rw [KT_len]; exact hi)]
theorem tab_h (i j : Nat) (hi : i <= 64) (hj : j < 8) : (tabI i j).set (64 + j) (HL.getD j 0) = tabI i (j + 1) := by
 unfold tabI;have hl : (partW KT i).length = 64 := by rw [partW_len _ _ (by rw [KT_len]; exact hi), KT_len]
 rw [List.set_append_right _ _ (by rw [hl]; omega), hl, Nat.add_sub_cancel_left, partW_set _ _ (by rw [HL_len]; exact hj)]
theorem tab_zero : (Tryz.zeroCells64 : Array Value) = wA (tabI 0 0) := by rfl
theorem tab_full : tabI 64 8 = KT ++ HL := by
 unfold tabI;rw [<- KT_len, <- HL_len, partW_full, partW_full]
theorem primeL_lt : ∀ k, k < 64 -> primeL.getD k 0 < 312 := by decide
theorem call_cube (a x : Value) (w : World) : Sem.run Tryz.prog (callFunc 23 #[a, x]) w = .ok (.enter 23 #[a, x]) w := by go_simp
theorem call_square (a x : Value) (w : World) : Sem.run Tryz.prog (callFunc 24 #[a, x]) w = .ok (.enter 24 #[a, x]) w := by go_simp
theorem cubes_c (i : Nat) (hi : i < 64) (w : World) : Calls Tryz.prog 22 #[.agg #[.int .u64 ((primeL.getD i 0 : Nat) : Int)], .func (.func 23) #[] #[]] w fun e w' => e = .returned (.int .u32 ((KT.getD i 0 : Nat) : Int)) /\ Below w.heap.size w w' := by
 have h := behind_c 23 (cubeF (primeL.getD i 0)) (primeL.getD i 0) (fun x hx w => cube_c _ x (by have := primeL_lt i hi; omega) (by omega) w) call_cube w
 rw [table_k i hi] at h
 exact h
theorem squares_c (i : Nat) (hi : i < 8) (w : World) : Calls Tryz.prog 22 #[.agg #[.int .u64 ((primeL.getD i 0 : Nat) : Int)], .func (.func 24) #[] #[]] w fun e w' => e = .returned (.int .u32 ((HL.getD i 0 : Nat) : Int)) /\ Below w.heap.size w w' := by
 have h := behind_c 24 (squareF (primeL.getD i 0)) (primeL.getD i 0) (fun x hx w => square_c _ x (by have := primeL_lt i (by omega); omega) (by omega) w) call_square w
 rw [table_h i hi] at h
 exact h
theorem make_c (w : World) : Calls Tryz.prog 11 #[] w fun e w' => e = .returned (.pointer (some ⟨w.heap.size, 0, none⟩)) /\ w'.heap[w.heap.size]? = some (.cells (wA (KT ++ HL)) 64 (0, 0)) /\ Below w.heap.size w w' := by
 have H0 : Hid ((w.alloc (.cells (Tryz.zeroCells64) 64)).heap[w.heap.size]? = some (.cells (wA (tabI 0 0)) 64 (0, 0))) := by
  show _ = _; rw [heap_new', tab_zero]
 have HB0 : Hid (Below w.heap.size w (w.alloc (.cells (Tryz.zeroCells64) 64))) := (Below.refl _ _).alloc (Nat.le_refl _) _
 go_enter Tryz.func11, Tryz.ntmps11
 go_wp2
 go_loopw [6] (fun vi wr => ∃ i : Nat, i <= 64 /\ vi = .int .i64 (i : Int) /\ Hid (wr.heap[w.heap.size]? = some (.cells (wA (tabI i (min i 8))) 64 (0, 0))) /\ Hid (Below w.heap.size w wr)) (fun vi _ => 64 - (intOf vi).toNat)
 case atStart => exact ⟨0, by omega, rfl, H0.out, HB0.out⟩
 case round =>
  clear H0 HB0;obtain ⟨i, hi, rfl, htab, hbel⟩ := hrel
  by_cases hlt : i < 64
  ·have hd : decide ((i : Int) < 64) = true := by simp; omega
   have dl : (i : Int) < 64 := by omega
   have HP := Lib.hid (fun w => prime64_c i hlt w)
   have HC := Lib.hid (fun w => cubes_c i hlt w)
   have HPL := Lib.hid (primeL_lt i hlt)
   have HI := Lib.hid hlt;have HSQ : Hid (∀ (h8 : i < 8) (w : World), _) := fun h8 w => squares_c i h8 w
   obtain ⟨pk, hpk⟩ : ∃ p, p = primeL.getD i 0 := ⟨_, rfl⟩
   rw [<- hpk] at HP HC HPL HSQ;have eu : IntKind.u64.wrap (pk : Int) = (pk : Int) := by have := HPL.out; rw [IntKind.wrap_u64]; omega
   obtain ⟨kk, hkk⟩ : ∃ p, p = KT.getD i 0 := ⟨_, rfl⟩
   have HKK := Lib.hid hkk;rw [<- hkk] at HC;clear hpk hkk hi;go_wp2_with fail
   refine (HP.out wr).mono ?_
   rintro r w' ⟨rfl, rfl⟩
   go_wp2_with (first
    | (refine wpList_store_row rfl 67 (.tmp 3) (.tmp 12) rfl wr.heap.size #[.int .u64 (pk : Int)] rfl rfl 67 _ (heap_new' _ _) (by rw [root1]; rfl) (by rfl) (by simp [Value.oneCell']) ?_; generalize hW5 : World.setRow _ _ _ = W5; have HR5 : Hid (W5.heap[wr.heap.size]? = some (.cells #[.int .u64 (pk : Int)] 67 (0, 0))) := (by rw [<- hW5]; exact setRow_heap _ _ _ _ _ _ (heap_new' _ _)); have HB5 : Hid (Below wr.heap.size wr W5) := (by rw [<- hW5]; exact below_setRow ((Below.refl _ _).alloc (Nat.le_refl _) _) (Nat.le_refl _) _); clear hW5)
    | fail)
   have HT5 : Hid (W5.heap[w.heap.size]? = some (.cells (wA (tabI i (min i 8))) 64 (0, 0))) := (HB5.out.block _ (lt_of_block htab.out)).trans htab.out
   have HBW : Hid (Below w.heap.size w W5) := hbel.out.trans (HB5.out.mono hbel.out.size)
   obtain ⟨rb, hrb⟩ : ∃ rb, rb = wr.heap.size := ⟨_, rfl⟩
   have HRT : Hid (w.heap.size ≠ rb /\ w.heap.size < rb) := by have := lt_of_block htab.out; exact ⟨by omega, by omega⟩
   rw [<- hrb] at HR5 ⊢
   clear hrb htab hbel HB5;have hR7 : Hid (W5.drew.heap[rb]? = some (.cells #[.int .u64 (pk : Int)] 67 (0, 0))) := HR5.out
   have hT7 : Hid (W5.drew.heap[w.heap.size]? = some (.cells (wA (tabI i (min i 8))) 64 (0, 0))) := HT5.out
   have hB7 : Hid (Below w.heap.size w W5.drew) := HBW.out.drew
   refine wp_region_held_drew (S := fun w' => w'.heap[rb]? = some (.cells #[.int .u64 (pk : Int)] 67 (0, 0))) (by kernel_rfl) hR7.out ?_
   intro hS;generalize W5.drew = WD7 at hS hR7 hT7 hB7 ⊢
   change wpAnyH _ _ _ _ _ 8 #[false, false, false, false, false, false, false, false] _ _
   refine wpAnyH_take (i := 0) (v := ?_) rfl (by kernel_rfl) (by kernel_rfl) (by kernel_rfl) (fun _ _ _ h => h) (Or.inl ⟨by rfl, ?hy⟩) hS ?_
   case hy => intro w' hSw; go_simp; try with_reducible rfl
   simp only [gA, gS, gZ, Act.put, sA, sZ, sS]
   refine wpAnyH_take (i := 1) (v := ?_) rfl (by kernel_rfl) (by kernel_rfl) (by kernel_rfl) (fun _ _ _ h => h) (Or.inl ⟨by rfl, ?hy⟩) hS ?_
   case hy => intro w' hSw; go_simp; try with_reducible rfl
   simp only [gA, gS, gZ, Act.put, sA, sZ, sS]
   refine wpAnyH_take (i := 2) rfl (by kernel_rfl) (by kernel_rfl) (by kernel_rfl) (fun _ _ _ h => h) (yieldsIf_load_mid (by rfl) _ _ rfl rb 0 rfl _ _ (fun w' h => range_row1 h) Tryz.underlying67 rfl (by rw [root1]; rfl)) hS ?_
   simp only [gA, gS, gZ, Act.put, sA, sZ, sS]
   refine wpAnyH_take (i := 4) (v := ?_) rfl (by kernel_rfl) (by kernel_rfl) (by kernel_rfl) (fun _ _ _ h => h) (Or.inl ⟨by rfl, ?hy⟩) hS ?_
   case hy => intro w' hSw; go_simp; try with_reducible rfl
   simp only [gA, gS, gZ, Act.put, sA, sZ, sS]
   refine wpAnyH_take (i := 5) (v := ?_) rfl (by kernel_rfl) (by kernel_rfl) (by kernel_rfl) (fun _ _ _ h => h) (Or.inl ⟨by rfl, ?hy⟩) hS ?_
   case hy => intro w' hSw; go_simp; try with_reducible rfl
   simp only [gA, gS, gZ, Act.put, sA, sZ, sS]
   refine wpAnyH_ready (rs := [3]) (by kernel_rfl) (by simp) ?_
   refine AllReadyH.cons rfl (fun K hK => ?_) AllReadyH.nil
   rw [if_pos (by rfl)]
   go_simp
   refine (HC.out WD7).mono ?_
   rintro r we7 ⟨rfl, hbe7⟩
   refine hK.out _ _ ((hbe7.block _ (lt_of_block hS)).trans hS) (fun hSb7 => ?_)
   clear hK K;simp only [gA, gS, gZ, Act.put, sA, sZ, sS]
   have hte7 := (hbe7.block _ (lt_of_block hT7.out)).trans hT7.out
   refine wpAnyH_take (i := 6) (v := ?_) rfl (by kernel_rfl) (by kernel_rfl) (by kernel_rfl) (fun _ _ _ h => h) (Or.inl ⟨by rfl, ?hy⟩) hSb7 ?_
   case hy => intro w' hSw; go_simp; try with_reducible rfl
   simp only [gA, gS, gZ, Act.put, sA, sZ, sS]
   have fr7 := free_at hte7 i
   have ce7 := (cells_at hte7 i).trans (wA_get _ i (by rw [tabI_len _ _ (by have := HI.out; omega) (by omega)]; have := HI.out; omega))
   have nb7 := block_at hte7 i (.int .u32 (kk : Int))
   rw [wA_set] at nb7;have NB7 := Lib.hid nb7
   have BB7 : Hid (Below w.heap.size w we7) := hB7.out.trans (hbe7.mono hB7.out.size)
   clear nb7 hbe7;refine wpAnyH_ready (rs := [7]) (by kernel_rfl) (by simp) ?_
   refine AllReadyH.cons rfl (fun K hK => ?_) AllReadyH.nil
   rw [if_pos (by rfl)]
   go_simp
   refine hK.out _ _ ((Below.heap_setCell _ _ _ _ (by have := HRT.out.1; exact fun e => this e.symm)).trans hSb7) (fun hSc7 => ?_)
   clear hK K;simp only [gA, gS, gZ, Act.put, sA, sZ, sS]
   change wpAnyH _ _ _ _ _ 0 _ _ _
   refine wpAnyH_done (by kernel_rfl) ?_ _
   have HT7 : Hid ((we7.setCell ⟨w.heap.size, i, none⟩ (.int .u32 (kk : Int))).heap[w.heap.size]? = some (.cells (wA (tabI (i + 1) (min i 8))) 64 (0, 0))) := by
    have e := tab_k i (min i 8) HI.out
    rw [<- HKK.out] at e;have h := NB7.out
    rw [e] at h;exact Lib.hid h
   have HB7 := Lib.hid (BB7.out.setCell (p := ⟨w.heap.size, i, none⟩) (Nat.le_refl _) (.int .u32 (kk : Int)))
   have HR7 := Lib.hid hSc7;clear hSc7 hSb7 NB7 BB7 hte7 fr7 ce7 hS hR7 hT7 hB7;generalize (we7.setCell ⟨w.heap.size, i, none⟩ (.int .u32 (kk : Int))) = W7 at *
   by_cases h8 : i < 8
   ·have hd8 : decide ((i : Int) < 8) = true := by simp; omega
    have dl8 : (i : Int) < 8 := by omega
    have HS8 := Lib.hid (HSQ.out h8)
    obtain ⟨hh, hhh⟩ : ∃ p, p = HL.getD i 0 := ⟨_, rfl⟩
    have HHH := Lib.hid hhh;rw [<- hhh] at HS8;have H8 := Lib.hid h8;clear hhh;go_wp2
    have hR9 : Hid (W7.drew.heap[rb]? = some (.cells #[.int .u64 (pk : Int)] 67 (0, 0))) := HR7.out
    have hT9 : Hid (W7.drew.heap[w.heap.size]? = some (.cells (wA (tabI (i + 1) (min i 8))) 64 (0, 0))) := HT7.out
    have hB9 : Hid (Below w.heap.size w W7.drew) := HB7.out.drew
    refine wp_region_held_drew (S := fun w' => w'.heap[rb]? = some (.cells #[.int .u64 (pk : Int)] 67 (0, 0))) (by kernel_rfl) hR9.out ?_
    intro hS;generalize W7.drew = WD9 at hS hR9 hT9 hB9 ⊢
    change wpAnyH _ _ _ _ _ 8 #[false, false, false, false, false, false, false, false] _ _
    refine wpAnyH_take (i := 0) (v := ?_) rfl (by kernel_rfl) (by kernel_rfl) (by kernel_rfl) (fun _ _ _ h => h) (Or.inl ⟨by rfl, ?hy⟩) hS ?_
    case hy => intro w' hSw; go_simp; try with_reducible rfl
    simp only [gA, gS, gZ, Act.put, sA, sZ, sS]
    refine wpAnyH_take (i := 1) (v := ?_) rfl (by kernel_rfl) (by kernel_rfl) (by kernel_rfl) (fun _ _ _ h => h) (Or.inl ⟨by rfl, ?hy⟩) hS ?_
    case hy => intro w' hSw; go_simp; try with_reducible rfl
    simp only [gA, gS, gZ, Act.put, sA, sZ, sS]
    refine wpAnyH_take (i := 2) rfl (by kernel_rfl) (by kernel_rfl) (by kernel_rfl) (fun _ _ _ h => h) (yieldsIf_load_mid (by rfl) _ _ rfl rb 0 rfl _ _ (fun w' h => range_row1 h) Tryz.underlying67 rfl (by rw [root1]; rfl)) hS ?_
    simp only [gA, gS, gZ, Act.put, sA, sZ, sS]
    refine wpAnyH_take (i := 4) (v := ?_) rfl (by kernel_rfl) (by kernel_rfl) (by kernel_rfl) (fun _ _ _ h => h) (Or.inl ⟨by rfl, ?hy⟩) hS ?_
    case hy => intro w' hSw; go_simp; try with_reducible rfl
    simp only [gA, gS, gZ, Act.put, sA, sZ, sS]
    refine wpAnyH_take (i := 5) (v := ?_) rfl (by kernel_rfl) (by kernel_rfl) (by kernel_rfl) (fun _ _ _ h => h) (Or.inl ⟨by rfl, ?hy⟩) hS ?_
    case hy => intro w' hSw; go_simp; try with_reducible rfl
    simp only [gA, gS, gZ, Act.put, sA, sZ, sS]
    refine wpAnyH_ready (rs := [3]) (by kernel_rfl) (by simp) ?_
    refine AllReadyH.cons rfl (fun K hK => ?_) AllReadyH.nil
    rw [if_pos (by rfl)]
    go_simp
    refine (HS8.out WD9).mono ?_
    rintro r we9 ⟨rfl, hbe9⟩
    refine hK.out _ _ ((hbe9.block _ (lt_of_block hS)).trans hS) (fun hSb9 => ?_)
    clear hK K;simp only [gA, gS, gZ, Act.put, sA, sZ, sS]
    have hte9 := (hbe9.block _ (lt_of_block hT9.out)).trans hT9.out
    refine wpAnyH_take (i := 6) (v := ?_) rfl (by kernel_rfl) (by kernel_rfl) (by kernel_rfl) (fun _ _ _ h => h) (Or.inl ⟨by rfl, ?hy⟩) hSb9 ?_
    case hy => intro w' hSw; go_simp; try with_reducible rfl
    simp only [gA, gS, gZ, Act.put, sA, sZ, sS]
    have fr9 := free_at hte9 (64 + i)
    have ce9 := (cells_at hte9 (64 + i)).trans (wA_get _ (64 + i) (by rw [tabI_len _ _ (by have := HI.out; omega) (by omega)]; have := HI.out; omega))
    have nb9 := block_at hte9 (64 + i) (.int .u32 (hh : Int))
    rw [wA_set] at nb9;have NB9 := Lib.hid nb9
    have BB9 : Hid (Below w.heap.size w we9) := hB9.out.trans (hbe9.mono hB9.out.size)
    clear nb9 hbe9;refine wpAnyH_ready (rs := [7]) (by kernel_rfl) (by simp) ?_
    refine AllReadyH.cons rfl (fun K hK => ?_) AllReadyH.nil
    rw [if_pos (by rfl)]
    go_simp
    refine hK.out _ _ ((Below.heap_setCell _ _ _ _ (by have := HRT.out.1; exact fun e => this e.symm)).trans hSb9) (fun hSc9 => ?_)
    clear hK K;simp only [gA, gS, gZ, Act.put, sA, sZ, sS]
    change wpAnyH _ _ _ _ _ 0 _ _ _
    refine wpAnyH_done (by kernel_rfl) ?_ _
    have HT9 := NB9
    have HB9 := Lib.hid (BB9.out.setCell (p := ⟨w.heap.size, 64 + i, none⟩) (Nat.le_refl _) (.int .u32 (hh : Int)))
    go_wp2
    go_roundw
    case rel =>
     refine ⟨i + 1, by have := HI.out; omega, by go_num, ?_, ?_⟩
     ·have e1 : min i 8 = i := by have := H8.out; omega
      have e2 : min (i + 1) 8 = i + 1 := by have := H8.out; omega
      rw [e2];have e := tab_h (i + 1) i (by have := HI.out; omega) H8.out
      rw [<- HHH.out] at e;have h := HT9.out
      rw [e1, e] at h
      exact h
     ·exact HB9.out
    case measure => simp [intOf]; have := HI.out; omega
   ·have hd8 : decide ((i : Int) < 8) = false := by simp; omega
    have H8 := Lib.hid h8;go_wp2
    go_roundw
    case rel =>
     refine ⟨i + 1, by have := HI.out; omega, by go_num, ?_, HB7.out⟩
     have e1 : min (i + 1) 8 = min i 8 := by have := H8.out; omega
     rw [e1]; exact HT7.out
    case measure => simp [intOf]; have := HI.out; omega
  ·have hi64 : i = 64 := by omega
   have hd : decide ((i : Int) < 64) = false := by simp; omega
   have HI := Lib.hid hi64;clear hi64 hi;go_wp2
   go_ret
   refine ⟨rfl, ?_, hbel.out⟩
   have := htab.out
   rw [HI.out, show min 64 8 = 8 from rfl, tab_full] at this
   exact this
def hvN (b : Nat -> Nat) : Nat -> Nat
 | 0 => 0
 | k + 1 => hvN b k * 256 + b k
theorem hvN_lt (b : Nat -> Nat) (hb : ∀ j, b j < 256) : ∀ k, hvN b k < 256 ^ k
 | 0 => (by show 0 < 1; decide)
 | k + 1 => by
  have h1 := hvN_lt b hb k
  have h2 := hb k
  rw [Nat.pow_succ]
  show hvN b k * 256 + b k < _
  omega
theorem hvN_four (b : Nat -> Nat) : hvN b 4 = be4 (b 0) (b 1) (b 2) (b 3) := by simp [hvN, be4]
theorem or_byte (v c : Nat) (hc : c < 256) : v * 256 ||| c = v * 256 + c := by
 have h := Nat.two_pow_add_eq_or_of_lt (i := 8) (b := c) hc v
 rw [show (2 ^ 8 : Nat) = 256 from rfl, Nat.mul_comm] at h
 exact h.symm
theorem shigh_c (g o cap : Nat) (b : Nat -> Nat) (hb : ∀ j, b j < 256) (w : World) (hc : ∀ j, j < 4 -> w.cell? ⟨g, o + j, none⟩ = some (.int .u8 (b j : Int))) :
  Calls Tryz.prog 74 #[.slice (some ⟨g, o, none⟩) 4 cap] w fun e w' => e = .returned (.int .u32 ((be4 (b 0) (b 1) (b 2) (b 3) : Nat) : Int)) /\ w = w' := by
 have HC := Lib.hid hc;have HB := Lib.hid hb;have H4 := Lib.hid (hvN_four b)
 have HL := Lib.hid (hvN_lt b hb)
 obtain ⟨R, hR⟩ : ∃ R, R = be4 (b 0) (b 1) (b 2) (b 3) := ⟨_, rfl⟩
 rw [<- hR] at H4 ⊢
 clear hc hb hR
 go_enter Tryz.func74, Tryz.ntmps74
 go_wp2
 go_loop [3, 8] (fun vv vi => ∃ k v : Nat, k <= 4 /\ vi = .int .i64 (k : Int) /\ vv = .int .u32 (v : Int) /\ Hid (v = hvN b k)) (fun _ vi => 4 - (intOf vi).toNat)
 case atStart => exact ⟨0, 0, by omega, rfl, rfl, rfl⟩
 case round =>
  obtain ⟨k, v, hk, rfl, rfl, hv⟩ := hrel
  by_cases hlt : k < 4
  ·have hd : decide ((k : Int) < 4) = true := by simp; omega
   have dl : (k : Int) < 4 := by omega
   have d0 : ¬ (k : Int) < 0 := by omega
   have cl := HC.out k hlt
   have hbk := HB.out k
   have hvl : v < 16777216 := by
    have h := HL.out k
    rw [<- hv.out] at h;have : 256 ^ k <= 256 ^ 3 := Nat.pow_le_pow_right (by omega) (by omega)
    omega
   obtain ⟨c, hcc⟩ : ∃ c, c = b k := ⟨_, rfl⟩
   rw [<- hcc] at cl hbk;have e8 : (v : Int) * 256 % 4294967296 = ((v * 256 : Nat) : Int) := by omega
   have ec : IntKind.u32.wrap (c : Int) = (c : Int) := by rw [IntKind.wrap_u32]; omega
   have eo : bits BinOp.or IntKind.u32 ((v * 256 : Nat) : Int) (c : Int) = ((v * 256 + c : Nat) : Int) := by
    rw [u32o rfl rfl (by omega) (by omega), or_byte v c hbk]
   obtain ⟨v8, hv8⟩ : ∃ x, x = v * 256 := ⟨_, rfl⟩
   rw [<- hv8] at e8 eo;obtain ⟨v9, hv9⟩ : ∃ x, x = v8 + c := ⟨_, rfl⟩
   rw [<- hv9] at eo;have HV : Hid (v9 = hvN b (k + 1)) := by show _ = _ * 256 + _; rw [hv9, hv8, hv.out, hcc]
   have HK := Lib.hid hlt;clear hv8 hv9 hcc hbk hvl hlt hk;go_wp2
   go_round
   case rel => exact ⟨k + 1, v9, by have := HK.out; omega, by go_num, rfl, HV.out⟩
   case measure => simp [intOf]; have := HK.out; omega
  ·have hk4 : k = 4 := by omega
   have hd : decide ((k : Int) < 4) = false := by simp; omega
   have HV : Hid (v = R) := by show _ = _; rw [hv.out, hk4]; exact H4.out
   go_wp2
   go_ret
   exact ⟨by rw [<- HV.out]; rfl, rfl⟩
theorem schedW_next (b : List Nat) (t : Nat) : schedW b (t + 1) = schedW b t ++ [if t < 16 then wdAt b t else (sm1 ((schedW b t).getD (t - 2) 0) + (schedW b t).getD (t - 7) 0 + sm0 ((schedW b t).getD (t - 15) 0) + (schedW b t).getD (t - 16) 0) % 4294967296] := rfl
theorem getD_b {l : List Nat} (h : ∀ x ∈ l, x < 256) (j : Nat) : l.getD j 0 < 256 := by
 rw [List.getD_eq_getElem?_getD]
 rcases Nat.lt_or_ge j l.length with hj | hj
 ·rw [List.getElem?_eq_getElem hj]; exact h _ (List.getElem_mem _)
 ·rw [List.getElem?_eq_none hj]; decide
theorem wdAt_lt (b : List Nat) (hb : ∀ x ∈ b, x < 256) (t : Nat) : wdAt b t < 4294967296 := by
 have h0 := getD_b hb (4 * t)
 have h1 := getD_b hb (4 * t + 1)
 have h2 := getD_b hb (4 * t + 2)
 have h3 := getD_b hb (4 * t + 3)
 unfold wdAt be4; omega
theorem schedW_lt (b : List Nat) (hb : ∀ x ∈ b, x < 256) : ∀ t, ∀ x ∈ schedW b t, x < 4294967296
 | 0, x, h => by cases h
 | t + 1, x, h => by
  rw [schedW_next] at h;rcases List.mem_append.1 h with h | h
  ·exact schedW_lt b hb t x h
  ·rw [List.mem_singleton] at h
   rw [h]
   split
   ·exact wdAt_lt b hb t
   ·omega
theorem getD_w {l : List Nat} (h : ∀ x ∈ l, x < 4294967296) (j : Nat) : l.getD j 0 < 4294967296 := by
 rw [List.getD_eq_getElem?_getD]
 rcases Nat.lt_or_ge j l.length with hj | hj
 ·rw [List.getElem?_eq_getElem hj]; exact h _ (List.getElem_mem _)
 ·rw [List.getElem?_eq_none hj]; decide
def schedP (b : List Nat) (t : Nat) : List Nat := schedW b t ++ List.replicate (64 - t) 0
theorem schedP_len (b : List Nat) (t : Nat) (h : t <= 64) : (schedP b t).length = 64 := by simp [schedP, schedW_len]; omega
theorem schedP_get (b : List Nat) (t j : Nat) (h : j < t) : (schedP b t).getD j 0 = (schedW b t).getD j 0 := by
 unfold schedP;rw [List.getD_eq_getElem?_getD, List.getElem?_append_left (by rw [schedW_len]; exact h), <- List.getD_eq_getElem?_getD]
theorem schedP_set (b : List Nat) (t x : Nat) (h : t < 64) (hx : schedW b (t + 1) = schedW b t ++ [x]) : (schedP b t).set t x = schedP b (t + 1) := by
 unfold schedP;rw [List.set_append_right _ _ (by rw [schedW_len]; exact Nat.le_refl _), schedW_len, Nat.sub_self, show 64 - t = (64 - (t + 1)) + 1 by omega, List.replicate_succ, List.set_cons_zero, hx, List.append_assoc]
 rfl
theorem w64 : (Tryz.prog.info? 135).map (·.size) = some 64 := by kernel_rfl
theorem wA_one (l : List Nat) : (wA l).all (·.oneCell') = true := by
 rw [<- Array.all_toList]; simp [wA, Value.oneCell']
theorem schedule_c (g o cap : Nat) (hcap : 64 <= cap) (b : List Nat) (hl : b.length = 64) (hb : ∀ x ∈ b, x < 256) (w : World) (hg : g < w.heap.size) (hc : ∀ j, j < 64 -> w.cell? ⟨g, o + j, none⟩ = some (.int .u8 ((b.getD j 0 : Nat) : Int))) :
  Calls Tryz.prog 54 #[.slice (some ⟨g, o, none⟩) 64 cap] w fun e w' => e = .returned (.agg (wA (schedW b 64))) /\ Below w.heap.size w w' := by
 have h0 : ∀ o1 : Obj, ((w.alloc (.cells (wA (schedP b 0)) 135)).alloc o1).heap[w.heap.size]? = some (.cells (wA (schedP b 0)) 135 (0, 0)) := fun o1 => by
  rw [heap_old' _ _ _ (by simp), heap_new']
 have h1 : ∀ o0 : Obj, ((w.alloc o0).alloc (.cells (wA (schedP b 0)) 135)).heap[w.heap.size + 1]? = some (.cells (wA (schedP b 0)) 135 (0, 0)) := fun o0 => by
  rw [show w.heap.size + 1 = (w.alloc o0).heap.size by simp, heap_new']
 have hz : (wA (schedP b 0)) = wA (List.replicate 64 0) := by simp [schedP, schedW]
 have H0 : Hid (∀ o1 : Obj, _) := h0
 have H1 : Hid (∀ o0 : Obj, _) := h1
 rw [hz] at H0 H1;have HZ := Lib.hid hz;have HBB : Hid (∀ o0 o1 : Obj, Below w.heap.size w ((w.alloc o0).alloc o1)) := fun o0 o1 => ((Below.refl _ _).alloc (Nat.le_refl _) _).alloc (by simp) _
 have HC := Lib.hid hc;have HB := Lib.hid hb;have HG := Lib.hid hg;have HCAP := Lib.hid hcap;have HSL := Lib.hid (schedW_lt b hb)
 have HFULL : Hid (∀ t, t = 64 -> schedP b t = schedW b t) := fun t h => by unfold schedP; rw [h]; simp
 obtain ⟨n64, hn64⟩ : ∃ n : Nat, n = 64 := ⟨_, rfl⟩
 have HN64 := Lib.hid hn64;obtain ⟨R, hR⟩ : ∃ R, R = schedW b n64 := ⟨_, rfl⟩
 have HRR := Lib.hid hR;have HRL : Hid (R.length = 64) := by show _ = _; rw [hR, schedW_len, hn64]
 suffices hgoal : Calls Tryz.prog 54 #[.slice (some ⟨g, o, none⟩) 64 cap] w fun e w' => e = .returned (.agg (wA R)) /\ Below w.heap.size w w' by
  rw [hR, hn64] at hgoal; exact hgoal
 clear hR hn64;clear h0 h1 hz hc hb hl hg hcap
 go_enter Tryz.func54, Tryz.ntmps54
 go_wp2
 go_loopw [5] (fun vi wr => ∃ t : Nat, t <= 64 /\ vi = .int .i64 (t : Int) /\ Hid (wr.heap[w.heap.size + 1]? = some (.cells (wA (schedP b t)) 135 (0, 0))) /\ Hid (∃ Z, Z.size = 64 /\ wr.heap[w.heap.size]? = some (.cells Z 135 (0, 0))) /\ Hid (Below w.heap.size w wr)) (fun vi _ => 64 - (intOf vi).toNat)
 case atStart => exact ⟨0, by omega, rfl, by show _ = _; rw [HZ.out]; exact H1.out _, ⟨wA (List.replicate 64 0), by rw [wA_size, List.length_replicate], H0.out _⟩, HBB.out _ _⟩
 case round =>
  clear H0 H1 HZ HBB;obtain ⟨t, ht, rfl, hsc, hz, hbel⟩ := hrel
  by_cases hlt : t < 64
  ·have hd : decide ((t : Int) < 64) = true := by simp; omega
   have dl : (t : Int) < 64 := by omega
   have HT := Lib.hid hlt;have f0 := free_at hsc.out t
   have c0 := (cells_at hsc.out t).trans (wA_get _ t (by rw [schedP_len _ _ ht]; exact hlt))
   by_cases h16 : t < 16
   ·have d16 : decide ((t : Int) < 16) = true := by simp; omega
    have H16 := Lib.hid h16;obtain ⟨m, hm⟩ : ∃ m, m = 4 * t := ⟨_, rfl⟩
    have HM := Lib.hid hm;have e1 : IntKind.i64.wrap (4 * (t : Int)) = (m : Int) := by rw [IntWalk.i64_in _ (by omega)]; omega
    have e2 : IntKind.i64.wrap ((m : Int) + 4) = (m : Int) + 4 := IntWalk.i64_in _ (by omega)
    have s1 : (0 : Int) <= (m : Int) := by omega
    have s2 : (m : Int) <= (m : Int) + 4 := by omega
    have s3 : (m : Int) + 4 <= (cap : Int) := by have := HCAP.out; omega
    clear hm ht h16;go_wp2_with fail
    have hsb : ∀ j, (fun j => b.getD (m + j) 0) j < 256 := fun j => getD_b HB.out _
    refine (shigh_c g (o + m) (cap - m) (fun j => b.getD (m + j) 0) hsb wr (fun j hj => ?_)).mono ?_
    ·rw [Nat.add_assoc]; exact (hbel.out.cell (p := ⟨g, o + (m + j), none⟩) HG.out).trans (HC.out (m + j) (by have := HM.out; have := H16.out; omega))
    rintro r w' ⟨rfl, rfl⟩
    dsimp only
    obtain ⟨x, hx⟩ : ∃ x, x = be4 (b.getD (m + 0) 0) (b.getD (m + 1) 0) (b.getD (m + 2) 0) (b.getD (m + 3) 0) := ⟨_, rfl⟩
    rw [<- hx];have hxw : x = wdAt b t := by rw [hx, HM.out]; rfl
    have nb := block_at hsc.out t (.int .u32 (x : Int))
    rw [wA_set, schedP_set b t x HT.out (by rw [schedW_next, if_pos H16.out, hxw])] at nb
    have NB := Lib.hid nb
    clear hx hxw nb hsb;go_wp2
    go_roundw
    case rel =>
     obtain ⟨Z, hZ, hZ2⟩ := hz.out
     exact ⟨t + 1, by have := HT.out; omega, by go_num, NB.out, ⟨Z, hZ, (Below.heap_setCell _ _ _ _ (by simp)).trans hZ2⟩, hbel.out.setCell (by simp) _⟩
    case measure => simp [intOf]; have := HT.out; omega
   ·have d16 : decide ((t : Int) < 16) = false := by simp; omega
    have H16 := Lib.hid h16;obtain ⟨i2, hi2⟩ : ∃ i, i = t - 2 := ⟨_, rfl⟩
    have e2 : IntKind.i64.wrap ((t : Int) - 2) = (i2 : Int) := by rw [IntWalk.i64_in _ (by omega)]; omega
    have b2 : (i2 : Int) < 64 := by omega
    have n2 : ¬ (i2 : Int) < 0 := by omega
    have c2 := (cells_at hsc.out i2).trans (wA_get _ i2 (by rw [schedP_len _ _ ht]; omega))
    rw [schedP_get b t i2 (by omega)] at c2
    have l2 := getD_w (HSL.out t) i2
    have hx2 : (schedW b t).getD (t - 2) 0 = (schedW b t).getD i2 0 := by rw [hi2]
    obtain ⟨x2, hxx2⟩ : ∃ x, x = (schedW b t).getD i2 0 := ⟨_, rfl⟩
    rw [<- hxx2] at c2 l2 hx2;obtain ⟨i7, hi7⟩ : ∃ i, i = t - 7 := ⟨_, rfl⟩
    have e7 : IntKind.i64.wrap ((t : Int) - 7) = (i7 : Int) := by rw [IntWalk.i64_in _ (by omega)]; omega
    have b7 : (i7 : Int) < 64 := by omega
    have n7 : ¬ (i7 : Int) < 0 := by omega
    have c7 := (cells_at hsc.out i7).trans (wA_get _ i7 (by rw [schedP_len _ _ ht]; omega))
    rw [schedP_get b t i7 (by omega)] at c7
    have l7 := getD_w (HSL.out t) i7
    have hx7 : (schedW b t).getD (t - 7) 0 = (schedW b t).getD i7 0 := by rw [hi7]
    obtain ⟨x7, hxx7⟩ : ∃ x, x = (schedW b t).getD i7 0 := ⟨_, rfl⟩
    rw [<- hxx7] at c7 l7 hx7;obtain ⟨i15, hi15⟩ : ∃ i, i = t - 15 := ⟨_, rfl⟩
    have e15 : IntKind.i64.wrap ((t : Int) - 15) = (i15 : Int) := by rw [IntWalk.i64_in _ (by omega)]; omega
    have b15 : (i15 : Int) < 64 := by omega
    have n15 : ¬ (i15 : Int) < 0 := by omega
    have c15 := (cells_at hsc.out i15).trans (wA_get _ i15 (by rw [schedP_len _ _ ht]; omega))
    rw [schedP_get b t i15 (by omega)] at c15
    have l15 := getD_w (HSL.out t) i15
    have hx15 : (schedW b t).getD (t - 15) 0 = (schedW b t).getD i15 0 := by rw [hi15]
    obtain ⟨x15, hxx15⟩ : ∃ x, x = (schedW b t).getD i15 0 := ⟨_, rfl⟩
    rw [<- hxx15] at c15 l15 hx15;obtain ⟨i16, hi16⟩ : ∃ i, i = t - 16 := ⟨_, rfl⟩
    have e16 : IntKind.i64.wrap ((t : Int) - 16) = (i16 : Int) := by rw [IntWalk.i64_in _ (by omega)]; omega
    have b16 : (i16 : Int) < 64 := by omega
    have n16 : ¬ (i16 : Int) < 0 := by omega
    have c16 := (cells_at hsc.out i16).trans (wA_get _ i16 (by rw [schedP_len _ _ ht]; omega))
    rw [schedP_get b t i16 (by omega)] at c16
    have l16 := getD_w (HSL.out t) i16
    have hx16 : (schedW b t).getD (t - 16) 0 = (schedW b t).getD i16 0 := by rw [hi16]
    obtain ⟨x16, hxx16⟩ : ∃ x, x = (schedW b t).getD i16 0 := ⟨_, rfl⟩
    rw [<- hxx16] at c16 l16 hx16;have HM1 : Hid (∀ w, Calls Tryz.prog 75 #[.int .u32 (x2 : Int)] w fun e w' => e = .returned (.int .u32 ((sm1 x2 : Nat) : Int)) /\ w' = w) := fun w => (small1_c x2 l2 w).mono fun e w' h => ⟨h.1, h.2.symm⟩
    have HM0 : Hid (∀ w, Calls Tryz.prog 76 #[.int .u32 (x15 : Int)] w fun e w' => e = .returned (.int .u32 ((sm0 x15 : Nat) : Int)) /\ w' = w) := fun w => (small0_c x15 l15 w).mono fun e w' h => ⟨h.1, h.2.symm⟩
    have hnx : schedW b (t + 1) = schedW b t ++ [(sm1 x2 + x7 + sm0 x15 + x16) % 4294967296] := by
     rw [schedW_next, if_neg h16, hx2, hx7, hx15, hx16]
    obtain ⟨s1, hs1⟩ : ∃ s, s = sm1 x2 := ⟨_, rfl⟩
    obtain ⟨s0, hs0⟩ : ∃ s, s = sm0 x15 := ⟨_, rfl⟩
    rw [<- hs1] at HM1 hnx;rw [<- hs0] at HM0 hnx;obtain ⟨a1, ha1⟩ : ∃ a, a = (s1 + x7) % 4294967296 := ⟨_, rfl⟩
    have q1 : IntKind.u32.wrap ((s1 : Int) + (x7 : Int)) = (a1 : Int) := by rw [IntKind.wrap_u32]; omega
    obtain ⟨a2, ha2⟩ : ∃ a, a = (a1 + s0) % 4294967296 := ⟨_, rfl⟩
    have q2 : IntKind.u32.wrap ((a1 : Int) + (s0 : Int)) = (a2 : Int) := by rw [IntKind.wrap_u32]; omega
    obtain ⟨a3, ha3⟩ : ∃ a, a = (a2 + x16) % 4294967296 := ⟨_, rfl⟩
    have q3 : IntKind.u32.wrap ((a2 : Int) + (x16 : Int)) = (a3 : Int) := by rw [IntKind.wrap_u32]; omega
    rw [show (s1 + x7 + s0 + x16) % 4294967296 = a3 by omega] at hnx
    have nb := block_at hsc.out t (.int .u32 (a3 : Int))
    rw [wA_set, schedP_set b t a3 HT.out hnx] at nb
    have NB := Lib.hid nb
    clear nb hnx ha1 ha2 ha3 hs1 hs0 h16 ht hi2 hx2 hxx2 hi7 hx7 hxx7 hi15 hx15 hxx15 hi16 hx16 hxx16;go_wp2
    refine wp_region_still_tail 23 (by kernel_rfl) (by kernel_rfl) ?_
    simp only [List.take_succ_cons, List.take_zero, List.drop_succ_cons, List.drop_zero]
    change wpStill _ _ wr.drew _ _ _
    repeat still_step
    still_call (HM1.out _)
    repeat still_step
    still_call (HM0.out _)
    repeat still_step
    refine wpStill_nil ?_
    change wpList _ _ _ _ _ wr.drew
    go_wp2
    go_roundw
    case rel =>
     obtain ⟨Z, hZ, hZ2⟩ := hz.out
     exact ⟨t + 1, by have := HT.out; omega, by go_num, NB.out, ⟨Z, hZ, (Below.heap_setCell _ _ _ _ (by simp)).trans hZ2⟩, (hbel.out.setCell (by simp) _).drew⟩
    case measure => simp [intOf]; have := HT.out; omega
  ·have ht64 : t = 64 := by omega
   have hd : decide ((t : Int) < 64) = false := by simp; omega
   have hfin : wr.heap[w.heap.size + 1]? = some (.cells (wA R) 135 (0, 0)) := by
    have h := hsc.out
    have ht' : t = n64 := by rw [HN64.out]; exact ht64
    rw [HFULL.out t ht64, ht', <- HRR.out] at h
    exact h
   have HFIN := Lib.hid hfin;obtain ⟨Z, hZ, hZ2⟩ := hz.out
   have HZ := Lib.hid hZ;have HZ2 := Lib.hid hZ2;clear hfin hZ hZ2 hz hsc;go_wp2_with (first
    | (refine wpList_load_row rfl 135 (.tmp 3) rfl (w.heap.size + 1) rfl _ _ _ _ HFIN.out Tryz.underlying135 rfl (by rw [w64, wA_size, HRL.out]) ?_)
    | (refine wpList_store_row rfl 135 (.tmp 2) (.tmp 44) rfl w.heap.size (wA R) rfl rfl 135 _ HZ2.out (by rw [w64, wA_size, HRL.out]) (by rw [wA_size, HRL.out, HZ.out]) (wA_one _) ?_)
    | fail)
   exact bodyPost_ret (results_cell_row rfl _ _ w.heap.size 135 (wA R) (0, 0) _ rfl (setRow_heap _ _ _ _ _ _ HZ2.out) Tryz.underlying135 rfl (by rw [w64, wA_size, HRL.out])) rfl ⟨rfl, below_setRow hbel.out (Nat.le_refl _) _⟩
def hashA (t : Nat) (s : List Nat) (r : Value) (n : Int) : Array Value := (Value.pointer (some ⟨t, 0, none⟩) :: ((s.map fun (x : Nat) => Value.int .u32 (x : Int)) ++ [r, .int .i64 n])).toArray
theorem hash_word (t : Nat) (s : List Nat) (r : Value) (n : Int) (k : Nat) (h : k < s.length) : (hashA t s r n)[1 + k]? = some (.int .u32 ((s.getD k 0 : Nat) : Int)) := by
 unfold hashA;rw [Nat.add_comm 1 k]
 simp [List.getElem?_append_left, h]
theorem hash_set (t : Nat) (s : List Nat) (r : Value) (n : Int) (k x : Nat) (h : k < s.length) : (hashA t s r n).setIfInBounds (1 + k) (.int .u32 (x : Int)) = hashA t (s.set k x) r n := by
 unfold hashA;rw [Nat.add_comm 1 k]
 simp [List.set_append_left, h, List.map_set]
theorem eight53 : (Tryz.prog.info? 62).map (·.size) = some 8 := by kernel_rfl
theorem tab_range {w : World} {t : Nat} (h : w.heap[t]? = some (.cells (wA (KT ++ HL)) 64 (0, 0))) : w.rangeAt t 64 (wA HL).toList := by
 intro j v hv;have hj : j < 8 := by
  have := (List.getElem?_eq_some_iff.1 hv).1
  simpa [wA, HL] using this
 rw [cells_at h (64 + j), wA_get _ _ (by rw [List.length_append, KT_len, HL_len]; omega), List.getD_eq_getElem?_getD, List.getElem?_append_right (by rw [KT_len]; omega), KT_len, Nat.add_sub_cancel_left, <- List.getD_eq_getElem?_getD]
 rw [Array.getElem?_toList, wA_get _ j (by rw [HL_len]; exact hj)] at hv
 exact hv
theorem index_h (k : Nat) (hk : k < 8) (w : World) : (Instr.index 62 (.agg (wA HL)) (.int .i64 (k : Int))).run Tryz.prog w = .ok (.int .u32 ((HL.getD k 0 : Nat) : Int)) w := by
 rcases (by omega : k = 0 \/ k = 1 \/ k = 2 \/ k = 3 \/ k = 4 \/ k = 5 \/ k = 6 \/ k = 7) with rfl | rfl | rfl | rfl | rfl | rfl | rfl | rfl <;> rfl
theorem hnew_c (t : Nat) (w : World) (hT : w.heap[t]? = some (.cells (wA (KT ++ HL)) 64 (0, 0))) :
  Calls Tryz.prog 25 #[.pointer (some ⟨t, 0, none⟩)] w fun e w' => e = .returned (.pointer (some ⟨w.heap.size, 0, none⟩)) /\ w'.heap[w.heap.size]? = some (.cells (hashA t HL (.slice none 0 0) 0) 100 (0, 0)) /\ Below w.heap.size w w' := by
 have H0 : Hid ((w.alloc (.cells (hashA t (partW HL 0) (.slice none 0 0) 0) 100)).heap[w.heap.size]? = some (.cells (hashA t (partW HL 0) (.slice none 0 0) 0) 100 (0, 0))) := heap_new' _ _
 have HB0 : Hid (Below w.heap.size w (w.alloc (.cells (hashA t (partW HL 0) (.slice none 0 0) 0) 100))) := (Below.refl _ _).alloc (Nat.le_refl _) _
 have HR : Hid (∀ w', Below w.heap.size w w' -> w'.rangeAt t 64 (wA HL).toList) := fun w' h => tab_range ((h.block _ (lt_of_block hT)).trans hT)
 clear hT
 go_enter Tryz.func25, Tryz.ntmps25
 go_wp2_with (first
  | (refine wpList_load_mid rfl 62 (.tmp 13) rfl t 64 rfl _ _ (HR.out _ HB0.out) Tryz.underlying62 rfl (by rw [eight53]; rfl) ?_)
  | fail)
 go_loopw [15] (fun vi wr => ∃ k : Nat, k <= 8 /\ vi = .int .i64 (k : Int) /\ Hid (wr.heap[w.heap.size]? = some (.cells (hashA t (partW HL k) (.slice none 0 0) 0) 100 (0, 0))) /\ Hid (Below w.heap.size w wr)) (fun vi _ => 8 - (intOf vi).toNat)
 case atStart => exact ⟨0, by omega, rfl, H0.out, HB0.out⟩
 case round =>
  clear H0 HB0 HR;obtain ⟨k, hk, rfl, hh, hbel⟩ := hrel
  have hpl : (partW HL k).length = 8 := by rw [partW_len _ _ (by rw [HL_len]; exact hk), HL_len]
  by_cases hlt : k < 8
  ·have hd : decide ((k : Int) < 8) = true := by simp; omega
   have dl : (k : Int) < 8 := by omega
   have hv := index_h k hlt
   have hxl : HL.getD k 0 < 4294967296 := (by decide : ∀ k, k < 8 -> HL.getD k 0 < 4294967296) k hlt
   have f0 := free_at hh.out (1 + k)
   have c0 := (cells_at hh.out (1 + k)).trans (hash_word t _ _ _ k (by rw [hpl]; exact hlt))
   have hset := partW_set HL k (by rw [HL_len]; exact hlt)
   obtain ⟨x, hx⟩ : ∃ x, x = HL.getD k 0 := ⟨_, rfl⟩
   rw [<- hx] at hv hset hxl;have ew : IntKind.u32.wrap (x : Int) = (x : Int) := by rw [IntKind.wrap_u32]; omega
   have nb := block_at hh.out (1 + k) (.int .u32 (x : Int))
   rw [hash_set t _ _ _ k x (by rw [hpl]; exact hlt), hset] at nb
   have NB := Lib.hid nb
   have HK := Lib.hid hlt;clear hset hx nb hpl hk hxl;go_wp2
   go_roundw
   case rel => exact ⟨k + 1, by have := HK.out; omega, by go_num, NB.out, hbel.out.setCell (by simp) _⟩
   case measure => simp [intOf]; have := HK.out; omega
  ·have hk8 : k = 8 := by omega
   have hd : decide ((k : Int) < 8) = false := by simp; omega
   have HF : Hid (wr.heap[w.heap.size]? = some (.cells (hashA t HL (.slice none 0 0) 0) 100 (0, 0))) := by
    have h := hh.out
    rw [hk8, <- HL_len, partW_full] at h
    exact h
   clear hh hpl hk;go_wp2
   go_ret
   exact ⟨rfl, HF.out, hbel.out⟩
end Go.Proofs.YtnmdjggdgakeoaaGreat
