/- SHA-256 on natural numbers: plain, no program in sight. -/
import Derived.Test.YthpglpnonecnfaaLib
set_option linter.unusedVariables false
namespace Go.Proofs.Ythpglpnonecnfaa.Sha
def M32 : Nat := 4294967296
def shl (x s : Nat) : Nat := x * 2 ^ s % 4294967296
def shr (x s : Nat) : Nat := x / 2 ^ s
/-- turned to the right by k -/
def rotr (x k : Nat) : Nat := shl x (32 - k) ||| shr x k
def sm0 (x : Nat) : Nat := rotr x 7 ^^^ rotr x 18 ^^^ shr x 3
def sm1 (x : Nat) : Nat := rotr x 17 ^^^ rotr x 19 ^^^ shr x 10
def gr0 (x : Nat) : Nat := rotr x 2 ^^^ rotr x 13 ^^^ rotr x 22
def gr1 (x : Nat) : Nat := rotr x 6 ^^^ rotr x 11 ^^^ rotr x 25
def inv (x : Nat) : Nat := x ^^^ 4294967295
def ch (e f g : Nat) : Nat := (e &&& f) ^^^ (inv e &&& g)
def maj (a b c : Nat) : Nat := (a &&& b) ^^^ (a &&& c) ^^^ (b &&& c)
theorem ch_ref (e f g : Nat) (hg : g < 4294967296) : g ^^^ (e &&& (f ^^^ g)) = ch e f g := by
  apply Nat.eq_of_testBit_eq
  intro i
  have hinv : (inv e).testBit i = (e.testBit i ^^ decide (i < 32)) := by
    unfold inv
    rw [Nat.testBit_xor, show (4294967295 : Nat) = 2 ^ 32 - 1 from rfl, Nat.testBit_two_pow_sub_one]
  unfold ch
  simp only [Nat.testBit_xor, Nat.testBit_and, hinv]
  by_cases h : i < 32
  · simp only [h, decide_true]
    cases e.testBit i <;> cases f.testBit i <;> cases g.testBit i <;> rfl
  · have hg0 : g.testBit i = false := Nat.testBit_lt_two_pow (Nat.lt_of_lt_of_le hg (Nat.pow_le_pow_right (show 0 < 2 by decide) (show 32 ≤ i by omega)))
    simp only [h, hg0, decide_false]
    cases e.testBit i <;> cases f.testBit i <;> rfl
theorem maj_ref (a b c : Nat) : (a &&& b) ||| (c &&& (a ||| b)) = maj a b c := by
  apply Nat.eq_of_testBit_eq
  intro i
  unfold maj
  simp only [Nat.testBit_xor, Nat.testBit_and, Nat.testBit_or]
  cases a.testBit i <;> cases b.testBit i <;> cases c.testBit i <;> rfl
/-- four bytes, the highest first -/
def be4 (a b c d : Nat) : Nat := ((a * 256 + b) * 256 + c) * 256 + d
def wdAt (b : List Nat) (t : Nat) : Nat := be4 (b.getD (4 * t) 0) (b.getD (4 * t + 1) 0) (b.getD (4 * t + 2) 0) (b.getD (4 * t + 3) 0)
/-- the first t words of a block's schedule -/
def schedW (b : List Nat) : Nat → List Nat
  | 0 => []
  | t + 1 => schedW b t ++ [if t < 16 then wdAt b t else (sm1 ((schedW b t).getD (t - 2) 0) + (schedW b t).getD (t - 7) 0 + sm0 ((schedW b t).getD (t - 15) 0) + (schedW b t).getD (t - 16) 0) % 4294967296]
theorem schedW_len (b : List Nat) : ∀ t, (schedW b t).length = t
  | 0 => rfl
  | t + 1 => by rw [schedW, List.length_append, schedW_len b t]; rfl
structure St where
  a : Nat
  b : Nat
  c : Nat
  d : Nat
  e : Nat
  f : Nat
  g : Nat
  h : Nat
  deriving DecidableEq
def St.step (s : St) (k w : Nat) : St :=
  let t1 := (s.h + gr1 s.e + ch s.e s.f s.g + k + w) % 4294967296
  let t2 := (gr0 s.a + maj s.a s.b s.c) % 4294967296
  ⟨(t1 + t2) % 4294967296, s.a, s.b, s.c, (s.d + t1) % 4294967296, s.e, s.f, s.g⟩
def St.add (s t : St) : St := ⟨(s.a + t.a) % 4294967296, (s.b + t.b) % 4294967296, (s.c + t.c) % 4294967296, (s.d + t.d) % 4294967296, (s.e + t.e) % 4294967296, (s.f + t.f) % 4294967296, (s.g + t.g) % 4294967296, (s.h + t.h) % 4294967296⟩
/-- the words of the standard -/
def KT : List Nat := [0x428a2f98, 0x71374491, 0xb5c0fbcf, 0xe9b5dba5, 0x3956c25b, 0x59f111f1, 0x923f82a4, 0xab1c5ed5, 0xd807aa98, 0x12835b01, 0x243185be, 0x550c7dc3, 0x72be5d74, 0x80deb1fe, 0x9bdc06a7, 0xc19bf174, 0xe49b69c1, 0xefbe4786, 0x0fc19dc6, 0x240ca1cc, 0x2de92c6f, 0x4a7484aa, 0x5cb0a9dc, 0x76f988da, 0x983e5152, 0xa831c66d, 0xb00327c8, 0xbf597fc7, 0xc6e00bf3, 0xd5a79147, 0x06ca6351, 0x14292967, 0x27b70a85, 0x2e1b2138, 0x4d2c6dfc, 0x53380d13, 0x650a7354, 0x766a0abb, 0x81c2c92e, 0x92722c85, 0xa2bfe8a1, 0xa81a664b, 0xc24b8b70, 0xc76c51a3, 0xd192e819, 0xd6990624, 0xf40e3585, 0x106aa070, 0x19a4c116, 0x1e376c08, 0x2748774c, 0x34b0bcb5, 0x391c0cb3, 0x4ed8aa4a, 0x5b9cca4f, 0x682e6ff3, 0x748f82ee, 0x78a5636f, 0x84c87814, 0x8cc70208, 0x90befffa, 0xa4506ceb, 0xbef9a3f7, 0xc67178f2]
def HT : St := ⟨0x6a09e667, 0xbb67ae85, 0x3c6ef372, 0xa54ff53a, 0x510e527f, 0x9b05688c, 0x1f83d9ab, 0x5be0cd19⟩
/-- the state behind t steps of a block -/
def stepsN (s : St) (w : List Nat) : Nat → St
  | 0 => s
  | t + 1 => (stepsN s w t).step (KT.getD t 0) (w.getD t 0)
def blockN (s : St) (b : List Nat) : St := s.add (stepsN s (schedW b 64) 64)
/-- the state behind k blocks of bytes -/
def blocksN (m : List Nat) : Nat → St
  | 0 => HT
  | k + 1 => blockN (blocksN m k) ((m.drop (64 * k)).take 64)
def be8 (n k : Nat) : Nat := n / 2 ^ (8 * (7 - k)) % 256
/-- what stands behind n bytes -/
def padL (n : Nat) : List Nat := 128 :: (List.replicate ((119 - n % 64) % 64) 0 ++ (List.range 8).map (be8 (8 * n)))
theorem padL_len (n : Nat) : (n + (padL n).length) % 64 = 0 := by simp [padL]; omega
def outW (w : Nat) : List Nat := [w / 16777216 % 256, w / 65536 % 256, w / 256 % 256, w % 256]
def St.out (s : St) : List Nat := outW s.a ++ outW s.b ++ outW s.c ++ outW s.d ++ outW s.e ++ outW s.f ++ outW s.g ++ outW s.h
/-- the sum of bytes -/
def sumN (m : List Nat) : List Nat := (blocksN (m ++ padL m.length) ((m.length + (padL m.length).length) / 64)).out
theorem sum_len (m : List Nat) : (sumN m).length = 32 := by simp [sumN, St.out, outW]
/-! products of two words, by halves -/
theorem mul_halves (x y : Nat) (hx : x < 18446744073709551616) (hy : y < 18446744073709551616) :
    (x / 4294967296) * (y % 4294967296) + (x % 4294967296) * (y % 4294967296) / 4294967296 < 18446744073709551616 ∧
    ((x / 4294967296) * (y % 4294967296) + (x % 4294967296) * (y % 4294967296) / 4294967296) % 4294967296 + (x % 4294967296) * (y / 4294967296) < 18446744073709551616 ∧
    (x / 4294967296) * (y / 4294967296) + ((x / 4294967296) * (y % 4294967296) + (x % 4294967296) * (y % 4294967296) / 4294967296) / 4294967296 +
      (((x / 4294967296) * (y % 4294967296) + (x % 4294967296) * (y % 4294967296) / 4294967296) % 4294967296 + (x % 4294967296) * (y / 4294967296)) / 4294967296 = x * y / 18446744073709551616 := by
  obtain ⟨x1, hx1⟩ : ∃ a, a = x / 4294967296 := ⟨_, rfl⟩
  obtain ⟨x0, hx0⟩ : ∃ a, a = x % 4294967296 := ⟨_, rfl⟩
  obtain ⟨y1, hy1⟩ : ∃ a, a = y / 4294967296 := ⟨_, rfl⟩
  obtain ⟨y0, hy0⟩ : ∃ a, a = y % 4294967296 := ⟨_, rfl⟩
  have ex : x = x1 * 4294967296 + x0 := by omega
  have ey : y = y1 * 4294967296 + y0 := by omega
  have bx1 : x1 ≤ 4294967295 := by omega
  have bx0 : x0 ≤ 4294967295 := by omega
  have by1 : y1 ≤ 4294967295 := by omega
  have by0 : y0 ≤ 4294967295 := by omega
  rw [← hx1, ← hx0, ← hy1, ← hy0]
  have e : x * y = x1 * y1 * 18446744073709551616 + (x1 * y0 + x0 * y1) * 4294967296 + x0 * y0 := by
    rw [ex, ey, Nat.add_mul, Nat.mul_add, Nat.mul_add]
    rw [show x1 * 4294967296 * (y1 * 4294967296) = x1 * y1 * 18446744073709551616 by rw [Nat.mul_mul_mul_comm], show x1 * 4294967296 * y0 = x1 * y0 * 4294967296 by rw [Nat.mul_right_comm], show x0 * (y1 * 4294967296) = x0 * y1 * 4294967296 by rw [Nat.mul_assoc]]
    omega
  have b11 := Nat.mul_le_mul bx1 by1
  have b10 := Nat.mul_le_mul bx1 by0
  have b01 := Nat.mul_le_mul bx0 by1
  have b00 := Nat.mul_le_mul bx0 by0
  rw [e]
  generalize x1 * y1 = p11 at *
  generalize x1 * y0 = p10 at *
  generalize x0 * y1 = p01 at *
  generalize x0 * y0 = p00 at *
  clear hx1 hx0 hy1 hy0 ex ey e
  refine ⟨by omega, by omega, by omega⟩
/-! the program's table: roots of primes -/
def mulH (x y : Nat) : Nat := x * y / 18446744073709551616
def mulL (x y : Nat) : Nat := x * y % 18446744073709551616
def squareF (p x : Nat) : Bool := decide (mulH x x < p) || (mulH x x == p && mulL x x == 0)
def cubeF (p x : Nat) : Bool :=
  let hi := (mulH (mulL x x) x + mulL (mulH x x) x) % 18446744073709551616
  let q := p * 4294967296 % 18446744073709551616
  decide (hi < q) || (hi == q && mulL (mulL x x) x == 0)
/-- n bits, from the highest -/
def behindN (f : Nat → Bool) : Nat → Nat → Nat
  | 0, x => x
  | n + 1, x => behindN f n (if f (x ||| 2 ^ n) then x ||| 2 ^ n else x)
def primeL : List Nat := [2, 3, 5, 7, 11, 13, 17, 19, 23, 29, 31, 37, 41, 43, 47, 53, 59, 61, 67, 71, 73, 79, 83, 89, 97, 101, 103, 107, 109, 113, 127, 131, 137, 139, 149, 151, 157, 163, 167, 173, 179, 181, 191, 193, 197, 199, 211, 223, 227, 229, 233, 239, 241, 251, 257, 263, 269, 271, 277, 281, 283, 293, 307, 311]
set_option maxRecDepth 100000 in
theorem table_k : ∀ k, k < 64 → behindN (cubeF (primeL.getD k 0)) 38 0 % 4294967296 = KT.getD k 0 := by decide +kernel
/-- no divisor from d on whose square is at most n (f: steps) -/
def noDiv (n : Nat) : Nat → Nat → Bool
  | 0, _ => true
  | f + 1, d => if d * d ≤ n then (if n % d = 0 then false else noDiv n f (d + 1)) else true
def isP (n : Nat) : Bool := noDiv n 20 2
/-- how many of the first 64 primes are at most n -/
def cntP (n : Nat) : Nat := (primeL.filter (fun p => decide (p ≤ n))).length
set_option maxRecDepth 100000 in
theorem isP_list : ∀ n, n < 312 → 2 ≤ n → isP n = primeL.contains n := by decide +kernel
set_option maxRecDepth 100000 in
theorem cntP_next : ∀ n, n < 311 → cntP (n + 1) = cntP n + (if 2 ≤ n + 1 ∧ isP (n + 1) = true then 1 else 0) := by decide +kernel
theorem cntP_one : cntP 1 = 0 := by decide +kernel
set_option maxRecDepth 100000 in
theorem cntP_most : ∀ n, n < 311 → cntP n < 64 := by decide +kernel
theorem cntP_all : cntP 311 = 64 := by decide +kernel
set_option maxRecDepth 100000 in
theorem cntP_at : ∀ n, n < 312 → 2 ≤ n → isP n = true → primeL.getD (cntP n - 1) 0 = n := by decide +kernel
def HL : List Nat := [0x6a09e667, 0xbb67ae85, 0x3c6ef372, 0xa54ff53a, 0x510e527f, 0x9b05688c, 0x1f83d9ab, 0x5be0cd19]
set_option maxRecDepth 100000 in
theorem table_h : ∀ k, k < 8 → behindN (squareF (primeL.getD k 0)) 38 0 % 4294967296 = HL.getD k 0 := by decide +kernel
set_option maxRecDepth 100000 in
/-- the standard's example -/
theorem sum_abc : sumN [97, 98, 99] = [186, 120, 22, 191, 143, 1, 207, 234, 65, 65, 64, 222, 93, 174, 34, 35, 176, 3, 97, 163, 150, 23, 122, 156, 180, 16, 255, 97, 242, 0, 21, 173] := by decide +kernel
end Go.Proofs.Ythpglpnonecnfaa.Sha
