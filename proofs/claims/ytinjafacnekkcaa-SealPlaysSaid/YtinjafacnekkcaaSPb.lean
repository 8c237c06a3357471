/- Texts GfMath, GfA, GfB, GfT, GfC, GfD, GfE, put together by pack.py. -/
import Derived.Test.YtinjafacnekkcaaProg
import Derived.Test.YtinjafacnekkcaaSPa
set_option linter.unusedVariables false
set_option linter.unusedSimpArgs false
namespace Go.Proofs.Ytinjafacnekkcaa.GfM
/-- times 2 in the field -/
def tw (a : Nat) : Nat := (a * 2 % 256) ^^^ (27 * (a / 128))
def mulGo : Nat → Nat → Nat → Nat → Nat
  | 0, o, _, _ => o
  | n + 1, o, a, b => mulGo n (o ^^^ a * (b % 2)) (tw a) (b / 2)
def gmul (a b : Nat) : Nat := mulGo 8 0 a b
/-- the reference's long product -/
def refP : Nat → Nat → Nat → Nat → Nat → Nat
  | 0, p, _, _, _ => p
  | n + 1, p, w, a, b => refP n (p ^^^ a * w * (b / w % 2)) (2 * w) a b
def refR : Nat → Nat → Nat
  | 0, p => p
  | k + 1, p => refR k (p ^^^ 283 * 2 ^ k * (p / 2 ^ (k + 8) % 2))
def refMul (a b : Nat) : Nat := refR 7 (refP 8 0 1 a b) % 256
theorem mod2_xor (a b : Nat) : (a ^^^ b) % 2 = a % 2 ^^^ b % 2 := by
  have := Nat.xor_mod_two_pow (a := a) (b := b) (n := 1); simpa using this
theorem div2_xor (a b : Nat) : (a ^^^ b) / 2 = a / 2 ^^^ b / 2 := by
  have := Nat.shiftRight_xor_distrib (a := a) (b := b) (i := 1); simpa [Nat.shiftRight_eq_div_pow] using this
theorem div128_xor (a b : Nat) : (a ^^^ b) / 128 = a / 128 ^^^ b / 128 := by
  have := Nat.shiftRight_xor_distrib (a := a) (b := b) (i := 7); simpa [Nat.shiftRight_eq_div_pow] using this
theorem mul2_xor (a b : Nat) : (a ^^^ b) * 2 = a * 2 ^^^ b * 2 := by
  have := Nat.shiftLeft_xor_distrib (a := a) (b := b) (i := 1); simpa [Nat.shiftLeft_eq] using this
theorem mod256_xor (a b : Nat) : (a ^^^ b) % 256 = a % 256 ^^^ b % 256 := Nat.xor_mod_two_pow (n := 8)
theorem bit_lt (a : Nat) : a % 2 = 0 ∨ a % 2 = 1 := by omega
theorem mul_bit_left (a a' x : Nat) (hx : x = 0 ∨ x = 1) : (a ^^^ a') * x = a * x ^^^ a' * x := by
  rcases hx with rfl | rfl <;> simp
theorem mul_bit_right (a x y : Nat) (hx : x = 0 ∨ x = 1) (hy : y = 0 ∨ y = 1) : a * (x ^^^ y) = a * x ^^^ a * y := by
  rcases hx with rfl | rfl <;> rcases hy with rfl | rfl <;> simp
theorem xor4 (a b c d : Nat) : (a ^^^ b) ^^^ (c ^^^ d) = (a ^^^ c) ^^^ (b ^^^ d) := by
  ac_rfl
theorem tw_xor (a b : Nat) (ha : a < 256) (hb : b < 256) : tw (a ^^^ b) = tw a ^^^ tw b := by
  unfold tw
  rw [mul2_xor, mod256_xor, div128_xor, mul_bit_right 27 _ _ (by omega) (by omega), xor4]
theorem tw_lt (a : Nat) (ha : a < 256) : tw a < 256 := by
  unfold tw; exact Nat.xor_lt_two_pow (n := 8) (by omega) (by omega)
theorem xor_lt (a b : Nat) (ha : a < 256) (hb : b < 256) : a ^^^ b < 256 := Nat.xor_lt_two_pow (n := 8) ha hb
theorem mb_lt (a b : Nat) (ha : a < 256) : a * (b % 2) < 256 := by rcases bit_lt b with h | h <;> rw [h] <;> omega
theorem mulGo_lt (n o a b : Nat) (ho : o < 256) (ha : a < 256) : mulGo n o a b < 256 := by
  induction n generalizing o a b with
  | zero => exact ho
  | succ n ih => exact ih _ _ _ (xor_lt _ _ ho (mb_lt a b ha)) (tw_lt a ha)
theorem gmul_lt (a b : Nat) (ha : a < 256) : gmul a b < 256 := mulGo_lt 8 0 a b (by omega) ha
theorem mulGo_left (n o o' a a' b : Nat) (ha : a < 256) (ha' : a' < 256) :
    mulGo n (o ^^^ o') (a ^^^ a') b = mulGo n o a b ^^^ mulGo n o' a' b := by
  induction n generalizing o o' a a' b with
  | zero => rfl
  | succ n ih =>
    simp only [mulGo]
    rw [mul_bit_left _ _ _ (bit_lt b), xor4, tw_xor a a' ha ha']
    exact ih _ _ _ _ _ (tw_lt a ha) (tw_lt a' ha')
theorem mulGo_right (n o o' a b b' : Nat) : mulGo n (o ^^^ o') a (b ^^^ b') = mulGo n o a b ^^^ mulGo n o' a b' := by
  induction n generalizing o o' a b b' with
  | zero => rfl
  | succ n ih =>
    simp only [mulGo]
    rw [mod2_xor, div2_xor, mul_bit_right _ _ _ (bit_lt b) (bit_lt b'), xor4]
    exact ih _ _ _ _ _
theorem gmul_left (a a' b : Nat) (ha : a < 256) (ha' : a' < 256) : gmul (a ^^^ a') b = gmul a b ^^^ gmul a' b :=
  mulGo_left 8 0 0 a a' b ha ha'
theorem gmul_right (a b b' : Nat) : gmul a (b ^^^ b') = gmul a b ^^^ gmul a b' := mulGo_right 8 0 0 a b b'
/-- what holds of the eight powers and is kept by sums holds of each byte -/
theorem by_bits (p : Nat → Prop) (h0 : p 0) (hb : ∀ k, k < 8 → p (2 ^ k)) (hx : ∀ a b, a < 256 → b < 256 → p a → p b → p (a ^^^ b)) :
    ∀ a, a < 256 → p a := by
  have key : ∀ n, n ≤ 8 → ∀ a, a < 2 ^ n → p a := by
    intro n
    induction n with
    | zero => intro _ a ha; have : a = 0 := by simpa using ha
              exact this ▸ h0
    | succ n ih =>
      intro hn a ha
      have h8 : 2 ^ n ≤ 2 ^ 7 := Nat.pow_le_pow_right (by decide) (by omega)
      by_cases h : a < 2 ^ n
      · exact ih (by omega) a h
      · have e : a = 2 ^ n ^^^ (a - 2 ^ n) := by
          have hlt : a - 2 ^ n < 2 ^ n := by rw [Nat.pow_succ] at ha; omega
          have := Nat.two_pow_add_eq_or_of_lt hlt 1
          have h2 : 2 ^ n ^^^ (a - 2 ^ n) = 2 ^ n ||| (a - 2 ^ n) := by
            apply Nat.eq_of_testBit_eq; intro i
            rw [Nat.testBit_xor, Nat.testBit_or, Nat.testBit_two_pow]
            by_cases hi : n = i
            · subst hi; rw [Nat.testBit_lt_two_pow hlt]; simp
            · simp [hi]
          rw [h2]; simp at this; omega
        have hlt : a - 2 ^ n < 2 ^ n := by rw [Nat.pow_succ] at ha; omega
        rw [e]
        exact hx _ _ (by omega) (by omega) (hb n (by omega)) (ih (by omega) _ hlt)
  intro a ha
  exact key 8 (by omega) a ha
theorem gmul_zero_left (b : Nat) : gmul 0 b = 0 := by
  have := gmul_left 0 0 b (by omega) (by omega); simpa using this
theorem gmul_zero_right (a : Nat) : gmul a 0 = 0 := by
  have := gmul_right a 0 0; simpa using this
theorem comm_all : ∀ i, i < 8 → ∀ j, j < 8 → gmul (2 ^ i) (2 ^ j) = gmul (2 ^ j) (2 ^ i) := by decide +kernel
theorem gmul_comm (a b : Nat) (ha : a < 256) (hb : b < 256) : gmul a b = gmul b a := by
  revert b
  refine by_bits (fun a => ∀ b, b < 256 → gmul a b = gmul b a) ?_ ?_ ?_ a ha
  · intro b _; rw [gmul_zero_left, gmul_zero_right]
  · intro i hi b hb
    refine by_bits (fun b => gmul (2 ^ i) b = gmul b (2 ^ i)) ?_ ?_ ?_ b hb
    · show _ = _; rw [gmul_zero_left, gmul_zero_right]
    · intro j hj; exact comm_all i hi j hj
    · intro x y hx hy h1 h2; show _ = _; rw [gmul_right, gmul_left _ _ _ hx hy, h1, h2]
  · intro x y hx hy h1 h2 b hb; show _ = _; rw [gmul_left _ _ _ hx hy, gmul_right, h1 b hb, h2 b hb]
theorem assoc_all : ∀ i, i < 8 → ∀ j, j < 8 → ∀ k, k < 8 → gmul (2 ^ i) (gmul (2 ^ j) (2 ^ k)) = gmul (gmul (2 ^ i) (2 ^ j)) (2 ^ k) := by decide +kernel
theorem gmul_assoc (a b c : Nat) (ha : a < 256) (hb : b < 256) (hc : c < 256) : gmul a (gmul b c) = gmul (gmul a b) c := by
  revert b c
  refine by_bits (fun a => ∀ b c, b < 256 → c < 256 → gmul a (gmul b c) = gmul (gmul a b) c) ?_ ?_ ?_ a ha
  · intro b c _ _; simp only [gmul_zero_left]
  · intro i hi b c hb
    revert c
    refine by_bits (fun b => ∀ c, c < 256 → gmul (2 ^ i) (gmul b c) = gmul (gmul (2 ^ i) b) c) ?_ ?_ ?_ b hb
    · intro c _; simp only [gmul_zero_left, gmul_zero_right]
    · intro j hj c hc
      refine by_bits (fun c => gmul (2 ^ i) (gmul (2 ^ j) c) = gmul (gmul (2 ^ i) (2 ^ j)) c) ?_ ?_ ?_ c hc
      · simp only [gmul_zero_right]
      · intro k hk; exact assoc_all i hi j hj k hk
      · intro x y hx hy h1 h2; show _ = _; rw [gmul_right, gmul_right, gmul_right, h1, h2]
    · intro x y hx hy h1 h2 c hc
      have hi' : (2 : Nat) ^ i < 256 := by have := Nat.pow_le_pow_right (n := 2) (by decide) (show i ≤ 7 by omega); omega
      show _ = _; rw [gmul_left _ _ _ hx hy, gmul_right, gmul_right, gmul_left _ _ _ (gmul_lt _ _ hi') (gmul_lt _ _ hi'), h1 c hc, h2 c hc]
  · intro x y hx hy h1 h2 b c hb hc; show _ = _
    rw [gmul_left _ _ _ hx hy, gmul_left _ _ _ hx hy, gmul_left _ _ _ (gmul_lt _ _ hx) (gmul_lt _ _ hy), h1 b c hb hc, h2 b c hb hc]
theorem one_all : ∀ i, i < 8 → gmul (2 ^ i) 1 = 2 ^ i := by decide +kernel
theorem gmul_one (a : Nat) (ha : a < 256) : gmul a 1 = a := by
  refine by_bits (fun a => gmul a 1 = a) (gmul_zero_left 1) one_all ?_ a ha
  intro x y hx hy h1 h2; show _ = _; rw [gmul_left _ _ _ hx hy, h1, h2]
theorem divp_xor (a b k : Nat) : (a ^^^ b) / 2 ^ k = a / 2 ^ k ^^^ b / 2 ^ k := by
  have := Nat.shiftRight_xor_distrib (a := a) (b := b) (i := k); simpa [Nat.shiftRight_eq_div_pow] using this
theorem refP_right (n k p p' a b b' : Nat) : refP n (p ^^^ p') (2 ^ k) a (b ^^^ b') = refP n p (2 ^ k) a b ^^^ refP n p' (2 ^ k) a b' := by
  induction n generalizing p p' k with
  | zero => rfl
  | succ n ih =>
    simp only [refP]
    rw [divp_xor, mod2_xor, mul_bit_right _ _ _ (bit_lt _) (bit_lt _), xor4, show 2 * 2 ^ k = 2 ^ (k + 1) by rw [Nat.pow_succ]; omega]
    exact ih _ _ _
theorem refP_left (n k p p' a a' b : Nat) : refP n (p ^^^ p') (2 ^ k) (a ^^^ a') b = refP n p (2 ^ k) a b ^^^ refP n p' (2 ^ k) a' b := by
  induction n generalizing p p' k with
  | zero => rfl
  | succ n ih =>
    simp only [refP]
    have h : (a ^^^ a') * 2 ^ k = a * 2 ^ k ^^^ a' * 2 ^ k := by
      have := Nat.shiftLeft_xor_distrib (a := a) (b := a') (i := k); simpa [Nat.shiftLeft_eq] using this
    rw [h, mul_bit_left _ _ _ (bit_lt _), xor4, show 2 * 2 ^ k = 2 ^ (k + 1) by rw [Nat.pow_succ]; omega]
    exact ih _ _ _
theorem refR_xor (k p p' : Nat) : refR k (p ^^^ p') = refR k p ^^^ refR k p' := by
  induction k generalizing p p' with
  | zero => rfl
  | succ n ih =>
    simp only [refR]
    rw [divp_xor, mod2_xor, mul_bit_right _ _ _ (bit_lt _) (bit_lt _), xor4]
    exact ih _ _
theorem refMul_right (a b b' : Nat) : refMul a (b ^^^ b') = refMul a b ^^^ refMul a b' := by
  have h := refP_right 8 0 0 0 a b b'
  unfold refMul; rw [show (1 : Nat) = 2 ^ 0 from rfl, ← mod256_xor, ← refR_xor, ← h]; rfl
theorem refMul_left (a a' b : Nat) : refMul (a ^^^ a') b = refMul a b ^^^ refMul a' b := by
  have h := refP_left 8 0 0 0 a a' b
  unfold refMul; rw [show (1 : Nat) = 2 ^ 0 from rfl, ← mod256_xor, ← refR_xor, ← h]; rfl
theorem refMul_all : ∀ i, i < 8 → ∀ j, j < 8 → refMul (2 ^ i) (2 ^ j) = gmul (2 ^ i) (2 ^ j) := by decide +kernel
theorem refMul_eq (a b : Nat) (ha : a < 256) (hb : b < 256) : refMul a b = gmul a b := by
  revert b
  refine by_bits (fun a => ∀ b, b < 256 → refMul a b = gmul a b) ?_ ?_ ?_ a ha
  · intro b _; show _ = _; rw [gmul_zero_left]; have := refMul_left 0 0 b; simpa using this
  · intro i hi b hb
    refine by_bits (fun b => refMul (2 ^ i) b = gmul (2 ^ i) b) ?_ ?_ ?_ b hb
    · show _ = _; rw [gmul_zero_right]; have := refMul_right (2 ^ i) 0 0; simpa using this
    · intro j hj; exact refMul_all i hi j hj
    · intro x y hx hy h1 h2; show _ = _; rw [refMul_right, gmul_right, h1, h2]
  · intro x y hx hy h1 h2 b hb; show _ = _; rw [refMul_left, gmul_left _ _ _ hx hy, h1 b hb, h2 b hb]
/-- powers: the program's, by the number's bits -/
def powGo : Nat → Nat → Nat → Nat → Nat
  | 0, o, _, _ => o
  | f + 1, o, a, n => if n = 0 then o else powGo f (if n % 2 = 1 then gmul o a else o) (gmul a a) (n / 2)
def powN : Nat → Nat → Nat
  | _, 0 => 1
  | a, n + 1 => gmul (powN a n) a
def ginv (a : Nat) : Nat := powGo 8 1 a 254
theorem powN_lt (a n : Nat) : powN a n < 256 := by
  induction n with
  | zero => show 1 < 256; omega
  | succ n ih => exact gmul_lt _ _ ih
theorem powN_sq (a n : Nat) (ha : a < 256) : powN (gmul a a) n = powN a (2 * n) := by
  induction n with
  | zero => rfl
  | succ n ih =>
    show gmul (powN (gmul a a) n) (gmul a a) = gmul (gmul (powN a (2 * n)) a) a
    rw [ih, gmul_assoc _ _ _ (powN_lt _ _) ha ha]
theorem powGo_eq (f o a n : Nat) (hf : n < 2 ^ f) (ho : o < 256) (ha : a < 256) : powGo f o a n = gmul o (powN a n) := by
  induction f generalizing o a n with
  | zero => have : n = 0 := by simpa using hf
            subst this; show o = gmul o 1; rw [gmul_one _ ho]
  | succ f ih =>
    simp only [powGo]
    by_cases h0 : n = 0
    · subst h0; show o = gmul o 1; rw [gmul_one _ ho]
    · rw [if_neg h0, ih _ _ _ (by rw [Nat.pow_succ] at hf; omega) (by split; exact gmul_lt _ _ ho; exact ho) (gmul_lt _ _ ha), powN_sq _ _ ha]
      rcases bit_lt n with h | h
      · rw [if_neg (by omega), show 2 * (n / 2) = n by omega]
      · rw [if_pos h, ← gmul_assoc _ _ _ ho ha (powN_lt _ _), gmul_comm a _ ha (powN_lt _ _)]
        show gmul o (powN a (2 * (n / 2) + 1)) = _
        rw [show 2 * (n / 2) + 1 = n by omega]
theorem ginv_lt (a : Nat) (ha : a < 256) : ginv a < 256 := by
  unfold ginv; rw [powGo_eq 8 1 a 254 (by decide) (by omega) ha]; exact gmul_lt _ _ (by omega)
theorem inv_all : ∀ a, a < 256 → a = 0 ∨ gmul a (ginv a) = 1 := by decide +kernel
theorem ginv_zero : ginv 0 = 0 := by decide +kernel
theorem inv_unique (a k : Nat) (ha : a < 256) (hk : k < 256) (h : gmul a k = 1) : k = ginv a := by
  rcases inv_all a ha with rfl | hi
  · rw [gmul_zero_left] at h; cases h
  · have h1 : gmul (ginv a) (gmul a k) = gmul (gmul (ginv a) a) k := gmul_assoc _ _ _ (ginv_lt _ ha) ha hk
    rw [h, gmul_one _ (ginv_lt _ ha), gmul_comm (ginv a) a (ginv_lt _ ha) ha, hi, gmul_comm 1 k (by omega) hk, gmul_one _ hk] at h1
    exact h1.symm
end Go.Proofs.Ytinjafacnekkcaa.GfM
namespace Go.Proofs.Ytinjafacnekkcaa
open Go Go.RowKit GfM
theorem tw_int (a : Nat) (ha : a < 256) : bits BinOp.xor IntKind.u8 ((a : Int) * 2 % 256) (27 * ((a : Int) / 128)) = ((tw a : Nat) : Int) :=
  u8x (a := a * 2 % 256) (b := 27 * (a / 128)) (by omega) (by omega) (by omega) (by omega)
theorem twice_c (a : Nat) (ha : a < 256) (w : World) :
    Calls Try.prog 72 #[.int .u8 (a : Int)] w fun e w' => e = .returned (.int .u8 ((tw a : Nat) : Int)) ∧ w = w' := by
  go_enter Try.func72, Try.ntmps72
  go_wp2
  go_ret
  exact ⟨ret_i (tw_int a ha), rfl⟩
theorem mulbit_int (x y o : Nat) (hx : x < 256) (hy : y < 256) (ho : o < 256) :
    bits BinOp.xor IntKind.u8 (o : Int) ((x : Int) * bits BinOp.and IntKind.u8 (y : Int) 1 % 256) = ((o ^^^ x * (y % 2) : Nat) : Int) := by
  refine u8x rfl ?_ ho (mb_lt x y hx)
  rw [u8a1 y hy]; have := mb_lt x y hx
  rw [← Int.natCast_mul]; omega
set_option maxHeartbeats 400000 in
theorem mul_c (a b : Nat) (ha : a < 256) (hb : b < 256) (w : World) :
    Calls Try.prog 58 #[.int .u8 (a : Int), .int .u8 (b : Int)] w fun e w' => e = .returned (.int .u8 ((gmul a b : Nat) : Int)) ∧ w = w' := by
  go_enter Try.func58, Try.ntmps58
  go_wp2
  go_loop [0, 1, 5, 6] (fun va vb vo vi => ∃ (k x y o : Nat), k ≤ 8 ∧ x < 256 ∧ y < 256 ∧ o < 256 ∧ va = .int .u8 x ∧ vb = .int .u8 y ∧ vo = .int .u8 o ∧ vi = .int .i64 k ∧ Hid (mulGo (8 - k) o x y = gmul a b)) (fun _ _ _ vi => 8 - (intOf vi).toNat)
  case atStart => exact ⟨0, a, b, 0, by omega, ha, hb, by omega, rfl, rfl, rfl, rfl, rfl⟩
  case round =>
    obtain ⟨k, x, y, o, hk, hx, hy, ho, rfl, rfl, rfl, rfl, hm⟩ := hrel
    by_cases hlt : k < 8
    · go_wp2_with (go_at_call 72; refine (twice_c x hx _).mono ?_; rintro e w' ⟨rfl, rfl⟩)
      go_round
      case rel => exact ⟨k + 1, tw x, y / 2, o ^^^ x * (y % 2), by omega, tw_lt x hx, by omega, xor_lt _ _ ho (mb_lt x y hx), rfl, by go_num, vint (mulbit_int x y o hx hy ho), by go_num, by rw [show 8 - k = (8 - (k + 1)) + 1 by omega] at hm; exact hm⟩
      case measure => simp [intOf]; omega
    · have h8 : Hid (o = gmul a b) := by have := hm.out; rw [show 8 - k = 0 by omega] at this; exact this
      clear hm
      go_wp2
      go_ret
      exact ⟨ret_i (by rw [h8.out]), rfl⟩
theorem powGo_step (f o x m : Nat) (h : 0 < m) : powGo (f + 1) o x m = powGo f (if m % 2 = 1 then gmul o x else o) (gmul x x) (m / 2) := by
  show (if m = 0 then o else _) = _
  rw [if_neg (by omega)]
theorem powGo_zero (f o x : Nat) : powGo f o x 0 = o := by cases f <;> simp [powGo]
set_option maxHeartbeats 800000 in
theorem power_c (a n : Nat) (ha : a < 256) (hn : n < 2 ^ 32) (w : World) :
    Calls Try.prog 44 #[.int .u8 (a : Int), .int .i64 (n : Int)] w fun e w' => e = .returned (.int .u8 ((powN a n : Nat) : Int)) ∧ w = w' := by
  go_enter Try.func44, Try.ntmps44
  go_wp2
  go_loop [0, 1, 5] (fun va vn vo => ∃ (f x m o : Nat), f ≤ 32 ∧ m < 2 ^ f ∧ x < 256 ∧ o < 256 ∧ m < 4294967296 ∧ va = .int .u8 x ∧ vn = .int .i64 m ∧ vo = .int .u8 o ∧ Hid (powGo f o x m = powN a n)) (fun _ vn _ => (intOf vn).toNat)
  case atStart => exact ⟨32, a, n, 1, by omega, hn, ha, by omega, hn, rfl, rfl, rfl, by rw [powGo_eq 32 1 a n hn (by omega) ha, gmul_comm _ _ (by omega) (powN_lt _ _), gmul_one _ (powN_lt _ _)]; exact rfl⟩
  case round =>
    obtain ⟨f, x, m, o, hf, hmf, hx, ho, hmm, rfl, rfl, rfl, hp⟩ := hrel
    clear hn
    by_cases h0 : 0 < m
    · obtain ⟨f, rfl⟩ : ∃ g, f = g + 1 := by
        cases f with
        | zero => simp at hmf; omega
        | succ g => exact ⟨g, rfl⟩
      have hst := powGo_step f o x m h0
      have hm2 : m / 2 < 2 ^ f := by rw [Nat.pow_succ] at hmf; omega
      have HM2 := Lib.hid hm2
      clear hmf hm2
      by_cases h1 : m % 2 = 1
      · have hb := i64_odd m (by omega) h1
        have HP : Hid (powGo f (gmul o x) (gmul x x) (m / 2) = powN a n) := by rw [if_pos h1] at hst; rw [← hst]; exact hp.out
        clear h1 hst hp
        go_wp2_with (first | (go_at_call 58; (with_reducible refine (mul_c o x ho hx _).mono ?_); rintro e w' ⟨rfl, rfl⟩) | (go_at_call 58; (with_reducible refine (mul_c x x hx hx _).mono ?_); rintro e w' ⟨rfl, rfl⟩))
        go_round
        case rel => exact ⟨f, gmul x x, m / 2, gmul o x, by omega, HM2.out, gmul_lt _ _ hx, gmul_lt _ _ ho, by omega, rfl, by go_num, rfl, HP⟩
        case measure => simp [intOf]; omega
      · have hb := i64_even m (by omega) h1
        have HP : Hid (powGo f o (gmul x x) (m / 2) = powN a n) := by rw [if_neg h1] at hst; rw [← hst]; exact hp.out
        clear h1 hst hp
        go_wp2_with (go_at_call 58; (with_reducible refine (mul_c x x hx hx _).mono ?_); rintro e w' ⟨rfl, rfl⟩)
        go_round
        case rel => exact ⟨f, gmul x x, m / 2, o, by omega, HM2.out, gmul_lt _ _ hx, ho, by omega, rfl, by go_num, rfl, HP⟩
        case measure => simp [intOf]; omega
    · have hz : m = 0 := by omega
      subst hz
      have HO : Hid (o = powN a n) := by have := hp.out; rw [powGo_zero] at this; exact this
      clear hp hmf
      go_wp2
      go_ret
      exact ⟨ret_i (by rw [HO.out]), rfl⟩
theorem inv_c (a : Nat) (ha : a < 256) (w : World) :
    Calls Try.prog 28 #[.int .u8 (a : Int)] w fun e w' => e = .returned (.int .u8 ((ginv a : Nat) : Int)) ∧ w = w' := by
  have hg : ginv a = powN a 254 := by unfold ginv; rw [powGo_eq 8 1 a 254 (by decide) (by omega) ha, gmul_comm _ _ (by omega) (powN_lt _ _), gmul_one _ (powN_lt _ _)]
  have HG := Lib.hid hg
  clear hg
  go_enter Try.func28, Try.ntmps28
  go_wp2_with (go_at_call 44; (refine (power_c a 254 ha (by decide) _).mono ?_); rintro e w' ⟨rfl, rfl⟩)
  go_ret
  exact ⟨ret_i (by rw [HG.out]), rfl⟩
end Go.Proofs.Ytinjafacnekkcaa
namespace Go.Proofs.Ytinjafacnekkcaa
open Go Go.RowKit GfM
def rot (i k : Nat) : Nat := (i * 2 ^ k % 256) ||| (i / 2 ^ (8 - k))
def aff (i : Nat) : Nat := i ^^^ rot i 1 ^^^ rot i 2 ^^^ rot i 3 ^^^ rot i 4 ^^^ 99
theorem rot_lt (i k : Nat) (hi : i < 256) : rot i k < 256 := by
  refine Nat.or_lt_two_pow (n := 8) (by omega) ?_
  exact Nat.lt_of_le_of_lt (Nat.div_le_self _ _) hi
theorem rot_int (i k : Nat) (hi : i < 256) : bits BinOp.or IntKind.u8 ((i : Int) * 2 ^ k % 256) ((i : Int) / 2 ^ (8 - k)) = ((rot i k : Nat) : Int) :=
  u8o (by simp) (by simp) (by omega) (Nat.lt_of_le_of_lt (Nat.div_le_self _ _) hi)
set_option maxHeartbeats 400000 in
theorem turned_c (i k : Nat) (hi : i < 256) (hk : k ≤ 8) (p : Addr) (w : World) (hc : w.cell? p = some (.int .u8 i)) :
    Calls Try.prog 45 #[.int .i64 (k : Int), .pointer (some p)] w fun e w' => e = .returned (.int .u8 ((rot i k : Nat) : Int)) ∧ ∃ n, w' = w.drewN n := by
  have h8 : (0 : Int) ≤ 8 - (k : Int) := by omega
  go_enter Try.func45, Try.ntmps45
  go_wp2
  go_quiet (fail)
  go_wp2
  go_ret
  exact ⟨ret_i (rot_int i k hi), _, rfl⟩
theorem turned_q (i k : Nat) (K : Int) (hK : K = (k : Int)) (hi : i < 256) (hk : k ≤ 8) (p : Addr) (w : World) (n : Nat) (hc : w.cell? p = some (.int .u8 i)) :
    Calls Try.prog 45 #[.int .i64 K, .pointer (some p)] (w.drewN n) fun e w' => e = .returned (.int .u8 ((rot i k : Nat) : Int)) ∧ ∃ m, w' = w.drewN m :=
  hK ▸ Calls.quiet_of (turned_c i k hi hk p _ (by simpa using hc))
theorem aff_int (i : Nat) (hi : i < 256) :
  bits BinOp.xor IntKind.u8 (bits BinOp.xor IntKind.u8 (bits BinOp.xor IntKind.u8 (bits BinOp.xor IntKind.u8 (bits BinOp.xor IntKind.u8 (i : Int) ((rot i 1 : Nat) : Int)) ((rot i 2 : Nat) : Int)) ((rot i 3 : Nat) : Int)) ((rot i 4 : Nat) : Int)) 99 = ((aff i : Nat) : Int) := by
  have h1 := rot_lt i 1 hi
  have h2 := rot_lt i 2 hi
  have h3 := rot_lt i 3 hi
  have h4 := rot_lt i 4 hi
  exact u8x (u8x (u8x (u8x (u8x rfl rfl hi h1) rfl (xor_lt _ _ hi h1) h2) rfl (xor_lt _ _ (xor_lt _ _ hi h1) h2) h3) rfl (xor_lt _ _ (xor_lt _ _ (xor_lt _ _ hi h1) h2) h3) h4) rfl (xor_lt _ _ (xor_lt _ _ (xor_lt _ _ (xor_lt _ _ hi h1) h2) h3) h4) (by omega)
set_option maxHeartbeats 1000000 in
theorem affine_c (i : Nat) (hi : i < 256) (w : World) :
    Calls Try.prog 27 #[.int .u8 (i : Int)] w fun e w' => e = .returned (.int .u8 ((aff i : Nat) : Int)) ∧ Below w.heap.size w w' := by
  have hc : (w.alloc (.cells #[.int .u8 (i : Int)] 5)).cell? ⟨w.heap.size, 0, none⟩ = some (.int .u8 i) := by simp
  go_enter Try.func27, Try.ntmps27
  go_wp2
  go_quiet ((go_at_call 45; (with_reducible first | exact turned_q i 1 1 rfl hi (by omega) _ _ _ hc | exact turned_q i 2 2 rfl hi (by omega) _ _ _ hc | exact turned_q i 3 3 rfl hi (by omega) _ _ _ hc | exact turned_q i 4 4 rfl hi (by omega) _ _ _ hc)))
  go_wp2
  go_ret
  exact ⟨ret_i (aff_int i hi), below_drewN ((Below.refl _ _).alloc (Nat.le_refl _) _) _⟩
end Go.Proofs.Ytinjafacnekkcaa
namespace Go.Proofs.Ytinjafacnekkcaa
open Go Go.RowKit GfM
def SB : List Nat := [99, 124, 119, 123, 242, 107, 111, 197, 48, 1, 103, 43, 254, 215, 171, 118,
  202, 130, 201, 125, 250, 89, 71, 240, 173, 212, 162, 175, 156, 164, 114, 192,
  183, 253, 147, 38, 54, 63, 247, 204, 52, 165, 229, 241, 113, 216, 49, 21,
  4, 199, 35, 195, 24, 150, 5, 154, 7, 18, 128, 226, 235, 39, 178, 117,
  9, 131, 44, 26, 27, 110, 90, 160, 82, 59, 214, 179, 41, 227, 47, 132,
  83, 209, 0, 237, 32, 252, 177, 91, 106, 203, 190, 57, 74, 76, 88, 207,
  208, 239, 170, 251, 67, 77, 51, 133, 69, 249, 2, 127, 80, 60, 159, 168,
  81, 163, 64, 143, 146, 157, 56, 245, 188, 182, 218, 33, 16, 255, 243, 210,
  205, 12, 19, 236, 95, 151, 68, 23, 196, 167, 126, 61, 100, 93, 25, 115,
  96, 129, 79, 220, 34, 42, 144, 136, 70, 238, 184, 20, 222, 94, 11, 219,
  224, 50, 58, 10, 73, 6, 36, 92, 194, 211, 172, 98, 145, 149, 228, 121,
  231, 200, 55, 109, 141, 213, 78, 169, 108, 86, 244, 234, 101, 122, 174, 8,
  186, 120, 37, 46, 28, 166, 180, 198, 232, 221, 116, 31, 75, 189, 139, 138,
  112, 62, 181, 102, 72, 3, 246, 14, 97, 53, 87, 185, 134, 193, 29, 158,
  225, 248, 152, 17, 105, 217, 142, 148, 155, 30, 135, 233, 206, 85, 40, 223,
  140, 161, 137, 13, 191, 230, 66, 104, 65, 153, 45, 15, 176, 84, 187, 22]
def BK : List Nat := [82, 9, 106, 213, 48, 54, 165, 56, 191, 64, 163, 158, 129, 243, 215, 251,
  124, 227, 57, 130, 155, 47, 255, 135, 52, 142, 67, 68, 196, 222, 233, 203,
  84, 123, 148, 50, 166, 194, 35, 61, 238, 76, 149, 11, 66, 250, 195, 78,
  8, 46, 161, 102, 40, 217, 36, 178, 118, 91, 162, 73, 109, 139, 209, 37,
  114, 248, 246, 100, 134, 104, 152, 22, 212, 164, 92, 204, 93, 101, 182, 146,
  108, 112, 72, 80, 253, 237, 185, 218, 94, 21, 70, 87, 167, 141, 157, 132,
  144, 216, 171, 0, 140, 188, 211, 10, 247, 228, 88, 5, 184, 179, 69, 6,
  208, 44, 30, 143, 202, 63, 15, 2, 193, 175, 189, 3, 1, 19, 138, 107,
  58, 145, 17, 65, 79, 103, 220, 234, 151, 242, 207, 206, 240, 180, 230, 115,
  150, 172, 116, 34, 231, 173, 53, 133, 226, 249, 55, 232, 28, 117, 223, 110,
  71, 241, 26, 113, 29, 41, 197, 137, 111, 183, 98, 14, 170, 24, 190, 27,
  252, 86, 62, 75, 198, 210, 121, 32, 154, 219, 192, 254, 120, 205, 90, 244,
  31, 221, 168, 51, 136, 7, 199, 49, 177, 18, 16, 89, 39, 128, 236, 95,
  96, 81, 127, 169, 25, 181, 74, 13, 45, 229, 122, 159, 147, 201, 156, 239,
  160, 224, 59, 77, 174, 42, 245, 176, 200, 235, 187, 60, 131, 83, 153, 97,
  23, 43, 4, 126, 186, 119, 214, 38, 225, 105, 20, 99, 85, 33, 12, 125]
def sbx (k : Nat) : Nat := SB.getD k 0
def bkx (k : Nat) : Nat := BK.getD k 0
theorem sb_all : ∀ k, k < 256 → aff (ginv k) = sbx k := by decide +kernel
theorem sbx_lt_all : ∀ k, k < 256 → sbx k < 256 ∧ bkx k < 256 := by decide +kernel
theorem sbx_bkx_all : ∀ k, k < 256 → sbx (bkx k) = k ∧ bkx (sbx k) = k := by decide +kernel
theorem sbx_lt (k : Nat) (h : k < 256) : sbx k < 256 := (sbx_lt_all k h).1
theorem bkx_lt (k : Nat) (h : k < 256) : bkx k < 256 := (sbx_lt_all k h).2
theorem sbx_bkx (k : Nat) (h : k < 256) : sbx (bkx k) = k := (sbx_bkx_all k h).1
theorem bkx_sbx (k : Nat) (h : k < 256) : bkx (sbx k) = k := (sbx_bkx_all k h).2
end Go.Proofs.Ytinjafacnekkcaa
namespace Go.Proofs.Ytinjafacnekkcaa
open Go Go.RowKit GfM
/-- the box's cells behind k rounds -/
noncomputable def boxA : Nat → Array Value
  | 0 => Try.zeroCells85
  | k + 1 => ((boxA k).setIfInBounds k (.int .u8 (sbx k : Int))).setIfInBounds (256 + sbx k) (.int .u8 (k : Int))
theorem zero_size : (Try.zeroCells85).size = 512 := by kernel_rfl
theorem boxA_size (k : Nat) : (boxA k).size = 512 := by
  induction k with
  | zero => exact zero_size
  | succ k ih => simp [boxA, ih]
theorem boxA_sub (k : Nat) (hk : k ≤ 256) (j : Nat) (hj : j < k) : (boxA k)[j]? = some (.int .u8 (sbx j : Int)) := by
  induction k with
  | zero => omega
  | succ k ih =>
    have hs := sbx_lt k (by omega)
    simp only [boxA, Array.getElem?_setIfInBounds, Array.size_setIfInBounds, boxA_size]
    rw [if_neg (by omega)]
    by_cases e : k = j
    · subst e; simp; omega
    · rw [if_neg e]; exact ih (by omega) (by omega)
theorem boxA_back (k : Nat) (hk : k ≤ 256) (j : Nat) (hj : j < k) : (boxA k)[256 + sbx j]? = some (.int .u8 (j : Int)) := by
  induction k with
  | zero => omega
  | succ k ih =>
    have hs := sbx_lt k (by omega)
    have hs' := sbx_lt j (by omega)
    simp only [boxA, Array.getElem?_setIfInBounds, Array.size_setIfInBounds, boxA_size]
    by_cases e : k = j
    · subst e; simp; omega
    · have hne : sbx k ≠ sbx j := by
        intro h
        have := congrArg bkx h
        rw [bkx_sbx k (by omega), bkx_sbx j (by omega)] at this
        exact e this
      rw [if_neg (by omega), if_neg (by omega)]; exact ih (by omega) (by omega)
theorem boxA_has (k o : Nat) (ho : o < 512) : ∃ v, (boxA k)[o]? = some v := ⟨(boxA k)[o]'(by rw [boxA_size]; exact ho), by simp [boxA_size, ho]⟩
/-- block b is the box -/
def IsBox (w : World) (b : Nat) : Prop := w.heap[b]? = some (.cells (boxA 256) 85 (0, 0))
theorem IsBox.sub {w : World} {b : Nat} (h : IsBox w b) (c : Nat) (hc : c < 256) : w.cell? ⟨b, c, none⟩ = some (.int .u8 (sbx c : Int)) := by
  unfold IsBox at h
  simp [World.cell?, h, boxA_sub 256 (by omega) c hc]
theorem IsBox.back {w : World} {b : Nat} (h : IsBox w b) (c : Nat) (hc : c < 256) : w.cell? ⟨b, 256 + c, none⟩ = some (.int .u8 (bkx c : Int)) := by
  unfold IsBox at h
  have := boxA_back 256 (by omega) (bkx c) (bkx_lt c hc)
  rw [sbx_bkx c hc] at this
  simp [World.cell?, h, this]
theorem cells_of {w : World} {b : Nat} {A : Array Value} {t : TypeId} (h : w.heap[b]? = some (.cells A t (0, 0))) (o : Nat) : w.cell? ⟨b, o, none⟩ = A[o]? := by simp [World.cell?, h]
theorem free_of {w : World} {b : Nat} {A : Array Value} {t : TypeId} (h : w.heap[b]? = some (.cells A t (0, 0))) (o : Nat) : w.frozen? ⟨b, o, none⟩ = false := by simp [World.frozen?, h]
theorem block_set {w : World} {b : Nat} {A : Array Value} {t : TypeId} {z : Nat × Nat} (h : w.heap[b]? = some (.cells A t z)) (o : Nat) (v : Value) :
    (w.setCell ⟨b, o, none⟩ v).heap[b]? = some (.cells (A.setIfInBounds o v) t z) := by
  simp [World.setCell, Array.getElem?_modify, h]
set_option maxHeartbeats 1000000 in
set_option maxRecDepth 100000 in
theorem newbox_c (w : World) :
    Calls Try.prog 11 #[] w fun e w' => e = .returned (.pointer (some ⟨w.heap.size, 0, none⟩)) ∧ IsBox w' w.heap.size ∧ w.heap.size < w'.heap.size ∧ Below w.heap.size w w' := by
  have h0 : (w.alloc (Obj.cells (Try.zeroCells85) 85)).heap[w.heap.size]? = some (.cells (boxA 0) 85 (0, 0)) := by
    show (w.heap.push _)[_]? = _
    simp [boxA]
  have H0 := Lib.hid h0
  clear h0
  go_enter Try.func11, Try.ntmps11
  go_wp2
  go_loopw [6] (fun vi wr => ∃ k : Nat, k ≤ 256 ∧ vi = .int .i64 k ∧ Hid (wr.heap[w.heap.size]? = some (.cells (boxA k) 85 (0, 0))) ∧ w.heap.size < wr.heap.size ∧ Below w.heap.size w wr) (fun vi _ => 256 - (intOf vi).toNat)
  case atStart => exact ⟨0, by omega, rfl, H0, by simp, (Below.refl _ _).alloc (Nat.le_refl _) _⟩
  case round =>
    obtain ⟨k, hk, rfl, hb, hz, hbel⟩ := hrel
    clear H0
    by_cases hlt : k < 256
    · have hs := sbx_lt k hlt
      go_wp2_with (first
        | (go_at_call 28; (with_reducible refine (inv_c k hlt _).mono ?_); rintro e w' ⟨rfl, rfl⟩)
        | (go_at_call 27; (with_reducible refine (affine_c _ (ginv_lt k hlt) _).mono ?_); rintro e w1 ⟨rfl, hb1⟩; rw [sb_all k hlt]; have hB1 := (hb1.block w.heap.size hz).trans hb.out; obtain ⟨v1, hv1⟩ := boxA_has k k (by omega); obtain ⟨v2, hv2⟩ := boxA_has k (256 + sbx k) (by omega); have hc1 := (cells_of hB1 k).trans hv1; have hf1 := free_of hB1 k; have hc2 := (cells_of hB1 (256 + sbx k)).trans hv2; have hf2 := free_of hB1 (256 + sbx k); have HB1 := Lib.hid hB1; clear hB1 hv1 hv2))
      go_roundw
      case rel =>
        have h1 := block_set (block_set HB1.out k (.int .u8 (sbx k : Int))) (256 + sbx k) (.int .u8 (k : Int))
        exact ⟨k + 1, by omega, by go_num, h1, by have := hb1.size; simp [World.setCell]; omega, ((hbel.trans (hb1.mono (by omega))).setCell (by simp) _).setCell (by simp) _⟩
      case measure => simp [intOf]; omega
    · have hk6 : k = 256 := by omega
      subst hk6
      go_wp2
      go_ret
      exact ⟨rfl, hb.out, hz, hbel⟩
theorem sub_c (w : World) (b c : Nat) (hc : c < 256) (h : IsBox w b) :
    Calls Try.prog 57 #[.pointer (some ⟨b, 0, none⟩), .int .u8 (c : Int)] w fun e w' => e = .returned (.int .u8 (sbx c : Int)) ∧ w = w' := by
  have h1 := h.sub c hc
  clear h
  go_enter Try.func57, Try.ntmps57
  go_wp2
  go_ret
  exact ⟨rfl, rfl⟩
theorem IsBox.later {w w' : World} {b B : Nat} (h : IsBox w b) (hb : Below B w w') (hB : b < B) : IsBox w' b := (hb.block b hB).trans h
theorem IsBox.lt {w : World} {b : Nat} (h : IsBox w b) : b < w.heap.size := lt_of_block h
end Go.Proofs.Ytinjafacnekkcaa
namespace Go.Proofs.Ytinjafacnekkcaa
open Go Go.RowKit GfM
theorem refP_step (n p w a b : Nat) : refP (n + 1) p w a b = refP n (p ^^^ a * w * (b / w % 2)) (2 * w) a b := rfl
theorem refR_step (k p : Nat) : refR (k + 1) p = refR k (p ^^^ 283 * 2 ^ k * (p / 2 ^ (k + 8) % 2)) := rfl
theorem bitT (q m : Nat) (h : q / 2 ^ m % 2 = 1) : ((((q : Int) / 2 ^ m).tmod 2) == 1) = true := by
  have e : ((q : Int) / 2 ^ m) = ((q / 2 ^ m : Nat) : Int) := by simp
  rw [e, Int.tmod_eq_emod_of_nonneg (Int.natCast_nonneg _), beq_iff_eq]; omega
theorem bitF (q m : Nat) (h : ¬ q / 2 ^ m % 2 = 1) : ((((q : Int) / 2 ^ m).tmod 2) == 1) = false := by
  have e : ((q : Int) / 2 ^ m) = ((q / 2 ^ m : Nat) : Int) := by simp
  rw [e, Int.tmod_eq_emod_of_nonneg (Int.natCast_nonneg _), beq_eq_false_iff_ne]; omega
theorem n283 (j : Nat) (h : j ≤ 7) : 283 * 2 ^ j < 65536 := by
  have := Nat.pow_le_pow_right (n := 2) (by decide) h
  omega
theorem w283 (j : Nat) (h : j ≤ 7) : wrap64 (283 * 2 ^ j) = ((283 * 2 ^ j : Nat) : Int) := by
  have h1 := n283 j h
  have e : (283 * 2 ^ j : Int) = ((283 * 2 ^ j : Nat) : Int) := by simp
  rw [e]; exact IntWalk.wrap64_in _ (by omega)
set_option maxRecDepth 100000 in
set_option maxHeartbeats 1000000 in
theorem refmul_c (a b : Nat) (ha : a < 256) (hb : b < 256) (w : World) :
    Calls Try.prog 14 #[.int .u8 (a : Int), .int .u8 (b : Int)] w fun e w' => e = .returned (.int .u8 ((refMul a b : Nat) : Int)) ∧ w = w' := by
  go_enter Try.func14, Try.ntmps14
  go_wp2
  go_loop [5, 6, 7] (fun vp vw vk => ∃ (k p c : Nat), k ≤ 8 ∧ p < 65536 ∧ c ≤ 256 ∧ 1 ≤ c ∧ (k < 8 → c ≤ 128) ∧ vp = .int .i64 p ∧ vw = .int .i64 c ∧ vk = .int .i64 k ∧ Hid (c = 2 ^ k) ∧ Hid (refP (8 - k) p c a b = refP 8 0 1 a b)) (fun _ _ vk => 8 - (intOf vk).toNat)
  case atStart => exact ⟨0, 0, 1, by omega, by omega, by omega, by omega, by omega, rfl, rfl, rfl, rfl, rfl⟩
  case round =>
    obtain ⟨k, p, c, hk, hp, hc, hc1, hc8, rfl, rfl, rfl, hck, hm⟩ := hrel
    by_cases hlt : k < 8
    · have hc2 := hc8 hlt
      clear hc8
      have q0 : (0 : Int) ≤ (b : Int) / (c : Int) := by rw [← Int.natCast_ediv]; exact Int.natCast_nonneg _
      have q1 : (b : Int) / (c : Int) ≤ 255 := by rw [← Int.natCast_ediv]; have := Nat.div_le_self b c; omega
      have m0 : (0 : Int) ≤ (a : Int) * (c : Int) := by rw [← Int.natCast_mul]; omega
      have m2 : a * c ≤ 255 * 128 := Nat.mul_le_mul (by omega) hc2
      have m1 : (a : Int) * (c : Int) ≤ 32640 := by rw [← Int.natCast_mul]; omega
      have hp8 : a * c < 65536 := by omega
      have hst := refP_step (8 - (k + 1)) p c a b
      have hck2 : 2 * c = 2 ^ (k + 1) := by rw [Nat.pow_succ, ← hck.out]; omega
      have HCK2 := Lib.hid hck2
      have h128 : k + 1 < 8 → 2 * c ≤ 128 := fun h => by
        have := Nat.pow_le_pow_right (n := 2) (by decide) (show k + 1 ≤ 7 by omega)
        omega
      have H128 := Lib.hid h128
      clear hck2 h128 hck
      by_cases h1 : b / c % 2 = 1
      · have hT : ((b : Int) / (c : Int) % 2 == 1) = true := by
          rw [beq_iff_eq, ← Int.natCast_ediv]; omega
        have HM : Hid (refP (8 - (k + 1)) (p ^^^ a * c) (2 * c) a b = refP 8 0 1 a b) := by
          rw [h1, Nat.mul_one] at hst
          have := hm.out
          rw [show 8 - k = (8 - (k + 1)) + 1 by omega, hst] at this; exact this
        clear h1 hst hm m2
        go_wp2
        go_round
        case rel => exact ⟨k + 1, p ^^^ a * c, 2 * c, by omega, Nat.xor_lt_two_pow (n := 16) hp hp8, by omega, by omega, H128.out, vint (i64x rfl (by simp) (by omega) (by omega)), by go_num, by go_num, HCK2, HM⟩
        case measure => simp [intOf]; omega
      · have hT : ((b : Int) / (c : Int) % 2 == 1) = false := by
          rw [beq_eq_false_iff_ne, ← Int.natCast_ediv]; omega
        have HM : Hid (refP (8 - (k + 1)) p (2 * c) a b = refP 8 0 1 a b) := by
          rw [show b / c % 2 = 0 by omega, Nat.mul_zero, Nat.xor_zero] at hst
          have := hm.out
          rw [show 8 - k = (8 - (k + 1)) + 1 by omega, hst] at this; exact this
        clear h1 hst hm m2
        go_wp2
        go_round
        case rel => exact ⟨k + 1, p, 2 * c, by omega, hp, by omega, by omega, H128.out, rfl, by go_num, by go_num, HCK2, HM⟩
        case measure => simp [intOf]; omega
    · have HP : Hid (p = refP 8 0 1 a b) := by have := hm.out; rw [show 8 - k = 0 by omega] at this; exact this
      clear hm hck hc8
      go_wp2
      go_loop [5, 8] (fun vp vk => ∃ (j q : Nat), j ≤ 7 ∧ q < 65536 ∧ vp = .int .i64 q ∧ vk = .int .i64 ((j : Int) + 7) ∧ Hid (refR j q = refR 7 (refP 8 0 1 a b))) (fun _ vk => (intOf vk).toNat)
      case atStart => exact ⟨7, p, by omega, hp, rfl, rfl, by rw [HP.out]; exact rfl⟩
      case round =>
        obtain ⟨j, q, hj, hq, rfl, rfl, hm⟩ := hrel
        clear HP
        by_cases hj0 : 0 < j
        · obtain ⟨j, rfl⟩ : ∃ i, j = i + 1 := ⟨j - 1, by omega⟩
          have hst := refR_step j q
          have e283 := w283 j (by omega)
          have n28 := n283 j (by omega)
          by_cases h1 : q / 2 ^ (j + 8) % 2 = 1
          · have hT := bitT q (j + 1 + 7) h1
            have HM : Hid (refR j (q ^^^ 283 * 2 ^ j) = refR 7 (refP 8 0 1 a b)) := by
              rw [h1, Nat.mul_one] at hst
              rw [← hst]; exact hm.out
            clear h1 hst hm
            go_wp2
            go_round
            case rel => exact ⟨j, q ^^^ 283 * 2 ^ j, by omega, Nat.xor_lt_two_pow (n := 16) hq n28, vint (i64x rfl rfl (by omega) (by omega)), vint (by omega), HM⟩
            case measure => simp [intOf]; omega
          · have hT := bitF q (j + 1 + 7) h1
            have HM : Hid (refR j q = refR 7 (refP 8 0 1 a b)) := by
              rw [show q / 2 ^ (j + 8) % 2 = 0 by omega, Nat.mul_zero, Nat.xor_zero] at hst
              rw [← hst]; exact hm.out
            clear h1 hst hm
            go_wp2
            go_round
            case rel => exact ⟨j, q, by omega, hq, rfl, vint (by omega), HM⟩
            case measure => simp [intOf]; omega
        · obtain rfl : j = 0 := by omega
          have HQ : Hid (q = refR 7 (refP 8 0 1 a b)) := hm
          clear hm
          go_wp2
          go_ret
          exact ⟨ret_i (by unfold refMul; rw [← HQ.out]; simp), rfl⟩
end Go.Proofs.Ytinjafacnekkcaa
namespace Go.Proofs.Ytinjafacnekkcaa
open Go Go.RowKit GfM
theorem mulref_c (a b : Nat) (ha : a < 256) (hb : b < 256) (w : World) :
    Calls Try.prog 14 #[.int .u8 (a : Int), .int .u8 (b : Int)] w fun e w' => e = .returned (.int .u8 ((gmul a b : Nat) : Int)) ∧ w = w' := by
  have := refmul_c a b ha hb w
  rw [refMul_eq a b ha hb] at this; exact this
set_option maxRecDepth 100000 in
set_option maxHeartbeats 1000000 in
theorem refinv_c (a : Nat) (ha : a < 256) (w : World) :
    Calls Try.prog 46 #[.int .u8 (a : Int)] w fun e w' => e = .returned (.int .u8 ((ginv a : Nat) : Int)) ∧ w = w' := by
  go_enter Try.func46, Try.ntmps46
  go_wp2
  go_loop [3] (fun vk => ∃ (k : Nat), k ≤ 256 ∧ vk = .int .i64 k ∧ Hid (∀ j, j < k → gmul a j ≠ 1)) (fun vk => 256 - (intOf vk).toNat)
  case atStart => exact ⟨0, by omega, rfl, fun j hj => absurd hj (by omega)⟩
  case round =>
    obtain ⟨k, hk, rfl, hno⟩ := hrel
    by_cases hlt : k < 256
    · by_cases h1 : gmul a k = 1
      · have hT : (((gmul a k : Nat) : Int) == 1) = true := by rw [h1]; rfl
        have HI := Lib.hid (inv_unique a k ha hlt h1)
        clear h1 hno
        go_wp2_with (go_at_call 14; (with_reducible refine (mulref_c a k ha hlt _).mono ?_); rintro e w' ⟨rfl, rfl⟩)
        go_ret
        exact ⟨ret_i (by rw [← HI.out]), rfl⟩
      · have hT : (((gmul a k : Nat) : Int) == 1) = false := by rw [beq_eq_false_iff_ne]; omega
        have HN : Hid (∀ j, j < k + 1 → gmul a j ≠ 1) := fun j hj => by
          by_cases e : j = k
          · rw [e]; exact h1
          · exact hno.out j (by omega)
        clear h1 hno
        go_wp2_with (go_at_call 14; (with_reducible refine (mulref_c a k ha hlt _).mono ?_); rintro e w' ⟨rfl, rfl⟩)
        go_round
        case rel => exact ⟨k + 1, by omega, by go_num, HN⟩
        case measure => simp [intOf]; omega
    · have HZ : Hid (ginv a = 0) := by
        rcases inv_all a ha with rfl | h
        · exact ginv_zero
        · exact absurd h (hno.out _ (by have := ginv_lt a ha; omega))
      clear hno
      go_wp2
      go_ret
      exact ⟨ret_i (by rw [HZ.out]; rfl), rfl⟩
end Go.Proofs.Ytinjafacnekkcaa
