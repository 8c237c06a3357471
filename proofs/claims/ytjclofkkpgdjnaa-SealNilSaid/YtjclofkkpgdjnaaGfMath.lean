/- Plain facts on the field of bytes: no program. -/
set_option linter.unusedVariables false
namespace Go.Proofs.Ytjclofkkpgdjnaa.GfM
/-- times 2 in the field -/
def tw (a : Nat) : Nat := (a * 2 % 256) ^^^ (27 * (a / 128))
def mulGo : Nat → Nat → Nat → Nat → Nat
  | 0, o, _, _ => o
  | n + 1, o, a, b => mulGo n (o ^^^ a * (b % 2)) (tw a) (b / 2)
def gmul (a b : Nat) : Nat := mulGo 8 0 a b
/-- the reference's long product -/
def refP : Nat → Nat → Nat → Nat → Nat → Nat
  | 0, p, _, _, _ => p
  | n + 1, p, w, a, b => refP n (p ^^^ a * w * (b / w % 2)) (2 * w) a b
def refR : Nat → Nat → Nat
  | 0, p => p
  | k + 1, p => refR k (p ^^^ 283 * 2 ^ k * (p / 2 ^ (k + 8) % 2))
def refMul (a b : Nat) : Nat := refR 7 (refP 8 0 1 a b) % 256

theorem mod2_xor (a b : Nat) : (a ^^^ b) % 2 = a % 2 ^^^ b % 2 := by
  have := Nat.xor_mod_two_pow (a := a) (b := b) (n := 1); simpa using this
theorem div2_xor (a b : Nat) : (a ^^^ b) / 2 = a / 2 ^^^ b / 2 := by
  have := Nat.shiftRight_xor_distrib (a := a) (b := b) (i := 1); simpa [Nat.shiftRight_eq_div_pow] using this
theorem div128_xor (a b : Nat) : (a ^^^ b) / 128 = a / 128 ^^^ b / 128 := by
  have := Nat.shiftRight_xor_distrib (a := a) (b := b) (i := 7); simpa [Nat.shiftRight_eq_div_pow] using this
theorem mul2_xor (a b : Nat) : (a ^^^ b) * 2 = a * 2 ^^^ b * 2 := by
  have := Nat.shiftLeft_xor_distrib (a := a) (b := b) (i := 1); simpa [Nat.shiftLeft_eq] using this
theorem mod256_xor (a b : Nat) : (a ^^^ b) % 256 = a % 256 ^^^ b % 256 := Nat.xor_mod_two_pow (n := 8)
theorem bit_lt (a : Nat) : a % 2 = 0 ∨ a % 2 = 1 := by omega
theorem mul_bit_left (a a' x : Nat) (hx : x = 0 ∨ x = 1) : (a ^^^ a') * x = a * x ^^^ a' * x := by
  rcases hx with rfl | rfl <;> simp
theorem mul_bit_right (a x y : Nat) (hx : x = 0 ∨ x = 1) (hy : y = 0 ∨ y = 1) : a * (x ^^^ y) = a * x ^^^ a * y := by
  rcases hx with rfl | rfl <;> rcases hy with rfl | rfl <;> simp
theorem xor4 (a b c d : Nat) : (a ^^^ b) ^^^ (c ^^^ d) = (a ^^^ c) ^^^ (b ^^^ d) := by
  ac_rfl
theorem tw_xor (a b : Nat) (ha : a < 256) (hb : b < 256) : tw (a ^^^ b) = tw a ^^^ tw b := by
  unfold tw
  rw [mul2_xor, mod256_xor, div128_xor, mul_bit_right 27 _ _ (by omega) (by omega), xor4]
theorem tw_lt (a : Nat) (ha : a < 256) : tw a < 256 := by
  unfold tw; exact Nat.xor_lt_two_pow (n := 8) (by omega) (by omega)
theorem xor_lt (a b : Nat) (ha : a < 256) (hb : b < 256) : a ^^^ b < 256 := Nat.xor_lt_two_pow (n := 8) ha hb
theorem mb_lt (a b : Nat) (ha : a < 256) : a * (b % 2) < 256 := by rcases bit_lt b with h | h <;> rw [h] <;> omega
theorem mulGo_lt (n o a b : Nat) (ho : o < 256) (ha : a < 256) : mulGo n o a b < 256 := by
  induction n generalizing o a b with
  | zero => exact ho
  | succ n ih => exact ih _ _ _ (xor_lt _ _ ho (mb_lt a b ha)) (tw_lt a ha)
theorem gmul_lt (a b : Nat) (ha : a < 256) : gmul a b < 256 := mulGo_lt 8 0 a b (by omega) ha
theorem mulGo_left (n o o' a a' b : Nat) (ha : a < 256) (ha' : a' < 256) :
    mulGo n (o ^^^ o') (a ^^^ a') b = mulGo n o a b ^^^ mulGo n o' a' b := by
  induction n generalizing o o' a a' b with
  | zero => rfl
  | succ n ih =>
    simp only [mulGo]
    rw [mul_bit_left _ _ _ (bit_lt b), xor4, tw_xor a a' ha ha']
    exact ih _ _ _ _ _ (tw_lt a ha) (tw_lt a' ha')
theorem mulGo_right (n o o' a b b' : Nat) : mulGo n (o ^^^ o') a (b ^^^ b') = mulGo n o a b ^^^ mulGo n o' a b' := by
  induction n generalizing o o' a b b' with
  | zero => rfl
  | succ n ih =>
    simp only [mulGo]
    rw [mod2_xor, div2_xor, mul_bit_right _ _ _ (bit_lt b) (bit_lt b'), xor4]
    exact ih _ _ _ _ _
theorem gmul_left (a a' b : Nat) (ha : a < 256) (ha' : a' < 256) : gmul (a ^^^ a') b = gmul a b ^^^ gmul a' b :=
  mulGo_left 8 0 0 a a' b ha ha'
theorem gmul_right (a b b' : Nat) : gmul a (b ^^^ b') = gmul a b ^^^ gmul a b' := mulGo_right 8 0 0 a b b'
/-- what holds of the eight powers and is kept by sums holds of each byte -/
theorem by_bits (p : Nat → Prop) (h0 : p 0) (hb : ∀ k, k < 8 → p (2 ^ k)) (hx : ∀ a b, a < 256 → b < 256 → p a → p b → p (a ^^^ b)) :
    ∀ a, a < 256 → p a := by
  have key : ∀ n, n ≤ 8 → ∀ a, a < 2 ^ n → p a := by
    intro n
    induction n with
    | zero => intro _ a ha; have : a = 0 := by simpa using ha
              exact this ▸ h0
    | succ n ih =>
      intro hn a ha
      have h8 : 2 ^ n ≤ 2 ^ 7 := Nat.pow_le_pow_right (by decide) (by omega)
      by_cases h : a < 2 ^ n
      · exact ih (by omega) a h
      · have e : a = 2 ^ n ^^^ (a - 2 ^ n) := by
          have hlt : a - 2 ^ n < 2 ^ n := by rw [Nat.pow_succ] at ha; omega
          have := Nat.two_pow_add_eq_or_of_lt hlt 1
          have h2 : 2 ^ n ^^^ (a - 2 ^ n) = 2 ^ n ||| (a - 2 ^ n) := by
            apply Nat.eq_of_testBit_eq; intro i
            rw [Nat.testBit_xor, Nat.testBit_or, Nat.testBit_two_pow]
            by_cases hi : n = i
            · subst hi; rw [Nat.testBit_lt_two_pow hlt]; simp
            · simp [hi]
          rw [h2]; simp at this; omega
        have hlt : a - 2 ^ n < 2 ^ n := by rw [Nat.pow_succ] at ha; omega
        rw [e]
        exact hx _ _ (by omega) (by omega) (hb n (by omega)) (ih (by omega) _ hlt)
  intro a ha
  exact key 8 (by omega) a ha
theorem gmul_zero_left (b : Nat) : gmul 0 b = 0 := by
  have := gmul_left 0 0 b (by omega) (by omega); simpa using this
theorem gmul_zero_right (a : Nat) : gmul a 0 = 0 := by
  have := gmul_right a 0 0; simpa using this
theorem comm_all : ∀ i, i < 8 → ∀ j, j < 8 → gmul (2 ^ i) (2 ^ j) = gmul (2 ^ j) (2 ^ i) := by decide +kernel
theorem gmul_comm (a b : Nat) (ha : a < 256) (hb : b < 256) : gmul a b = gmul b a := by
  revert b
  refine by_bits (fun a => ∀ b, b < 256 → gmul a b = gmul b a) ?_ ?_ ?_ a ha
  · intro b _; rw [gmul_zero_left, gmul_zero_right]
  · intro i hi b hb
    refine by_bits (fun b => gmul (2 ^ i) b = gmul b (2 ^ i)) ?_ ?_ ?_ b hb
    · show _ = _; rw [gmul_zero_left, gmul_zero_right]
    · intro j hj; exact comm_all i hi j hj
    · intro x y hx hy h1 h2; show _ = _; rw [gmul_right, gmul_left _ _ _ hx hy, h1, h2]
  · intro x y hx hy h1 h2 b hb; show _ = _; rw [gmul_left _ _ _ hx hy, gmul_right, h1 b hb, h2 b hb]
theorem assoc_all : ∀ i, i < 8 → ∀ j, j < 8 → ∀ k, k < 8 → gmul (2 ^ i) (gmul (2 ^ j) (2 ^ k)) = gmul (gmul (2 ^ i) (2 ^ j)) (2 ^ k) := by decide +kernel
theorem gmul_assoc (a b c : Nat) (ha : a < 256) (hb : b < 256) (hc : c < 256) : gmul a (gmul b c) = gmul (gmul a b) c := by
  revert b c
  refine by_bits (fun a => ∀ b c, b < 256 → c < 256 → gmul a (gmul b c) = gmul (gmul a b) c) ?_ ?_ ?_ a ha
  · intro b c _ _; simp only [gmul_zero_left]
  · intro i hi b c hb
    revert c
    refine by_bits (fun b => ∀ c, c < 256 → gmul (2 ^ i) (gmul b c) = gmul (gmul (2 ^ i) b) c) ?_ ?_ ?_ b hb
    · intro c _; simp only [gmul_zero_left, gmul_zero_right]
    · intro j hj c hc
      refine by_bits (fun c => gmul (2 ^ i) (gmul (2 ^ j) c) = gmul (gmul (2 ^ i) (2 ^ j)) c) ?_ ?_ ?_ c hc
      · simp only [gmul_zero_right]
      · intro k hk; exact assoc_all i hi j hj k hk
      · intro x y hx hy h1 h2; show _ = _; rw [gmul_right, gmul_right, gmul_right, h1, h2]
    · intro x y hx hy h1 h2 c hc
      have hi' : (2 : Nat) ^ i < 256 := by have := Nat.pow_le_pow_right (n := 2) (by decide) (show i ≤ 7 by omega); omega
      show _ = _; rw [gmul_left _ _ _ hx hy, gmul_right, gmul_right, gmul_left _ _ _ (gmul_lt _ _ hi') (gmul_lt _ _ hi'), h1 c hc, h2 c hc]
  · intro x y hx hy h1 h2 b c hb hc; show _ = _
    rw [gmul_left _ _ _ hx hy, gmul_left _ _ _ hx hy, gmul_left _ _ _ (gmul_lt _ _ hx) (gmul_lt _ _ hy), h1 b c hb hc, h2 b c hb hc]
theorem one_all : ∀ i, i < 8 → gmul (2 ^ i) 1 = 2 ^ i := by decide +kernel
theorem gmul_one (a : Nat) (ha : a < 256) : gmul a 1 = a := by
  refine by_bits (fun a => gmul a 1 = a) (gmul_zero_left 1) one_all ?_ a ha
  intro x y hx hy h1 h2; show _ = _; rw [gmul_left _ _ _ hx hy, h1, h2]
theorem divp_xor (a b k : Nat) : (a ^^^ b) / 2 ^ k = a / 2 ^ k ^^^ b / 2 ^ k := by
  have := Nat.shiftRight_xor_distrib (a := a) (b := b) (i := k); simpa [Nat.shiftRight_eq_div_pow] using this
theorem refP_right (n k p p' a b b' : Nat) : refP n (p ^^^ p') (2 ^ k) a (b ^^^ b') = refP n p (2 ^ k) a b ^^^ refP n p' (2 ^ k) a b' := by
  induction n generalizing p p' k with
  | zero => rfl
  | succ n ih =>
    simp only [refP]
    rw [divp_xor, mod2_xor, mul_bit_right _ _ _ (bit_lt _) (bit_lt _), xor4, show 2 * 2 ^ k = 2 ^ (k + 1) by rw [Nat.pow_succ]; omega]
    exact ih _ _ _
theorem refP_left (n k p p' a a' b : Nat) : refP n (p ^^^ p') (2 ^ k) (a ^^^ a') b = refP n p (2 ^ k) a b ^^^ refP n p' (2 ^ k) a' b := by
  induction n generalizing p p' k with
  | zero => rfl
  | succ n ih =>
    simp only [refP]
    have h : (a ^^^ a') * 2 ^ k = a * 2 ^ k ^^^ a' * 2 ^ k := by
      have := Nat.shiftLeft_xor_distrib (a := a) (b := a') (i := k); simpa [Nat.shiftLeft_eq] using this
    rw [h, mul_bit_left _ _ _ (bit_lt _), xor4, show 2 * 2 ^ k = 2 ^ (k + 1) by rw [Nat.pow_succ]; omega]
    exact ih _ _ _
theorem refR_xor (k p p' : Nat) : refR k (p ^^^ p') = refR k p ^^^ refR k p' := by
  induction k generalizing p p' with
  | zero => rfl
  | succ n ih =>
    simp only [refR]
    rw [divp_xor, mod2_xor, mul_bit_right _ _ _ (bit_lt _) (bit_lt _), xor4]
    exact ih _ _
theorem refMul_right (a b b' : Nat) : refMul a (b ^^^ b') = refMul a b ^^^ refMul a b' := by
  have h := refP_right 8 0 0 0 a b b'
  unfold refMul; rw [show (1 : Nat) = 2 ^ 0 from rfl, ← mod256_xor, ← refR_xor, ← h]; rfl
theorem refMul_left (a a' b : Nat) : refMul (a ^^^ a') b = refMul a b ^^^ refMul a' b := by
  have h := refP_left 8 0 0 0 a a' b
  unfold refMul; rw [show (1 : Nat) = 2 ^ 0 from rfl, ← mod256_xor, ← refR_xor, ← h]; rfl
theorem refMul_all : ∀ i, i < 8 → ∀ j, j < 8 → refMul (2 ^ i) (2 ^ j) = gmul (2 ^ i) (2 ^ j) := by decide +kernel
theorem refMul_eq (a b : Nat) (ha : a < 256) (hb : b < 256) : refMul a b = gmul a b := by
  revert b
  refine by_bits (fun a => ∀ b, b < 256 → refMul a b = gmul a b) ?_ ?_ ?_ a ha
  · intro b _; show _ = _; rw [gmul_zero_left]; have := refMul_left 0 0 b; simpa using this
  · intro i hi b hb
    refine by_bits (fun b => refMul (2 ^ i) b = gmul (2 ^ i) b) ?_ ?_ ?_ b hb
    · show _ = _; rw [gmul_zero_right]; have := refMul_right (2 ^ i) 0 0; simpa using this
    · intro j hj; exact refMul_all i hi j hj
    · intro x y hx hy h1 h2; show _ = _; rw [refMul_right, gmul_right, h1, h2]
  · intro x y hx hy h1 h2 b hb; show _ = _; rw [refMul_left, gmul_left _ _ _ hx hy, h1 b hb, h2 b hb]
/-- powers: the program's, by the number's bits -/
def powGo : Nat → Nat → Nat → Nat → Nat
  | 0, o, _, _ => o
  | f + 1, o, a, n => if n = 0 then o else powGo f (if n % 2 = 1 then gmul o a else o) (gmul a a) (n / 2)
def powN : Nat → Nat → Nat
  | _, 0 => 1
  | a, n + 1 => gmul (powN a n) a
def ginv (a : Nat) : Nat := powGo 8 1 a 254
theorem powN_lt (a n : Nat) : powN a n < 256 := by
  induction n with
  | zero => show 1 < 256; omega
  | succ n ih => exact gmul_lt _ _ ih
theorem powN_add (a m n : Nat) (ha : a < 256) : powN a (m + n) = gmul (powN a m) (powN a n) := by
  induction n with
  | zero => show powN a m = gmul (powN a m) 1; rw [gmul_one _ (powN_lt _ _)]
  | succ n ih => show gmul (powN a (m + n)) a = gmul (powN a m) (gmul (powN a n) a); rw [ih, gmul_assoc _ _ _ (powN_lt _ _) (powN_lt _ _) ha]
theorem powN_sq (a n : Nat) (ha : a < 256) : powN (gmul a a) n = powN a (2 * n) := by
  induction n with
  | zero => rfl
  | succ n ih =>
    show gmul (powN (gmul a a) n) (gmul a a) = gmul (gmul (powN a (2 * n)) a) a
    rw [ih, gmul_assoc _ _ _ (powN_lt _ _) ha ha]
theorem powGo_eq (f o a n : Nat) (hf : n < 2 ^ f) (ho : o < 256) (ha : a < 256) : powGo f o a n = gmul o (powN a n) := by
  induction f generalizing o a n with
  | zero => have : n = 0 := by simpa using hf
            subst this; show o = gmul o 1; rw [gmul_one _ ho]
  | succ f ih =>
    simp only [powGo]
    by_cases h0 : n = 0
    · subst h0; show o = gmul o 1; rw [gmul_one _ ho]
    · rw [if_neg h0, ih _ _ _ (by rw [Nat.pow_succ] at hf; omega) (by split; exact gmul_lt _ _ ho; exact ho) (gmul_lt _ _ ha), powN_sq _ _ ha]
      rcases bit_lt n with h | h
      · rw [if_neg (by omega), show 2 * (n / 2) = n by omega]
      · rw [if_pos h, ← gmul_assoc _ _ _ ho ha (powN_lt _ _), gmul_comm a _ ha (powN_lt _ _)]
        show gmul o (powN a (2 * (n / 2) + 1)) = _
        rw [show 2 * (n / 2) + 1 = n by omega]
theorem ginv_lt (a : Nat) (ha : a < 256) : ginv a < 256 := by
  unfold ginv; rw [powGo_eq 8 1 a 254 (by decide) (by omega) ha]; exact gmul_lt _ _ (by omega)
theorem inv_all : ∀ a, a < 256 → a = 0 ∨ gmul a (ginv a) = 1 := by decide +kernel
theorem ginv_zero : ginv 0 = 0 := by decide +kernel
theorem inv_unique (a k : Nat) (ha : a < 256) (hk : k < 256) (h : gmul a k = 1) : k = ginv a := by
  rcases inv_all a ha with rfl | hi
  · rw [gmul_zero_left] at h; cases h
  · have h1 : gmul (ginv a) (gmul a k) = gmul (gmul (ginv a) a) k := gmul_assoc _ _ _ (ginv_lt _ ha) ha hk
    rw [h, gmul_one _ (ginv_lt _ ha), gmul_comm (ginv a) a (ginv_lt _ ha) ha, hi, gmul_comm 1 k (by omega) hk, gmul_one _ hk] at h1
    exact h1.symm
end Go.Proofs.Ytjclofkkpgdjnaa.GfM
