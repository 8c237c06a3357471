/- Plain facts on four mixed bytes. -/
import Derived.Test.YtjclofkkpgdjnaaMixC
set_option linter.unusedVariables false
namespace Go.Proofs.Ytjclofkkpgdjnaa
open Go Go.RowKit GfM
theorem mixN_congr {c d : Nat → Nat} (h : ∀ j, j < 4 → c j = d j) (k : Nat) (hk : k < 4) : mixN c k = mixN d k := by
  unfold mixN; rw [h 0 (by omega), h 1 (by omega), h 2 (by omega), h 3 (by omega), h k hk, h ((k + 1) % 4) (by omega)]
theorem plainN_congr {c d : Nat → Nat} (h : ∀ j, j < 4 → c j = d j) (k : Nat) (hk : k < 4) : plainN c k = plainN d k := by
  unfold plainN; rw [h k hk, h ((k + 1) % 4) (by omega), h ((k + 2) % 4) (by omega), h ((k + 3) % 4) (by omega)]
theorem x6 (a b c d e f a' b' c' d' e' f' : Nat) : (a ^^^ a') ^^^ (b ^^^ b') ^^^ (c ^^^ c') ^^^ (d ^^^ d') ^^^ (e ^^^ e') ^^^ (f ^^^ f') = (a ^^^ b ^^^ c ^^^ d ^^^ e ^^^ f) ^^^ (a' ^^^ b' ^^^ c' ^^^ d' ^^^ e' ^^^ f') := by ac_rfl
theorem x4 (a b c d a' b' c' d' : Nat) : (a ^^^ a') ^^^ (b ^^^ b') ^^^ (c ^^^ c') ^^^ (d ^^^ d') = (a ^^^ b ^^^ c ^^^ d) ^^^ (a' ^^^ b' ^^^ c' ^^^ d') := by ac_rfl
theorem mixN_xor (c d : Nat → Nat) (hc : ∀ j, j < 4 → c j < 256) (hd : ∀ j, j < 4 → d j < 256) (k : Nat) (hk : k < 4) : mixN (fun j => c j ^^^ d j) k = mixN c k ^^^ mixN d k := by
  unfold mixN
  have e : (c k ^^^ d k) ^^^ (c ((k + 1) % 4) ^^^ d ((k + 1) % 4)) = (c k ^^^ c ((k + 1) % 4)) ^^^ (d k ^^^ d ((k + 1) % 4)) := xor4 _ _ _ _
  rw [e, tw_xor _ _ (xor_lt _ _ (hc k hk) (hc _ (by omega))) (xor_lt _ _ (hd k hk) (hd _ (by omega)))]
  exact x6 _ _ _ _ _ _ _ _ _ _ _ _
theorem plainN_xor (c d : Nat → Nat) (k : Nat) : plainN (fun j => c j ^^^ d j) k = plainN c k ^^^ plainN d k := by
  unfold plainN
  rw [gmul_right, gmul_right, gmul_right, gmul_right]
  exact x4 _ _ _ _ _ _ _ _
theorem mixN_lt (c : Nat → Nat) (hc : ∀ j, j < 4 → c j < 256) (k : Nat) (hk : k < 4) : mixN c k < 256 := by
  unfold mixN
  have h0 := isB_of (hc 0 (by omega))
  have h1 := isB_of (hc 1 (by omega))
  have h2 := isB_of (hc 2 (by omega))
  have h3 := isB_of (hc 3 (by omega))
  have h4 := isB_of (hc k hk)
  have h5 := isB_of (tw_lt _ (xor_lt _ _ (hc k hk) (hc ((k + 1) % 4) (by omega))))
  exact (isB_x (isB_x (isB_x (isB_x (isB_x h0 h1) h2) h3) h4) h5).2
theorem plainN_lt (c : Nat → Nat) (k : Nat) : plainN c k < 256 :=
  (isB_x (isB_x (isB_x (isB_of (gmul_lt 14 (c k) (by omega))) (isB_of (gmul_lt 11 (c ((k + 1) % 4)) (by omega)))) (isB_of (gmul_lt 13 (c ((k + 2) % 4)) (by omega)))) (isB_of (gmul_lt 9 (c ((k + 3) % 4)) (by omega)))).2
def single (p a j : Nat) : Nat := if j = p then a else 0
theorem single_xor (p a b j : Nat) : single p (a ^^^ b) j = single p a j ^^^ single p b j := by unfold single; split <;> simp
theorem single_lt (p a j : Nat) (h : a < 256) : single p a j < 256 := by unfold single; split <;> omega
theorem pm_all : ∀ p, p < 4 → ∀ i, i < 8 → ∀ k, k < 4 → plainN (mixN (single p (2 ^ i))) k = single p (2 ^ i) k ∧ mixN (plainN (single p (2 ^ i))) k = single p (2 ^ i) k := by decide +kernel
theorem pm_zero : ∀ p, p < 4 → ∀ k, k < 4 → plainN (mixN (single p 0)) k = single p 0 k ∧ mixN (plainN (single p 0)) k = single p 0 k := by decide +kernel
def PM (c : Nat → Nat) : Prop := ∀ k, k < 4 → plainN (mixN c) k = c k ∧ mixN (plainN c) k = c k
theorem PM_xor (c d : Nat → Nat) (hc : ∀ j, j < 4 → c j < 256) (hd : ∀ j, j < 4 → d j < 256) (h1 : PM c) (h2 : PM d) : PM (fun j => c j ^^^ d j) := by
  intro k hk
  constructor
  · rw [plainN_congr (fun j hj => mixN_xor c d hc hd j hj) k hk, plainN_xor, (h1 k hk).1, (h2 k hk).1]
  · rw [mixN_congr (fun j hj => plainN_xor c d j) k hk, mixN_xor _ _ (fun j _ => plainN_lt c j) (fun j _ => plainN_lt d j) k hk, (h1 k hk).2, (h2 k hk).2]
theorem PM_congr {c d : Nat → Nat} (h : ∀ j, j < 4 → c j = d j) (hd : PM d) : PM c := by
  intro k hk
  constructor
  · rw [plainN_congr (fun j hj => mixN_congr h j hj) k hk, (hd k hk).1, h k hk]
  · rw [mixN_congr (fun j hj => plainN_congr h j hj) k hk, (hd k hk).2, h k hk]
theorem PM_single (p : Nat) (hp : p < 4) (a : Nat) (ha : a < 256) : PM (single p a) := by
  refine by_bits (fun a => PM (single p a)) (fun k hk => pm_zero p hp k hk) (fun i hi k hk => pm_all p hp i hi k hk) ?_ a ha
  intro x y hx hy h1 h2
  exact PM_congr (fun j _ => single_xor p x y j) (PM_xor _ _ (fun j _ => single_lt p x j hx) (fun j _ => single_lt p y j hy) h1 h2)
theorem PM_any (c : Nat → Nat) (hc : ∀ j, j < 4 → c j < 256) : PM c := by
  have s : ∀ p, p < 4 → ∀ j, j < 4 → single p (c p) j < 256 := fun p hp j _ => single_lt p _ j (hc p hp)
  have h01 := PM_xor _ _ (s 0 (by omega)) (s 1 (by omega)) (PM_single 0 (by omega) _ (hc 0 (by omega))) (PM_single 1 (by omega) _ (hc 1 (by omega)))
  have h23 := PM_xor _ _ (s 2 (by omega)) (s 3 (by omega)) (PM_single 2 (by omega) _ (hc 2 (by omega))) (PM_single 3 (by omega) _ (hc 3 (by omega)))
  refine PM_congr ?_ (PM_xor _ _ (fun j hj => xor_lt _ _ (s 0 (by omega) j hj) (s 1 (by omega) j hj)) (fun j hj => xor_lt _ _ (s 2 (by omega) j hj) (s 3 (by omega) j hj)) h01 h23)
  intro j hj
  match j, hj with
  | 0, _ => simp [single]
  | 1, _ => simp [single]
  | 2, _ => simp [single]
  | 3, _ => simp [single]
/-- four numbers in a row -/
def vec (a b c d : Nat) : Nat → Nat
  | 0 => a
  | 1 => b
  | 2 => c
  | _ => d
theorem tw_all : ∀ i, i < 8 → gmul 2 (2 ^ i) = tw (2 ^ i) ∧ gmul 3 (2 ^ i) = tw (2 ^ i) ^^^ 2 ^ i ∧ gmul 1 (2 ^ i) = 2 ^ i := by decide +kernel
theorem gmul_123 (a : Nat) (ha : a < 256) : gmul 2 a = tw a ∧ gmul 3 a = tw a ^^^ a ∧ gmul 1 a = a := by
  refine by_bits (fun a => gmul 2 a = tw a ∧ gmul 3 a = tw a ^^^ a ∧ gmul 1 a = a) ?_ tw_all ?_ a ha
  · decide +kernel
  · intro x y hx hy ⟨h1, h2, h3⟩ ⟨g1, g2, g3⟩
    refine ⟨?_, ?_, ?_⟩
    · rw [gmul_right, h1, g1, tw_xor x y hx hy]
    · rw [gmul_right, h2, g2, tw_xor x y hx hy]; exact xor4 _ _ _ _
    · rw [gmul_right, h3, g3]
theorem xcan (a b c d t : Nat) : a ^^^ b ^^^ c ^^^ d ^^^ a ^^^ t = b ^^^ c ^^^ d ^^^ t := by
  have : a ^^^ b ^^^ c ^^^ d ^^^ a ^^^ t = (a ^^^ a) ^^^ (b ^^^ c ^^^ d ^^^ t) := by ac_rfl
  rw [this, Nat.xor_self, Nat.zero_xor]
theorem mix_col (c : Nat → Nat) (hc : ∀ j, j < 4 → c j < 256) (k : Nat) (hk : k < 4) : mixN c k = colN c (vec 2 3 1 1) k := by
  have key : ∀ a b d e : Nat, a < 256 → b < 256 → d < 256 → e < 256 → b ^^^ d ^^^ e ^^^ tw (a ^^^ b) = 0 ^^^ gmul 2 a ^^^ gmul 3 b ^^^ gmul 1 d ^^^ gmul 1 e := by
    intro a b d e ha hb hd he
    rw [(gmul_123 a ha).1, (gmul_123 b hb).2.1, (gmul_123 d hd).2.2, (gmul_123 e he).2.2, tw_xor a b ha hb, Nat.zero_xor]
    ac_rfl
  have h0 := hc 0 (by omega)
  have h1 := hc 1 (by omega)
  have h2 := hc 2 (by omega)
  have h3 := hc 3 (by omega)
  match k, hk with
  | 0, _ =>
    show c 0 ^^^ c 1 ^^^ c 2 ^^^ c 3 ^^^ c 0 ^^^ tw (c 0 ^^^ c 1) = _
    rw [xcan, key _ _ _ _ h0 h1 h2 h3]; rfl
  | 1, _ =>
    show c 0 ^^^ c 1 ^^^ c 2 ^^^ c 3 ^^^ c 1 ^^^ tw (c 1 ^^^ c 2) = _
    rw [show c 0 ^^^ c 1 ^^^ c 2 ^^^ c 3 = c 1 ^^^ c 2 ^^^ c 3 ^^^ c 0 by ac_rfl, xcan, key _ _ _ _ h1 h2 h3 h0]; rfl
  | 2, _ =>
    show c 0 ^^^ c 1 ^^^ c 2 ^^^ c 3 ^^^ c 2 ^^^ tw (c 2 ^^^ c 3) = _
    rw [show c 0 ^^^ c 1 ^^^ c 2 ^^^ c 3 = c 2 ^^^ c 3 ^^^ c 0 ^^^ c 1 by ac_rfl, xcan, key _ _ _ _ h2 h3 h0 h1]; rfl
  | 3, _ =>
    show c 0 ^^^ c 1 ^^^ c 2 ^^^ c 3 ^^^ c 3 ^^^ tw (c 3 ^^^ c 0) = _
    rw [show c 0 ^^^ c 1 ^^^ c 2 ^^^ c 3 = c 3 ^^^ c 0 ^^^ c 1 ^^^ c 2 by ac_rfl, xcan, key _ _ _ _ h3 h0 h1 h2]; rfl
theorem plain_col (c : Nat → Nat) (k : Nat) (hk : k < 4) : plainN c k = colN c (vec 14 11 13 9) k := by
  match k, hk with
  | 0, _ => simp [plainN, colN, colGo, vec]
  | 1, _ => simp [plainN, colN, colGo, vec]
  | 2, _ => simp [plainN, colN, colGo, vec]
  | 3, _ => simp [plainN, colN, colGo, vec]
/-- the worlds that are as W was below W's size -/
theorem below_class (W : World) : ∃ (S : Type) (f : S → World), (∀ s, Below W.heap.size W (f s)) ∧ (∀ w, Below W.heap.size W w → ∃ s, w = f s) :=
  ⟨{ w : World // Below W.heap.size W w }, Subtype.val, fun s => s.2, fun w h => ⟨⟨w, h⟩, rfl⟩⟩
theorem q_below {P : Program} {W : World} {S : Type} {f : S → World} (h1 : ∀ s, Below W.heap.size W (f s)) (h2 : ∀ w, Below W.heap.size W w → ∃ s, w = f s) {F : FuncId} {args : Array Value} {v : Value} {s : S}
    (h : Calls P F args (f s) fun e w' => e = .returned v ∧ Below (f s).heap.size (f s) w') : Calls P F args (f s) fun e w' => e = .returned v ∧ ∃ s', w' = f s' :=
  h.mono fun e w' ⟨he, hb⟩ => ⟨he, h2 w' ((h1 s).trans (hb.mono (h1 s).size))⟩
end Go.Proofs.Ytjclofkkpgdjnaa
