/- Lemmas for the proof. -/
import Derived.Test.YtnmdjggdgakeoaaGreatPXc
import Derived.Deep.MidRow
import Derived.Laws.Cover3
import Derived.Laws.CopyOwn
import Derived.Test.YtnmdjggdgakeoaaGreatProg
import Derived.Test.YtnmdjggdgakeoaaGreatPXb
import Derived.Deep.RegionHeld3
import Derived.StillTailTactics
set_option maxRecDepth 100000
set_option maxHeartbeats 16000000
set_option linter.unusedVariables false
set_option linter.unusedSimpArgs false
set_option linter.unusedSectionVars false
namespace Go.Proofs.YtnmdjggdgakeoaaGreat
open Go Go.RowKit
def ctrB (e b l : Nat) : List Nat := highB 8 e ++ (highB 4 b ++ (highB 2 l ++ [0, 0]))
theorem ctrB_len (e b l : Nat) : (ctrB e b l).length = 16 := by simp [ctrB, highB_len]
theorem zero16 : (Tryz.prog.info? 478).map (·.size) = some 16 := by kernel_rfl
theorem counter_c (e b l : Nat) (he : e < 18446744073709551616) (hb : b < 4294967296) (hl : l < 65536) (w : World) :
  Calls Tryz.prog 378 #[.int .u64 (e : Int), .int .u32 (b : Int), .int .u16 (l : Int)] w
   fun r w' => r = .returned (.agg (bA (ctrB e b l))) /\ Below w.heap.size w w' := by
 go_enter Tryz.func378, Tryz.ntmps378
 go_wp2_with fail
 refine (high_c 8 e he (by omega) (by omega) _ _ rfl rfl _).mono ?_
 rintro r w1 ⟨b1, rfl, hb1, hz1, hB1, hbel1⟩
 have hr1 := (hbel1.block w.heap.size (by simp)).trans (heap_new' w _)
 have HR1 := Lib.hid hr1;have HB1 := Lib.hid hB1;have hbw1 := (((Below.refl w.heap.size w).alloc (Nat.le_refl _) _).trans (hbel1.mono (by simp)))
 have hs1 : w.heap.size < w1.heap.size := by have := hbel1.size; simp at this; omega
 clear hr1 hB1 hbel1 hb1;go_wp2_with fail
 refine (high_c 4 b (by omega) (by omega) (by omega) _ _ rfl rfl _).mono ?_
 rintro r w2 ⟨b2, rfl, hb2, hz2, hB2, hbel2⟩
 have HR2 := Lib.hid ((hbel2.block w.heap.size hs1).trans HR1.out)
 have HC1 := Lib.hid ((hbel2.block b1 hz1).trans HB1.out)
 have HB2 := Lib.hid hB2;have hbw2 := hbw1.trans (hbel2.mono (by omega))
 have hs2 := hbel2.size
 clear hB2 hbel2 hb2 hbw1 HR1 HB1;go_wp2_with fail
 refine (high_c 2 l (by omega) (by omega) (by omega) _ _ rfl rfl _).mono ?_
 rintro r w3 ⟨b3, rfl, hb3, hz3, hB3, hbel3⟩
 have HR3 := Lib.hid ((hbel3.block w.heap.size (by omega)).trans HR2.out)
 have HD1 := Lib.hid ((hbel3.block b1 (by omega)).trans HC1.out)
 have HD2 := Lib.hid ((hbel3.block b2 (by omega)).trans HB2.out)
 have HD3 := Lib.hid hB3;have hbw3 := hbw2.trans (hbel3.mono (by omega))
 have hs3 := hbel3.size
 clear hB3 hbel3 hb3 hbw2 HR2 HC1 HB2;have HBW := Lib.hid hbw3;clear hbw3;go_wp2_with fail
 obtain ⟨segs, hsegs⟩ : ∃ segs : List (Nat × List Nat), segs = [(b1, highB 8 e), (b2, highB 4 b), (b3, highB 2 l), (w3.heap.size, [0, 0])] := ⟨_, rfl⟩
 have hlen : segs.length = 4 := by rw [hsegs]; rfl
 have htot : totL segs = 16 := by rw [hsegs]; simp [totL, highB_len]
 have hcat : catL segs = ctrB e b l := by rw [hsegs]; simp [catL, ctrB]
 have hsA : segA segs = #[.slice (some ⟨b1, 0, none⟩) 8 8, .slice (some ⟨b2, 0, none⟩) 4 4, .slice (some ⟨b3, 0, none⟩) 2 2, .slice (some ⟨w3.heap.size, 0, none⟩) 2 2] := by
  rw [hsegs]; simp [segA, segV, highB_len]
 obtain ⟨W, hW⟩ : ∃ W, W = (w3.alloc (.cells #[.int .u8 0, .int .u8 0] 5)).alloc (.cells #[.slice (some ⟨b1, 0, none⟩) 8 8, .slice (some ⟨b2, 0, none⟩) 4 4, .slice (some ⟨b3, 0, none⟩) 2 2, .slice (some ⟨w3.heap.size, 0, none⟩) 2 2] 22) := ⟨_, rfl⟩
 rw [<- hW];have hold : ∀ k, k < w3.heap.size -> W.heap[k]? = w3.heap[k]? := fun k hk => by
  rw [hW, heap_old' _ _ _ (by simp; omega), heap_old' _ _ _ hk]
 have hin : SegsIn W segs := by
  intro s hs;rw [hsegs] at hs;simp only [List.mem_cons, List.not_mem_nil, or_false] at hs
  rcases hs with rfl | rfl | rfl | rfl
  ·exact (hold _ (by show b1 < _; omega)).trans HD1.out
  ·exact (hold _ (by show b2 < _; omega)).trans HD2.out
  ·exact (hold _ (by show b3 < _; omega)).trans HD3.out
  ·show W.heap[w3.heap.size]? = _
   rw [hW, heap_old' _ _ _ (by simp), heap_new']; rfl
 have hbs : W.heap[w3.heap.size + 1]? = some (.cells (segA segs) 22 (0, 0)) := by
  rw [hW, hsA, show w3.heap.size + 1 = (w3.alloc (.cells #[.int .u8 0, .int .u8 0] 5)).heap.size by simp, heap_new']
 have hc := concat_c segs (w3.heap.size + 1) W hbs hin (by omega) (by omega) (by omega)
 rw [hlen] at hc;have hWr := (hold w.heap.size (by omega)).trans HR3.out
 have hWz : w3.heap.size + 2 = W.heap.size := by rw [hW]; simp
 have hbW : Below w.heap.size w W := by
  rw [hW]; exact (HBW.out.alloc (by omega) _).alloc (by simp; omega) _
 clear hW;refine hc.mono ?_
 rintro r w5 ⟨v, rfl, hown, hbel5⟩
 rw [htot, hcat] at hown
 obtain ⟨hxl, hv⟩ := hown
 rcases hv with ⟨rfl, hbad⟩ | ⟨g, cap, cur, rfl, hg, hcur, hcap, hcm, hsz, htk⟩
 ·omega
 have hr5 := (hbel5.block w.heap.size (by omega)).trans hWr
 have hrange : w5.rangeAt g 0 ((ctrB e b l).map fun (n : Nat) => Value.int .u8 (n : Int)) := by
  intro j v hv;rw [Nat.zero_add, cells_at hcur j, <- Array.getElem?_toList]
  rw [<- htk] at hv;rw [List.getElem?_take] at hv
  split at hv
  ·exact hv
  ·cases hv
 have HRG := Lib.hid hrange;have HR5 := Lib.hid hr5;have hb5 := Lib.hid (hbW.trans (hbel5.mono (by omega)))
 clear hrange hr5 hbel5 hbW hWr hc hbs hin hold hsA hcat htot hlen hsegs hxl hcur hsz htk HR3 HD1 HD2 HD3 HBW hg hWz;have ha : ∀ w, (Instr.arrayAt 478 (.slice (some ⟨g, 0, none⟩) 16 cap)).run Tryz.prog w = .ok (.pointer (some ⟨g, 0, none⟩)) w := fun w => run_arrayAt w 478 5 16 (some ⟨g, 0, none⟩) 16 cap Tryz.underlying478 (by omega)
 go_wp2_with (first
  | (refine wpList_load_mid rfl 478 (.tmp 20) rfl g 0 rfl _ _ HRG.out Tryz.underlying478 rfl (by rw [zero16]; simp [ctrB_len]) ?_)
  | (refine wpList_store_row rfl 478 (.tmp 6) (.tmp 21) rfl w.heap.size _ rfl rfl 478 _ HR5.out (by rw [zero16]; simp [ctrB_len]) (by simp [ctrB_len]) (by rw [<- Array.all_toList]; simp [Value.oneCell']) ?_))
 exact bodyPost_ret (results_cell_row rfl _ _ w.heap.size 478 (bA (ctrB e b l)) (0, 0) _ rfl (setRow_heap _ _ _ _ _ _ HR5.out) Tryz.underlying478 rfl (by rw [zero16, bA_size, ctrB_len])) rfl ⟨rfl, below_setRow hb5.out (Nat.le_refl _) _⟩
theorem upB_lt (e k : Nat) : upB e k < 256 := by unfold upB; omega
end Go.Proofs.YtnmdjggdgakeoaaGreat
namespace Go.Proofs.YtnmdjggdgakeoaaGreat.GfM
def tw (a : Nat) : Nat := (a * 2 % 256) ^^^ (27 * (a / 128))
def mulGo : Nat -> Nat -> Nat -> Nat -> Nat
 | 0, o, _, _ => o
 | n + 1, o, a, b => mulGo n (o ^^^ a * (b % 2)) (tw a) (b / 2)
def gmul (a b : Nat) : Nat := mulGo 8 0 a b
theorem mod2_xor (a b : Nat) : (a ^^^ b) % 2 = a % 2 ^^^ b % 2 := by
 have := Nat.xor_mod_two_pow (a := a) (b := b) (n := 1); simpa using this
theorem div2_xor (a b : Nat) : (a ^^^ b) / 2 = a / 2 ^^^ b / 2 := by
 have := Nat.shiftRight_xor_distrib (a := a) (b := b) (i := 1); simpa [Nat.shiftRight_eq_div_pow] using this
theorem div128_xor (a b : Nat) : (a ^^^ b) / 128 = a / 128 ^^^ b / 128 := by
 have := Nat.shiftRight_xor_distrib (a := a) (b := b) (i := 7); simpa [Nat.shiftRight_eq_div_pow] using this
theorem mul2_xor (a b : Nat) : (a ^^^ b) * 2 = a * 2 ^^^ b * 2 := by
 have := Nat.shiftLeft_xor_distrib (a := a) (b := b) (i := 1); simpa [Nat.shiftLeft_eq] using this
theorem mod256_xor (a b : Nat) : (a ^^^ b) % 256 = a % 256 ^^^ b % 256 := Nat.xor_mod_two_pow (n := 8)
theorem bit_lt (a : Nat) : a % 2 = 0 \/ a % 2 = 1 := by omega
theorem mul_bit_left (a a' x : Nat) (hx : x = 0 \/ x = 1) : (a ^^^ a') * x = a * x ^^^ a' * x := by
 rcases hx with rfl | rfl <;> simp
theorem mul_bit_right (a x y : Nat) (hx : x = 0 \/ x = 1) (hy : y = 0 \/ y = 1) : a * (x ^^^ y) = a * x ^^^ a * y := by
 rcases hx with rfl | rfl <;> rcases hy with rfl | rfl <;> simp
theorem xor4 (a b c d : Nat) : (a ^^^ b) ^^^ (c ^^^ d) = (a ^^^ c) ^^^ (b ^^^ d) := by
 ac_rfl
theorem tw_xor (a b : Nat) (ha : a < 256) (hb : b < 256) : tw (a ^^^ b) = tw a ^^^ tw b := by
 unfold tw;rw [mul2_xor, mod256_xor, div128_xor, mul_bit_right 27 _ _ (by omega) (by omega), xor4]
theorem tw_lt (a : Nat) (ha : a < 256) : tw a < 256 := by
 unfold tw; exact Nat.xor_lt_two_pow (n := 8) (by omega) (by omega)
theorem xor_lt (a b : Nat) (ha : a < 256) (hb : b < 256) : a ^^^ b < 256 := Nat.xor_lt_two_pow (n := 8) ha hb
theorem mb_lt (a b : Nat) (ha : a < 256) : a * (b % 2) < 256 := by rcases bit_lt b with h | h <;> rw [h] <;> omega
theorem mulGo_lt (n o a b : Nat) (ho : o < 256) (ha : a < 256) : mulGo n o a b < 256 := by
 induction n generalizing o a b with
 | zero => exact ho
 | succ n ih => exact ih _ _ _ (xor_lt _ _ ho (mb_lt a b ha)) (tw_lt a ha)
theorem gmul_lt (a b : Nat) (ha : a < 256) : gmul a b < 256 := mulGo_lt 8 0 a b (by omega) ha
theorem mulGo_left (n o o' a a' b : Nat) (ha : a < 256) (ha' : a' < 256) :
  mulGo n (o ^^^ o') (a ^^^ a') b = mulGo n o a b ^^^ mulGo n o' a' b := by
 induction n generalizing o o' a a' b with
 | zero => rfl
 | succ n ih =>
  simp only [mulGo]
  rw [mul_bit_left _ _ _ (bit_lt b), xor4, tw_xor a a' ha ha']
  exact ih _ _ _ _ _ (tw_lt a ha) (tw_lt a' ha')
theorem mulGo_right (n o o' a b b' : Nat) : mulGo n (o ^^^ o') a (b ^^^ b') = mulGo n o a b ^^^ mulGo n o' a b' := by
 induction n generalizing o o' a b b' with
 | zero => rfl
 | succ n ih =>
  simp only [mulGo]
  rw [mod2_xor, div2_xor, mul_bit_right _ _ _ (bit_lt b) (bit_lt b'), xor4]
  exact ih _ _ _ _ _
theorem gmul_left (a a' b : Nat) (ha : a < 256) (ha' : a' < 256) : gmul (a ^^^ a') b = gmul a b ^^^ gmul a' b :=
 mulGo_left 8 0 0 a a' b ha ha'
theorem gmul_right (a b b' : Nat) : gmul a (b ^^^ b') = gmul a b ^^^ gmul a b' := mulGo_right 8 0 0 a b b'
theorem by_bits (p : Nat -> Prop) (h0 : p 0) (hb : ∀ k, k < 8 -> p (2 ^ k)) (hx : ∀ a b, a < 256 -> b < 256 -> p a -> p b -> p (a ^^^ b)) :
  ∀ a, a < 256 -> p a := by
 have key : ∀ n, n <= 8 -> ∀ a, a < 2 ^ n -> p a := by
  intro n
  induction n with
  | zero =>
   intro _ a ha;have : a = 0 := by simpa using ha
   exact this ▸ h0
  | succ n ih =>
   intro hn a ha;have h8 : 2 ^ n <= 2 ^ 7 := Nat.pow_le_pow_right (by decide) (by omega)
   by_cases h : a < 2 ^ n
   ·exact ih (by omega) a h
   ·have e : a = 2 ^ n ^^^ (a - 2 ^ n) := by
     have hlt : a - 2 ^ n < 2 ^ n := by rw [Nat.pow_succ] at ha; omega
     have := Nat.two_pow_add_eq_or_of_lt hlt 1
     have h2 : 2 ^ n ^^^ (a - 2 ^ n) = 2 ^ n ||| (a - 2 ^ n) := by
      apply Nat.eq_of_testBit_eq; intro i
      rw [Nat.testBit_xor, Nat.testBit_or, Nat.testBit_two_pow]
      by_cases hi : n = i
      ·subst hi; rw [Nat.testBit_lt_two_pow hlt]; simp
      ·simp [hi]
     rw [h2]; simp at this; omega
    have hlt : a - 2 ^ n < 2 ^ n := by rw [Nat.pow_succ] at ha; omega
    rw [e];exact hx _ _ (by omega) (by omega) (hb n (by omega)) (ih (by omega) _ hlt)
 intro a ha;exact key 8 (by omega) a ha
theorem gmul_zero_left (b : Nat) : gmul 0 b = 0 := by
 have := gmul_left 0 0 b (by omega) (by omega); simpa using this
theorem gmul_zero_right (a : Nat) : gmul a 0 = 0 := by
 have := gmul_right a 0 0; simpa using this
theorem comm_all : ∀ i, i < 8 -> ∀ j, j < 8 -> gmul (2 ^ i) (2 ^ j) = gmul (2 ^ j) (2 ^ i) := by decide +kernel
theorem gmul_comm (a b : Nat) (ha : a < 256) (hb : b < 256) : gmul a b = gmul b a := by
 revert b
 refine by_bits (fun a => ∀ b, b < 256 -> gmul a b = gmul b a) ?_ ?_ ?_ a ha
 ·intro b _; rw [gmul_zero_left, gmul_zero_right]
 ·intro i hi b hb
  refine by_bits (fun b => gmul (2 ^ i) b = gmul b (2 ^ i)) ?_ ?_ ?_ b hb
  ·show _ = _; rw [gmul_zero_left, gmul_zero_right]
  ·intro j hj; exact comm_all i hi j hj
  ·intro x y hx hy h1 h2; show _ = _; rw [gmul_right, gmul_left _ _ _ hx hy, h1, h2]
 ·intro x y hx hy h1 h2 b hb; show _ = _; rw [gmul_left _ _ _ hx hy, gmul_right, h1 b hb, h2 b hb]
theorem assoc_all : ∀ i, i < 8 -> ∀ j, j < 8 -> ∀ k, k < 8 -> gmul (2 ^ i) (gmul (2 ^ j) (2 ^ k)) = gmul (gmul (2 ^ i) (2 ^ j)) (2 ^ k) := by decide +kernel
theorem gmul_assoc (a b c : Nat) (ha : a < 256) (hb : b < 256) (hc : c < 256) : gmul a (gmul b c) = gmul (gmul a b) c := by
 revert b c
 refine by_bits (fun a => ∀ b c, b < 256 -> c < 256 -> gmul a (gmul b c) = gmul (gmul a b) c) ?_ ?_ ?_ a ha
 ·intro b c _ _; simp only [gmul_zero_left]
 ·intro i hi b c hb
  revert c
  refine by_bits (fun b => ∀ c, c < 256 -> gmul (2 ^ i) (gmul b c) = gmul (gmul (2 ^ i) b) c) ?_ ?_ ?_ b hb
  ·intro c _; simp only [gmul_zero_left, gmul_zero_right]
  ·intro j hj c hc
   refine by_bits (fun c => gmul (2 ^ i) (gmul (2 ^ j) c) = gmul (gmul (2 ^ i) (2 ^ j)) c) ?_ ?_ ?_ c hc
   ·simp only [gmul_zero_right]
   ·intro k hk; exact assoc_all i hi j hj k hk
   ·intro x y hx hy h1 h2; show _ = _; rw [gmul_right, gmul_right, gmul_right, h1, h2]
  ·intro x y hx hy h1 h2 c hc
   have hi' : (2 : Nat) ^ i < 256 := by have := Nat.pow_le_pow_right (n := 2) (by decide) (show i <= 7 by omega); omega
   show _ = _; rw [gmul_left _ _ _ hx hy, gmul_right, gmul_right, gmul_left _ _ _ (gmul_lt _ _ hi') (gmul_lt _ _ hi'), h1 c hc, h2 c hc]
 ·intro x y hx hy h1 h2 b c hb hc; show _ = _
  rw [gmul_left _ _ _ hx hy, gmul_left _ _ _ hx hy, gmul_left _ _ _ (gmul_lt _ _ hx) (gmul_lt _ _ hy), h1 b c hb hc, h2 b c hb hc]
theorem one_all : ∀ i, i < 8 -> gmul (2 ^ i) 1 = 2 ^ i := by decide +kernel
theorem gmul_one (a : Nat) (ha : a < 256) : gmul a 1 = a := by
 refine by_bits (fun a => gmul a 1 = a) (gmul_zero_left 1) one_all ?_ a ha
 intro x y hx hy h1 h2; show _ = _; rw [gmul_left _ _ _ hx hy, h1, h2]
def powGo : Nat -> Nat -> Nat -> Nat -> Nat
 | 0, o, _, _ => o
 | f + 1, o, a, n => if n = 0 then o else powGo f (if n % 2 = 1 then gmul o a else o) (gmul a a) (n / 2)
def powN : Nat -> Nat -> Nat
 | _, 0 => 1
 | a, n + 1 => gmul (powN a n) a
def ginv (a : Nat) : Nat := powGo 8 1 a 254
theorem powN_lt (a n : Nat) : powN a n < 256 := by
 induction n with
 | zero => show 1 < 256; omega
 | succ n ih => exact gmul_lt _ _ ih
theorem powN_sq (a n : Nat) (ha : a < 256) : powN (gmul a a) n = powN a (2 * n) := by
 induction n with
 | zero => rfl
 | succ n ih =>
  show gmul (powN (gmul a a) n) (gmul a a) = gmul (gmul (powN a (2 * n)) a) a
  rw [ih, gmul_assoc _ _ _ (powN_lt _ _) ha ha]
theorem powGo_eq (f o a n : Nat) (hf : n < 2 ^ f) (ho : o < 256) (ha : a < 256) : powGo f o a n = gmul o (powN a n) := by
 induction f generalizing o a n with
 | zero =>
  have : n = 0 := by simpa using hf
  subst this; show o = gmul o 1; rw [gmul_one _ ho]
 | succ f ih =>
  simp only [powGo]
  by_cases h0 : n = 0
  ·subst h0; show o = gmul o 1; rw [gmul_one _ ho]
  ·rw [if_neg h0, ih _ _ _ (by rw [Nat.pow_succ] at hf; omega) (by split; exact gmul_lt _ _ ho; exact ho) (gmul_lt _ _ ha), powN_sq _ _ ha]
   rcases bit_lt n with h | h
   ·rw [if_neg (by omega), show 2 * (n / 2) = n by omega]
   ·rw [if_pos h, <- gmul_assoc _ _ _ ho ha (powN_lt _ _), gmul_comm a _ ha (powN_lt _ _)]
    show gmul o (powN a (2 * (n / 2) + 1)) = _
    rw [show 2 * (n / 2) + 1 = n by omega]
theorem ginv_lt (a : Nat) (ha : a < 256) : ginv a < 256 := by
 unfold ginv; rw [powGo_eq 8 1 a 254 (by decide) (by omega) ha]; exact gmul_lt _ _ (by omega)
end Go.Proofs.YtnmdjggdgakeoaaGreat.GfM
namespace Go.Proofs.YtnmdjggdgakeoaaGreat
open Go Go.RowKit GfM
theorem tw_int (a : Nat) (ha : a < 256) : bits BinOp.xor IntKind.u8 ((a : Int) * 2 % 256) (27 * ((a : Int) / 128)) = ((tw a : Nat) : Int) :=
 u8x (a := a * 2 % 256) (b := 27 * (a / 128)) (by omega) (by omega) (by omega) (by omega)
theorem twice_c (a : Nat) (ha : a < 256) (w : World) :
  Calls Tryz.prog 154 #[.int .u8 (a : Int)] w fun e w' => e = .returned (.int .u8 ((tw a : Nat) : Int)) /\ w = w' := by
 go_enter Tryz.func154, Tryz.ntmps154
 go_wp2
 go_ret
 exact ⟨ret_i (tw_int a ha), rfl⟩
theorem mulbit_int (x y o : Nat) (hx : x < 256) (hy : y < 256) (ho : o < 256) :
  bits BinOp.xor IntKind.u8 (o : Int) ((x : Int) * bits BinOp.and IntKind.u8 (y : Int) 1 % 256) = ((o ^^^ x * (y % 2) : Nat) : Int) := by
 refine u8x rfl ?_ ho (mb_lt x y hx)
 rw [u8a1 y hy]; have := mb_lt x y hx
 rw [<- Int.natCast_mul]; omega
theorem mul_c (a b : Nat) (ha : a < 256) (hb : b < 256) (w : World) :
  Calls Tryz.prog 118 #[.int .u8 (a : Int), .int .u8 (b : Int)] w fun e w' => e = .returned (.int .u8 ((gmul a b : Nat) : Int)) /\ w = w' := by
 go_enter Tryz.func118, Tryz.ntmps118
 go_wp2
 go_loop [0, 1, 5, 6] (fun va vb vo vi => ∃ (k x y o : Nat), k <= 8 /\ x < 256 /\ y < 256 /\ o < 256 /\ va = .int .u8 x /\ vb = .int .u8 y /\ vo = .int .u8 o /\ vi = .int .i64 k /\ Hid (mulGo (8 - k) o x y = gmul a b)) (fun _ _ _ vi => 8 - (intOf vi).toNat)
 case atStart => exact ⟨0, a, b, 0, by omega, ha, hb, by omega, rfl, rfl, rfl, rfl, rfl⟩
 case round =>
  obtain ⟨k, x, y, o, hk, hx, hy, ho, rfl, rfl, rfl, rfl, hm⟩ := hrel
  by_cases hlt : k < 8
  ·go_wp2_with (go_at_call 154; refine (twice_c x hx _).mono ?_; rintro e w' ⟨rfl, rfl⟩)
   go_round
   case rel => exact ⟨k + 1, tw x, y / 2, o ^^^ x * (y % 2), by omega, tw_lt x hx, by omega, xor_lt _ _ ho (mb_lt x y hx), rfl, by go_num, vint (mulbit_int x y o hx hy ho), by go_num, by rw [show 8 - k = (8 - (k + 1)) + 1 by omega] at hm; exact hm⟩
   case measure => simp [intOf]; omega
  ·have h8 : Hid (o = gmul a b) := by have := hm.out; rw [show 8 - k = 0 by omega] at this; exact this
   clear hm;go_wp2
   go_ret
   exact ⟨ret_i (by rw [h8.out]), rfl⟩
theorem powGo_step (f o x m : Nat) (h : 0 < m) : powGo (f + 1) o x m = powGo f (if m % 2 = 1 then gmul o x else o) (gmul x x) (m / 2) := by
 show (if m = 0 then o else _) = _
 rw [if_neg (by omega)]
theorem powGo_zero (f o x : Nat) : powGo f o x 0 = o := by cases f <;> simp [powGo]
theorem power_c (a n : Nat) (ha : a < 256) (hn : n < 2 ^ 32) (w : World) :
  Calls Tryz.prog 81 #[.int .u8 (a : Int), .int .i64 (n : Int)] w fun e w' => e = .returned (.int .u8 ((powN a n : Nat) : Int)) /\ w = w' := by
 go_enter Tryz.func81, Tryz.ntmps81
 go_wp2
 go_loop [0, 1, 5] (fun va vn vo => ∃ (f x m o : Nat), f <= 32 /\ m < 2 ^ f /\ x < 256 /\ o < 256 /\ m < 4294967296 /\ va = .int .u8 x /\ vn = .int .i64 m /\ vo = .int .u8 o /\ Hid (powGo f o x m = powN a n)) (fun _ vn _ => (intOf vn).toNat)
 case atStart => exact ⟨32, a, n, 1, by omega, hn, ha, by omega, hn, rfl, rfl, rfl, by rw [powGo_eq 32 1 a n hn (by omega) ha, gmul_comm _ _ (by omega) (powN_lt _ _), gmul_one _ (powN_lt _ _)]; exact rfl⟩
 case round =>
  obtain ⟨f, x, m, o, hf, hmf, hx, ho, hmm, rfl, rfl, rfl, hp⟩ := hrel
  clear hn
  by_cases h0 : 0 < m
  ·obtain ⟨f, rfl⟩ : ∃ g, f = g + 1 := by
    cases f with
    | zero => simp at hmf; omega
    | succ g => exact ⟨g, rfl⟩
   have hst := powGo_step f o x m h0
   have hm2 : m / 2 < 2 ^ f := by rw [Nat.pow_succ] at hmf; omega
   have HM2 := Lib.hid hm2;clear hmf hm2
   by_cases h1 : m % 2 = 1
   ·have hb := i64_odd m (by omega) h1
    have HP : Hid (powGo f (gmul o x) (gmul x x) (m / 2) = powN a n) := by rw [if_pos h1] at hst; rw [<- hst]; exact hp.out
    clear h1 hst hp;go_wp2_with (first | (go_at_call 118; (with_reducible refine (mul_c o x ho hx _).mono ?_); rintro e w' ⟨rfl, rfl⟩) | (go_at_call 118; (with_reducible refine (mul_c x x hx hx _).mono ?_); rintro e w' ⟨rfl, rfl⟩))
    go_round
    case rel => exact ⟨f, gmul x x, m / 2, gmul o x, by omega, HM2.out, gmul_lt _ _ hx, gmul_lt _ _ ho, by omega, rfl, by go_num, rfl, HP⟩
    case measure => simp [intOf]; omega
   ·have hb := i64_even m (by omega) h1
    have HP : Hid (powGo f o (gmul x x) (m / 2) = powN a n) := by rw [if_neg h1] at hst; rw [<- hst]; exact hp.out
    clear h1 hst hp;go_wp2_with (go_at_call 118; (with_reducible refine (mul_c x x hx hx _).mono ?_); rintro e w' ⟨rfl, rfl⟩)
    go_round
    case rel => exact ⟨f, gmul x x, m / 2, o, by omega, HM2.out, gmul_lt _ _ hx, ho, by omega, rfl, by go_num, rfl, HP⟩
    case measure => simp [intOf]; omega
  ·have hz : m = 0 := by omega
   subst hz;have HO : Hid (o = powN a n) := by have := hp.out; rw [powGo_zero] at this; exact this
   clear hp hmf;go_wp2
   go_ret
   exact ⟨ret_i (by rw [HO.out]), rfl⟩
theorem inv_c (a : Nat) (ha : a < 256) (w : World) :
  Calls Tryz.prog 63 #[.int .u8 (a : Int)] w fun e w' => e = .returned (.int .u8 ((ginv a : Nat) : Int)) /\ w = w' := by
 have hg : ginv a = powN a 254 := by unfold ginv; rw [powGo_eq 8 1 a 254 (by decide) (by omega) ha, gmul_comm _ _ (by omega) (powN_lt _ _), gmul_one _ (powN_lt _ _)]
 have HG := Lib.hid hg;clear hg
 go_enter Tryz.func63, Tryz.ntmps63
 go_wp2_with (go_at_call 81; (refine (power_c a 254 ha (by decide) _).mono ?_); rintro e w' ⟨rfl, rfl⟩)
 go_ret
 exact ⟨ret_i (by rw [HG.out]), rfl⟩
def rot (i k : Nat) : Nat := (i * 2 ^ k % 256) ||| (i / 2 ^ (8 - k))
def aff (i : Nat) : Nat := i ^^^ rot i 1 ^^^ rot i 2 ^^^ rot i 3 ^^^ rot i 4 ^^^ 99
theorem rot_lt (i k : Nat) (hi : i < 256) : rot i k < 256 := by
 refine Nat.or_lt_two_pow (n := 8) (by omega) ?_
 exact Nat.lt_of_le_of_lt (Nat.div_le_self _ _) hi
theorem rot_int (i k : Nat) (hi : i < 256) : bits BinOp.or IntKind.u8 ((i : Int) * 2 ^ k % 256) ((i : Int) / 2 ^ (8 - k)) = ((rot i k : Nat) : Int) :=
 u8o (by simp) (by simp) (by omega) (Nat.lt_of_le_of_lt (Nat.div_le_self _ _) hi)
theorem turned_c (i k : Nat) (hi : i < 256) (hk : k <= 8) (p : Addr) (w : World) (hc : w.cell? p = some (.int .u8 i)) :
  Calls Tryz.prog 82 #[.int .i64 (k : Int), .pointer (some p)] w fun e w' => e = .returned (.int .u8 ((rot i k : Nat) : Int)) /\ ∃ n, w' = w.drewN n := by
 have h8 : (0 : Int) <= 8 - (k : Int) := by omega
 go_enter Tryz.func82, Tryz.ntmps82
 go_wp2
 go_quiet (fail)
 go_wp2
 go_ret
 exact ⟨ret_i (rot_int i k hi), _, rfl⟩
theorem turned_q (i k : Nat) (K : Int) (hK : K = (k : Int)) (hi : i < 256) (hk : k <= 8) (p : Addr) (w : World) (n : Nat) (hc : w.cell? p = some (.int .u8 i)) :
  Calls Tryz.prog 82 #[.int .i64 K, .pointer (some p)] (w.drewN n) fun e w' => e = .returned (.int .u8 ((rot i k : Nat) : Int)) /\ ∃ m, w' = w.drewN m :=
 hK ▸ Calls.quiet_of (turned_c i k hi hk p _ (by simpa using hc))
theorem aff_int (i : Nat) (hi : i < 256) :
 bits BinOp.xor IntKind.u8 (bits BinOp.xor IntKind.u8 (bits BinOp.xor IntKind.u8 (bits BinOp.xor IntKind.u8 (bits BinOp.xor IntKind.u8 (i : Int) ((rot i 1 : Nat) : Int)) ((rot i 2 : Nat) : Int)) ((rot i 3 : Nat) : Int)) ((rot i 4 : Nat) : Int)) 99 = ((aff i : Nat) : Int) := by
 have h1 := rot_lt i 1 hi
 have h2 := rot_lt i 2 hi
 have h3 := rot_lt i 3 hi
 have h4 := rot_lt i 4 hi
 exact u8x (u8x (u8x (u8x (u8x rfl rfl hi h1) rfl (xor_lt _ _ hi h1) h2) rfl (xor_lt _ _ (xor_lt _ _ hi h1) h2) h3) rfl (xor_lt _ _ (xor_lt _ _ (xor_lt _ _ hi h1) h2) h3) h4) rfl (xor_lt _ _ (xor_lt _ _ (xor_lt _ _ (xor_lt _ _ hi h1) h2) h3) h4) (by omega)
theorem affine_c (i : Nat) (hi : i < 256) (w : World) :
  Calls Tryz.prog 62 #[.int .u8 (i : Int)] w fun e w' => e = .returned (.int .u8 ((aff i : Nat) : Int)) /\ Below w.heap.size w w' := by
 have hc : (w.alloc (.cells #[.int .u8 (i : Int)] 5)).cell? ⟨w.heap.size, 0, none⟩ = some (.int .u8 i) := by simp
 go_enter Tryz.func62, Tryz.ntmps62
 go_wp2
 go_quiet ((go_at_call 82; (with_reducible first | exact turned_q i 1 1 rfl hi (by omega) _ _ _ hc | exact turned_q i 2 2 rfl hi (by omega) _ _ _ hc | exact turned_q i 3 3 rfl hi (by omega) _ _ _ hc | exact turned_q i 4 4 rfl hi (by omega) _ _ _ hc)))
 go_wp2
 go_ret
 exact ⟨ret_i (aff_int i hi), below_drewN ((Below.refl _ _).alloc (Nat.le_refl _) _) _⟩
def SB : List Nat := [99, 124, 119, 123, 242, 107, 111, 197, 48, 1, 103, 43, 254, 215, 171, 118,
 202, 130, 201, 125, 250, 89, 71, 240, 173, 212, 162, 175, 156, 164, 114, 192,
 183, 253, 147, 38, 54, 63, 247, 204, 52, 165, 229, 241, 113, 216, 49, 21,
 4, 199, 35, 195, 24, 150, 5, 154, 7, 18, 128, 226, 235, 39, 178, 117,
 9, 131, 44, 26, 27, 110, 90, 160, 82, 59, 214, 179, 41, 227, 47, 132,
 83, 209, 0, 237, 32, 252, 177, 91, 106, 203, 190, 57, 74, 76, 88, 207,
 208, 239, 170, 251, 67, 77, 51, 133, 69, 249, 2, 127, 80, 60, 159, 168,
 81, 163, 64, 143, 146, 157, 56, 245, 188, 182, 218, 33, 16, 255, 243, 210,
 205, 12, 19, 236, 95, 151, 68, 23, 196, 167, 126, 61, 100, 93, 25, 115,
 96, 129, 79, 220, 34, 42, 144, 136, 70, 238, 184, 20, 222, 94, 11, 219,
 224, 50, 58, 10, 73, 6, 36, 92, 194, 211, 172, 98, 145, 149, 228, 121,
 231, 200, 55, 109, 141, 213, 78, 169, 108, 86, 244, 234, 101, 122, 174, 8,
 186, 120, 37, 46, 28, 166, 180, 198, 232, 221, 116, 31, 75, 189, 139, 138,
 112, 62, 181, 102, 72, 3, 246, 14, 97, 53, 87, 185, 134, 193, 29, 158,
 225, 248, 152, 17, 105, 217, 142, 148, 155, 30, 135, 233, 206, 85, 40, 223,
 140, 161, 137, 13, 191, 230, 66, 104, 65, 153, 45, 15, 176, 84, 187, 22]
def BK : List Nat := [82, 9, 106, 213, 48, 54, 165, 56, 191, 64, 163, 158, 129, 243, 215, 251,
 124, 227, 57, 130, 155, 47, 255, 135, 52, 142, 67, 68, 196, 222, 233, 203,
 84, 123, 148, 50, 166, 194, 35, 61, 238, 76, 149, 11, 66, 250, 195, 78,
 8, 46, 161, 102, 40, 217, 36, 178, 118, 91, 162, 73, 109, 139, 209, 37,
 114, 248, 246, 100, 134, 104, 152, 22, 212, 164, 92, 204, 93, 101, 182, 146,
 108, 112, 72, 80, 253, 237, 185, 218, 94, 21, 70, 87, 167, 141, 157, 132,
 144, 216, 171, 0, 140, 188, 211, 10, 247, 228, 88, 5, 184, 179, 69, 6,
 208, 44, 30, 143, 202, 63, 15, 2, 193, 175, 189, 3, 1, 19, 138, 107,
 58, 145, 17, 65, 79, 103, 220, 234, 151, 242, 207, 206, 240, 180, 230, 115,
 150, 172, 116, 34, 231, 173, 53, 133, 226, 249, 55, 232, 28, 117, 223, 110,
 71, 241, 26, 113, 29, 41, 197, 137, 111, 183, 98, 14, 170, 24, 190, 27,
 252, 86, 62, 75, 198, 210, 121, 32, 154, 219, 192, 254, 120, 205, 90, 244,
 31, 221, 168, 51, 136, 7, 199, 49, 177, 18, 16, 89, 39, 128, 236, 95,
 96, 81, 127, 169, 25, 181, 74, 13, 45, 229, 122, 159, 147, 201, 156, 239,
 160, 224, 59, 77, 174, 42, 245, 176, 200, 235, 187, 60, 131, 83, 153, 97,
 23, 43, 4, 126, 186, 119, 214, 38, 225, 105, 20, 99, 85, 33, 12, 125]
def sbx (k : Nat) : Nat := SB.getD k 0
def bkx (k : Nat) : Nat := BK.getD k 0
theorem sb_all : ∀ k, k < 256 -> aff (ginv k) = sbx k := by decide +kernel
theorem sbx_lt_all : ∀ k, k < 256 -> sbx k < 256 /\ bkx k < 256 := by decide +kernel
theorem sbx_bkx_all : ∀ k, k < 256 -> sbx (bkx k) = k /\ bkx (sbx k) = k := by decide +kernel
theorem sbx_lt (k : Nat) (h : k < 256) : sbx k < 256 := (sbx_lt_all k h).1
theorem bkx_lt (k : Nat) (h : k < 256) : bkx k < 256 := (sbx_lt_all k h).2
theorem sbx_bkx (k : Nat) (h : k < 256) : sbx (bkx k) = k := (sbx_bkx_all k h).1
theorem bkx_sbx (k : Nat) (h : k < 256) : bkx (sbx k) = k := (sbx_bkx_all k h).2
noncomputable def boxA : Nat -> Array Value
 | 0 => Tryz.zeroCells154
 | k + 1 => ((boxA k).setIfInBounds k (.int .u8 (sbx k : Int))).setIfInBounds (256 + sbx k) (.int .u8 (k : Int))
theorem zero_size : (Tryz.zeroCells154).size = 512 := by kernel_rfl
theorem boxA_size (k : Nat) : (boxA k).size = 512 := by
 induction k with
 | zero => exact zero_size
 | succ k ih => simp [boxA, ih]
theorem boxA_sub (k : Nat) (hk : k <= 256) (j : Nat) (hj : j < k) : (boxA k)[j]? = some (.int .u8 (sbx j : Int)) := by
 induction k with
 | zero => omega
 | succ k ih =>
  have hs := sbx_lt k (by omega)
  simp only [boxA, Array.getElem?_setIfInBounds, Array.size_setIfInBounds, boxA_size]
  rw [if_neg (by omega)]
  by_cases e : k = j
  ·subst e; simp; omega
  ·rw [if_neg e]; exact ih (by omega) (by omega)
theorem boxA_back (k : Nat) (hk : k <= 256) (j : Nat) (hj : j < k) : (boxA k)[256 + sbx j]? = some (.int .u8 (j : Int)) := by
 induction k with
 | zero => omega
 | succ k ih =>
  have hs := sbx_lt k (by omega)
  have hs' := sbx_lt j (by omega)
  simp only [boxA, Array.getElem?_setIfInBounds, Array.size_setIfInBounds, boxA_size]
  by_cases e : k = j
  ·subst e; simp; omega
  ·have hne : sbx k ≠ sbx j := by
    intro h;have := congrArg bkx h
    rw [bkx_sbx k (by omega), bkx_sbx j (by omega)] at this
    exact e this
   rw [if_neg (by omega), if_neg (by omega)]; exact ih (by omega) (by omega)
theorem boxA_has (k o : Nat) (ho : o < 512) : ∃ v, (boxA k)[o]? = some v := ⟨(boxA k)[o]'(by rw [boxA_size]; exact ho), by simp [boxA_size, ho]⟩
def IsBox (w : World) (b : Nat) : Prop := w.heap[b]? = some (.cells (boxA 256) 154 (0, 0))
theorem IsBox.sub {w : World} {b : Nat} (h : IsBox w b) (c : Nat) (hc : c < 256) : w.cell? ⟨b, c, none⟩ = some (.int .u8 (sbx c : Int)) := by
 unfold IsBox at h
 simp [World.cell?, h, boxA_sub 256 (by omega) c hc]
theorem IsBox.back {w : World} {b : Nat} (h : IsBox w b) (c : Nat) (hc : c < 256) : w.cell? ⟨b, 256 + c, none⟩ = some (.int .u8 (bkx c : Int)) := by
 unfold IsBox at h
 have := boxA_back 256 (by omega) (bkx c) (bkx_lt c hc)
 rw [sbx_bkx c hc] at this
 simp [World.cell?, h, this]
theorem cells_of {w : World} {b : Nat} {A : Array Value} {t : TypeId} (h : w.heap[b]? = some (.cells A t (0, 0))) (o : Nat) : w.cell? ⟨b, o, none⟩ = A[o]? := by simp [World.cell?, h]
theorem free_of {w : World} {b : Nat} {A : Array Value} {t : TypeId} (h : w.heap[b]? = some (.cells A t (0, 0))) (o : Nat) : w.frozen? ⟨b, o, none⟩ = false := by simp [World.frozen?, h]
theorem block_set {w : World} {b : Nat} {A : Array Value} {t : TypeId} {z : Nat × Nat} (h : w.heap[b]? = some (.cells A t z)) (o : Nat) (v : Value) :
  (w.setCell ⟨b, o, none⟩ v).heap[b]? = some (.cells (A.setIfInBounds o v) t z) := by
 simp [World.setCell, Array.getElem?_modify, h]
theorem newbox_c (w : World) :
  Calls Tryz.prog 44 #[] w fun e w' => e = .returned (.pointer (some ⟨w.heap.size, 0, none⟩)) /\ IsBox w' w.heap.size /\ w.heap.size < w'.heap.size /\ Below w.heap.size w w' := by
 have h0 : (w.alloc (Obj.cells (Tryz.zeroCells154) 154)).heap[w.heap.size]? = some (.cells (boxA 0) 154 (0, 0)) := by
  show (w.heap.push _)[_]? = _
  simp [boxA]
 have H0 := Lib.hid h0;clear h0
 go_enter Tryz.func44, Tryz.ntmps44
 go_wp2
 go_loopw [6] (fun vi wr => ∃ k : Nat, k <= 256 /\ vi = .int .i64 k /\ Hid (wr.heap[w.heap.size]? = some (.cells (boxA k) 154 (0, 0))) /\ w.heap.size < wr.heap.size /\ Below w.heap.size w wr) (fun vi _ => 256 - (intOf vi).toNat)
 case atStart => exact ⟨0, by omega, rfl, H0, by simp, (Below.refl _ _).alloc (Nat.le_refl _) _⟩
 case round =>
  obtain ⟨k, hk, rfl, hb, hz, hbel⟩ := hrel
  clear H0
  by_cases hlt : k < 256
  ·have hs := sbx_lt k hlt
   go_wp2_with (first
    | (go_at_call 63; (with_reducible refine (inv_c k hlt _).mono ?_); rintro e w' ⟨rfl, rfl⟩)
    | (go_at_call 62; (with_reducible refine (affine_c _ (ginv_lt k hlt) _).mono ?_); rintro e w1 ⟨rfl, hb1⟩; rw [sb_all k hlt]; have hB1 := (hb1.block w.heap.size hz).trans hb.out; obtain ⟨v1, hv1⟩ := boxA_has k k (by omega); obtain ⟨v2, hv2⟩ := boxA_has k (256 + sbx k) (by omega); have hc1 := (cells_of hB1 k).trans hv1; have hf1 := free_of hB1 k; have hc2 := (cells_of hB1 (256 + sbx k)).trans hv2; have hf2 := free_of hB1 (256 + sbx k); have HB1 := Lib.hid hB1; clear hB1 hv1 hv2))
   go_roundw
   case rel =>
    have h1 := block_set (block_set HB1.out k (.int .u8 (sbx k : Int))) (256 + sbx k) (.int .u8 (k : Int))
    exact ⟨k + 1, by omega, by go_num, h1, by have := hb1.size; simp [World.setCell]; omega, ((hbel.trans (hb1.mono (by omega))).setCell (by simp) _).setCell (by simp) _⟩
   case measure => simp [intOf]; omega
  ·have hk6 : k = 256 := by omega
   subst hk6;go_wp2
   go_ret
   exact ⟨rfl, hb.out, hz, hbel⟩
theorem sub_c (w : World) (b c : Nat) (hc : c < 256) (h : IsBox w b) :
  Calls Tryz.prog 117 #[.pointer (some ⟨b, 0, none⟩), .int .u8 (c : Int)] w fun e w' => e = .returned (.int .u8 (sbx c : Int)) /\ w = w' := by
 have h1 := h.sub c hc
 clear h
 go_enter Tryz.func117, Tryz.ntmps117
 go_wp2
 go_ret
 exact ⟨rfl, rfl⟩
theorem IsBox.later {w w' : World} {b B : Nat} (h : IsBox w b) (hb : Below B w w') (hB : b < B) : IsBox w' b := (hb.block b hB).trans h
theorem IsBox.lt {w : World} {b : Nat} (h : IsBox w b) : b < w.heap.size := lt_of_block h
theorem ex2 : sbx 0 = 99 := by decide +kernel
def v4 (c : Nat -> Nat) : Array Value := #[.int .u8 (c 0 : Int), .int .u8 (c 1 : Int), .int .u8 (c 2 : Int), .int .u8 (c 3 : Int)]
theorem v4_get (c : Nat -> Nat) (k : Nat) (h : k < 4) : (v4 c)[k]? = some (.int .u8 (c k : Int)) := by
 match k, h with
 | 0, _ => rfl
 | 1, _ => rfl
 | 2, _ => rfl
 | 3, _ => rfl
def isB (X : Int) (a : Nat) : Prop := X = (a : Int) /\ a < 256
theorem isB_of {a : Nat} (h : a < 256) : isB (a : Int) a := ⟨rfl, h⟩
theorem isB_x {X Y : Int} {a b : Nat} (h1 : isB X a) (h2 : isB Y b) : isB (bits BinOp.xor IntKind.u8 X Y) (a ^^^ b) := ⟨u8x h1.1 h2.1 h1.2 h2.2, xor_lt _ _ h1.2 h2.2⟩
def mixN (c : Nat -> Nat) (k : Nat) : Nat := c 0 ^^^ c 1 ^^^ c 2 ^^^ c 3 ^^^ c k ^^^ tw (c k ^^^ c ((k + 1) % 4))
theorem mixed_c (c : Nat -> Nat) (hc : ∀ j, j < 4 -> c j < 256) (k : Nat) (hk : k < 4) (w : World) :
  Calls Tryz.prog 403 #[.agg (v4 c), .int .i64 (k : Int)] w fun e w' => e = .returned (.int .u8 ((mixN c k : Nat) : Int)) /\ Below w.heap.size w w' := by
 have W : ∃ W, W = w.alloc (.cells (v4 c) 507) := ⟨_, rfl⟩
 obtain ⟨W, hW⟩ := W
 have f : ∀ j, j < 4 -> W.cell? ⟨w.heap.size, j, none⟩ = some (.int .u8 (c j : Int)) := fun j hj => by
  rw [hW, World.cell?_alloc_new]; exact v4_get c j hj
 have f0 := f 0 (by omega)
 have f1 := f 1 (by omega)
 have f2 := f 2 (by omega)
 have f3 := f 3 (by omega)
 have fk := f k hk
 have fk1 := f ((k + 1) % 4) (by omega)
 clear f;have e1 : IntKind.i64.wrap ((k : Int) + 1) = (k : Int) + 1 := IntWalk.i64_in _ (by omega)
 have e2 : ((k : Int) + 1).tmod 4 = (((k + 1) % 4 : Nat) : Int) := by rw [Int.tmod_eq_emod_of_nonneg (by omega)]; omega
 have e3 : ((k + 1) % 4) < 4 := by omega
 go_enter Tryz.func403, Tryz.ntmps403
 go_wp2
 rw [<- hW];have HW := Lib.hid hW;clear hW;have hx := xor_lt _ _ (hc k hk) (hc ((k + 1) % 4) e3)
 have E : Hid (bits BinOp.xor IntKind.u8 (c k : Int) (c ((k + 1) % 4) : Int) = ((c k ^^^ c ((k + 1) % 4) : Nat) : Int)) := u8x rfl rfl (hc k hk) (hc _ e3)
 have HC := Lib.hid hc;clear hc
 go_quiet ((go_at_call 154; rw [E.out]; exact Calls.quiet_of_same ((twice_c _ hx _).mono fun _ _ h => ⟨h.1, h.2.symm⟩)))
 go_wp2
 go_ret
 have hc := HC.out
 have h0 := isB_of (hc 0 (by omega))
 have h1 := isB_of (hc 1 (by omega))
 have h2 := isB_of (hc 2 (by omega))
 have h3 := isB_of (hc 3 (by omega))
 have h4 := isB_of (hc k hk)
 have h5 := isB_of (tw_lt _ hx)
 exact ⟨ret_i (isB_x (isB_x (isB_x (isB_x (isB_x h0 h1) h2) h3) h4) h5).1, by rw [HW.out]; exact below_drewN ((Below.refl _ _).alloc (Nat.le_refl _) _) _⟩
theorem heap_new (w : World) (o : Obj) : (w.alloc o).heap[w.heap.size]? = some o := by
 show (w.heap.push _)[_]? = _
 simp
theorem heap_old (w : World) (o : Obj) (k : Nat) (h : k < w.heap.size) : (w.alloc o).heap[k]? = w.heap[k]? := Below.heap_alloc w o k h
def cutf (g : Nat -> Nat) (k j : Nat) : Nat := if j < k then g j else 0
theorem v4_ext {c d : Nat -> Nat} (h : ∀ j, j < 4 -> c j = d j) : v4 c = v4 d := by
 unfold v4; rw [h 0 (by omega), h 1 (by omega), h 2 (by omega), h 3 (by omega)]
theorem v4_set (g : Nat -> Nat) (k : Nat) (h : k < 4) : (v4 (cutf g k)).setIfInBounds k (.int .u8 (g k : Int)) = v4 (cutf g (k + 1)) := by
 match k, h with
 | 0, _ => rfl
 | 1, _ => rfl
 | 2, _ => rfl
 | 3, _ => rfl
theorem v4_full (g : Nat -> Nat) : v4 (cutf g 4) = v4 g := v4_ext fun j hj => by unfold cutf; rw [if_pos hj]
theorem ret_agg4 (fn : Func) (R : Ending -> World -> Prop) (a : Act) (g : Nat -> Nat) (w : World) {s : Nat} (hres : fn.results = #[.cell s 149]) (hun : Tryz.prog.underlying 149 = some (.array 4 5)) (b : Nat)
  (hs : a.tmps.getD s undef = .pointer (some ⟨b, 0, none⟩)) (hb : w.heap[b]? = some (.cells (v4 g) 149 (0, 0))) (hd : a.defers = []) (hR : R (.returned (.agg (v4 g))) w) : bodyPost Tryz.prog fn R .ret a w := by
 have c0 := (cells_of hb 0).trans (v4_get g 0 (by omega))
 have c1 := (cells_of hb 1).trans (v4_get g 1 (by omega))
 have c2 := (cells_of hb 2).trans (v4_get g 2 (by omega))
 have c3 := (cells_of hb 3).trans (v4_get g 3 (by omega))
 refine bodyPost_ret (v := .agg (v4 g)) ?_ hd hR
 have hs' : a.tmps[s]?.getD undef = .pointer (some ⟨b, 0, none⟩) := by simpa using hs
 simp [results, hres, hs', go_sem, c0, c1, c2, c3, v4]
theorem each_c (F : FuncId) (c g : Nat -> Nat)
  (hF : ∀ k : Nat, k < 4 -> ∀ w : World, Calls Tryz.prog F #[.agg (v4 c), .int .i64 (k : Int)] w fun e w' => e = .returned (.int .u8 ((g k : Nat) : Int)) /\ Below w.heap.size w w')
  (hcall : ∀ (x y : Value) (w : World), Sem.run Tryz.prog (callFunc F #[x, y]) w = .ok (.enter F #[x, y]) w) (w : World) :
  Calls Tryz.prog 402 #[.agg (v4 c), .func (.func F) #[] #[]] w fun e w' => e = .returned (.agg (v4 g)) /\ Below w.heap.size w w' := by
 have hF' : ∀ k : Nat, k < 4 -> ∀ w : World, Calls Tryz.prog F #[.agg #[.int .u8 (c 0 : Int), .int .u8 (c 1 : Int), .int .u8 (c 2 : Int), .int .u8 (c 3 : Int)], .int .i64 (k : Int)] w fun e w' => e = .returned (.int .u8 ((g k : Nat) : Int)) /\ Below w.heap.size w w' := hF
 have HF := Lib.hid hF';clear hF hF';have b0 : ∀ (o1 o2 : Obj), (((w.alloc (Obj.cells (v4 c) 507)).alloc o1).alloc o2).heap[w.heap.size]? = some (.cells (v4 c) 507 (0, 0)) := fun o1 o2 => by
  rw [heap_old _ _ _ (by simp; omega), heap_old _ _ _ (by simp), heap_new]
 have b1 : ∀ (o0 o2 : Obj), (((w.alloc o0).alloc (Obj.cells (v4 (cutf g 0)) 149)).alloc o2).heap[w.heap.size + 1]? = some (.cells (v4 (cutf g 0)) 149 (0, 0)) := fun o0 o2 => by
  rw [heap_old _ _ _ (by simp), show w.heap.size + 1 = (w.alloc o0).heap.size by simp, heap_new]
 have b2 : ∀ (o0 o1 : Obj), (((w.alloc o0).alloc o1).alloc (Obj.cells (v4 (cutf g 0)) 149)).heap[w.heap.size + 1 + 1]? = some (.cells (v4 (cutf g 0)) 149 (0, 0)) := fun o0 o1 => by
  rw [show w.heap.size + 1 + 1 = ((w.alloc o0).alloc o1).heap.size by simp, heap_new]
 have B0 := Lib.hid b0
 have B1 := Lib.hid b1
 have B2 := Lib.hid b2
 clear b0 b1 b2
 go_enter Tryz.func402, Tryz.ntmps402
 go_wp2
 go_loopw [7] (fun vi wr => ∃ k : Nat, k <= 4 /\ vi = .int .i64 k /\ Hid (wr.heap[w.heap.size]? = some (.cells (v4 c) 507 (0, 0))) /\ Hid (wr.heap[w.heap.size + 1]? = some (.cells (v4 (cutf g 0)) 149 (0, 0))) /\ Hid (wr.heap[w.heap.size + 1 + 1]? = some (.cells (v4 (cutf g k)) 149 (0, 0))) /\ w.heap.size + 2 < wr.heap.size /\ Below w.heap.size w wr) (fun vi _ => 4 - (intOf vi).toNat)
 case atStart => exact ⟨0, by omega, rfl, B0.out _ _, B1.out _ _, B2.out _ _, by simp, ((((Below.refl _ _).alloc (Nat.le_refl _) _).alloc (by simp) _).alloc (by simp; omega) _)⟩
 case round =>
  obtain ⟨k, hk, rfl, h0, h1, h2, hz, hbel⟩ := hrel
  clear B0 B1 B2
  by_cases hlt : k < 4
  ·have c0 := (cells_of h0.out 0).trans (v4_get c 0 (by omega))
   have c1 := (cells_of h0.out 1).trans (v4_get c 1 (by omega))
   have c2 := (cells_of h0.out 2).trans (v4_get c 2 (by omega))
   have c3 := (cells_of h0.out 3).trans (v4_get c 3 (by omega))
   go_wp2_with ((with_reducible refine (HF.out k hlt _).mono ?_); rintro e w1 ⟨rfl, hb1⟩; have hB2 := (hb1.block (w.heap.size + 1 + 1) (by omega)).trans h2.out; have hd := (cells_of hB2 k).trans (v4_get (cutf g k) k hlt); have hf := free_of hB2 k; have HB2 := Lib.hid hB2; clear hB2 c0 c1 c2 c3)
   go_roundw
   case rel =>
    have n2 := block_set HB2.out k (.int .u8 (g k : Int))
    rw [v4_set g k hlt] at n2
    have n0 := (Below.heap_setCell w1 ⟨w.heap.size + 1 + 1, k, none⟩ (.int .u8 (g k : Int)) w.heap.size (by simp; omega)).trans ((hb1.block _ (by omega)).trans h0.out)
    have n1 := (Below.heap_setCell w1 ⟨w.heap.size + 1 + 1, k, none⟩ (.int .u8 (g k : Int)) (w.heap.size + 1) (by simp)).trans ((hb1.block _ (by omega)).trans h1.out)
    exact ⟨k + 1, by omega, by go_num, n0, n1, n2, by have := hb1.size; simp [World.setCell]; omega, (hbel.trans (hb1.mono (by omega))).setCell (by simp; omega) _⟩
   case measure => simp [intOf]; omega
  ·obtain rfl : k = 4 := by omega
   have h3 := h2.out
   rw [v4_full] at h3;have c0 := (cells_of h3 0).trans (v4_get g 0 (by omega))
   have c1 := (cells_of h3 1).trans (v4_get g 1 (by omega))
   have c2 := (cells_of h3 2).trans (v4_get g 2 (by omega))
   have c3 := (cells_of h3 3).trans (v4_get g 3 (by omega))
   have d0 := (cells_of h1.out 0).trans (v4_get _ 0 (by omega))
   have d1 := (cells_of h1.out 1).trans (v4_get _ 1 (by omega))
   have d2 := (cells_of h1.out 2).trans (v4_get _ 2 (by omega))
   have d3 := (cells_of h1.out 3).trans (v4_get _ 3 (by omega))
   have f0 := free_of h1.out 0
   have f1 := free_of h1.out 1
   have f2 := free_of h1.out 2
   have f3 := free_of h1.out 3
   have H3 := Lib.hid h3;clear h3 h2;go_wp2
   have e := block_set (block_set (block_set (block_set h1.out 0 (.int .u8 (g 0 : Int))) 1 (.int .u8 (g 1 : Int))) 2 (.int .u8 (g 2 : Int))) 3 (.int .u8 (g 3 : Int))
   have e' : ((((v4 (cutf g 0)).setIfInBounds 0 (.int .u8 (g 0 : Int))).setIfInBounds 1 (.int .u8 (g 1 : Int))).setIfInBounds 2 (.int .u8 (g 2 : Int))).setIfInBounds 3 (.int .u8 (g 3 : Int)) = v4 g := rfl
   rw [e'] at e;have hB := (((hbel.setCell (p := ⟨w.heap.size + 1, 0, none⟩) (by simp) (.int .u8 (g 0 : Int))).setCell (p := ⟨w.heap.size + 1, 1, none⟩) (by simp) (.int .u8 (g 1 : Int))).setCell (p := ⟨w.heap.size + 1, 2, none⟩) (by simp) (.int .u8 (g 2 : Int))).setCell (p := ⟨w.heap.size + 1, 3, none⟩) (by simp) (.int .u8 (g 3 : Int))
   exact ret_agg4 _ _ _ g _ rfl rfl (w.heap.size + 1) rfl e rfl ⟨rfl, hB⟩
theorem call_mixed (x y : Value) (w : World) : Sem.run Tryz.prog (callFunc 403 #[x, y]) w = .ok (.enter 403 #[x, y]) w := by
 go_simp
theorem each_lit (F : FuncId) (c g : Nat -> Nat)
  (hF : ∀ k : Nat, k < 4 -> ∀ w : World, Calls Tryz.prog F #[.agg (v4 c), .int .i64 (k : Int)] w fun e w' => e = .returned (.int .u8 ((g k : Nat) : Int)) /\ Below w.heap.size w w')
  (hcall : ∀ (x y : Value) (w : World), Sem.run Tryz.prog (callFunc F #[x, y]) w = .ok (.enter F #[x, y]) w) (w : World) :
  Calls Tryz.prog 402 #[.agg #[.int .u8 (c 0 : Int), .int .u8 (c 1 : Int), .int .u8 (c 2 : Int), .int .u8 (c 3 : Int)], .func (.func F) #[] #[]] w fun e w' => e = .returned (.agg (v4 g)) /\ Below w.heap.size w w' :=
 each_c F c g hF hcall w
theorem mix_c (c : Nat -> Nat) (hc : ∀ j, j < 4 -> c j < 256) (w : World) :
  Calls Tryz.prog 401 #[.agg (v4 c)] w fun e w' => e = .returned (.agg (v4 (mixN c))) /\ Below w.heap.size w w' := by
 have HE := Lib.hid (each_lit 403 c (mixN c) (fun k hk w => mixed_c c hc k hk w) call_mixed)
 have b1 : ∀ (o0 : Obj), ((w.alloc o0).alloc (Obj.cells (v4 (cutf c 0)) 149)).heap[w.heap.size + 1]? = some (.cells (v4 (cutf c 0)) 149 (0, 0)) := fun o0 => by
  rw [show w.heap.size + 1 = (w.alloc o0).heap.size by simp, heap_new]
 have B1 := Lib.hid b1
 have HC := Lib.hid hc;have p0 : ∀ (o : Obj), ((w.alloc (Obj.cells (v4 c) 149)).alloc o).cell? ⟨w.heap.size, 0, none⟩ = some (.int .u8 (c 0 : Int)) := fun o => by
  rw [World.cell?_alloc_past _ _ _ (by simp), World.cell?_alloc_new]; rfl
 have p1 : ∀ (o : Obj), ((w.alloc (Obj.cells (v4 c) 149)).alloc o).cell? ⟨w.heap.size, 1, none⟩ = some (.int .u8 (c 1 : Int)) := fun o => by
  rw [World.cell?_alloc_past _ _ _ (by simp), World.cell?_alloc_new]; rfl
 have p2 : ∀ (o : Obj), ((w.alloc (Obj.cells (v4 c) 149)).alloc o).cell? ⟨w.heap.size, 2, none⟩ = some (.int .u8 (c 2 : Int)) := fun o => by
  rw [World.cell?_alloc_past _ _ _ (by simp), World.cell?_alloc_new]; rfl
 have p3 : ∀ (o : Obj), ((w.alloc (Obj.cells (v4 c) 149)).alloc o).cell? ⟨w.heap.size, 3, none⟩ = some (.int .u8 (c 3 : Int)) := fun o => by
  rw [World.cell?_alloc_past _ _ _ (by simp), World.cell?_alloc_new]; rfl
 clear b1 hc
 go_enter Tryz.func401, Tryz.ntmps401
 go_wp2_with fail
 refine (HE.out _).mono ?_
 rintro e w1 ⟨rfl, hb1⟩
 have h1 := (hb1.block (w.heap.size + 1) (by simp)).trans (B1.out _)
 have hbel : Below w.heap.size w w1 := (((Below.refl _ _).alloc (Nat.le_refl _) _).alloc (by simp) _).trans (hb1.mono (by simp; omega))
 have H1 := Lib.hid h1;have HB := Lib.hid hbel;have d0 := (cells_of h1 0).trans (v4_get _ 0 (by omega))
 have d1 := (cells_of h1 1).trans (v4_get _ 1 (by omega))
 have d2 := (cells_of h1 2).trans (v4_get _ 2 (by omega))
 have d3 := (cells_of h1 3).trans (v4_get _ 3 (by omega))
 have f0 := free_of h1 0
 have f1 := free_of h1 1
 have f2 := free_of h1 2
 have f3 := free_of h1 3
 generalize hg : mixN c = g at *
 have HG := Lib.hid hg;clear hg;clear h1 hb1 hbel B1 HE p0 p1 p2 p3;have hv : v4 g = #[.int .u8 (g 0 : Int), .int .u8 (g 1 : Int), .int .u8 (g 2 : Int), .int .u8 (g 3 : Int)] := rfl
 rw [hv];clear hv;go_wp2
 have h1 := H1.out
 have hbel := HB.out
 have e := block_set (block_set (block_set (block_set h1 0 (.int .u8 (g 0 : Int))) 1 (.int .u8 (g 1 : Int))) 2 (.int .u8 (g 2 : Int))) 3 (.int .u8 (g 3 : Int))
 have e' : ((((v4 (cutf c 0)).setIfInBounds 0 (.int .u8 (g 0 : Int))).setIfInBounds 1 (.int .u8 (g 1 : Int))).setIfInBounds 2 (.int .u8 (g 2 : Int))).setIfInBounds 3 (.int .u8 (g 3 : Int)) = v4 g := rfl
 rw [e'] at e;have hB := (((hbel.setCell (p := ⟨w.heap.size + 1, 0, none⟩) (by simp) (.int .u8 (g 0 : Int))).setCell (p := ⟨w.heap.size + 1, 1, none⟩) (by simp) (.int .u8 (g 1 : Int))).setCell (p := ⟨w.heap.size + 1, 2, none⟩) (by simp) (.int .u8 (g 2 : Int))).setCell (p := ⟨w.heap.size + 1, 3, none⟩) (by simp) (.int .u8 (g 3 : Int))
 exact ret_agg4 _ _ _ g _ rfl rfl (w.heap.size + 1) rfl e rfl ⟨by rw [HG.out], hB⟩
def colGo (c f : Nat -> Nat) (k : Nat) : Nat -> Nat
 | 0 => 0
 | j + 1 => colGo c f k j ^^^ gmul (f j) (c ((k + j) % 4))
def colN (c f : Nat -> Nat) (k : Nat) : Nat := colGo c f k 4
def outC (c f : Nat -> Nat) (i j k : Nat) : Nat := if k < i then colN c f k else if k = i then colGo c f k j else 0
theorem outC_set (c f : Nat -> Nat) (i j : Nat) (hi : i < 4) : (v4 (outC c f i j)).setIfInBounds i (.int .u8 (colGo c f i (j + 1) : Int)) = v4 (outC c f i (j + 1)) := by
 match i, hi with
 | 0, _ => simp [v4, outC]
 | 1, _ => simp [v4, outC]
 | 2, _ => simp [v4, outC]
 | 3, _ => simp [v4, outC]
theorem outC_next (c f : Nat -> Nat) (i : Nat) : v4 (outC c f i 4) = v4 (outC c f (i + 1) 0) := by
 refine v4_ext fun k _ => ?_
 unfold outC
 by_cases h : k < i
 ·rw [if_pos h, if_pos (by omega)]
 ·rw [if_neg h]
  by_cases h2 : k = i
  ·rw [if_pos h2, if_pos (by omega)]; rfl
  ·rw [if_neg h2, if_neg (by omega)]
   by_cases h3 : k = i + 1
   ·rw [if_pos h3]; rfl
   ·rw [if_neg h3]
def ColRel (w : World) (c f : Nat -> Nat) (i j : Nat) (wr : World) : Prop :=
 wr.heap[w.heap.size]? = some (.cells (v4 c) 149 (0, 0)) /\ wr.heap[w.heap.size + 1]? = some (.cells (v4 f) 149 (0, 0)) /\
 wr.heap[w.heap.size + 1 + 1]? = some (.cells (v4 (cutf c 0)) 149 (0, 0)) /\
 wr.heap[w.heap.size + 1 + 1 + 1]? = some (.cells (v4 (outC c f i j)) 149 (0, 0)) /\ w.heap.size + 3 < wr.heap.size /\ Below w.heap.size w wr
theorem ColRel.next {w wr : World} {c f : Nat -> Nat} {i j : Nat} (h : ColRel w c f i j wr) (hi : i < 4) :
  ColRel w c f i (j + 1) (wr.setCell ⟨w.heap.size + 1 + 1 + 1, i, none⟩ (.int .u8 (colGo c f i (j + 1) : Int))) := by
 obtain ⟨h0, h1, h2, h3, hz, hb⟩ := h
 have e := block_set h3 i (.int .u8 (colGo c f i (j + 1) : Int))
 rw [outC_set c f i j hi] at e
 exact ⟨(Below.heap_setCell _ _ _ _ (by simp; omega)).trans h0, (Below.heap_setCell _ _ _ _ (by simp)).trans h1, (Below.heap_setCell _ _ _ _ (by simp)).trans h2, e, by simp [World.setCell]; exact hz, hb.setCell (by simp; omega) _⟩
theorem ColRel.drew {w wr : World} {c f : Nat -> Nat} {i j : Nat} (h : ColRel w c f i j wr) : ColRel w c f i j wr.drew := by
 obtain ⟨h0, h1, h2, h3, hz, hb⟩ := h
 exact ⟨h0, h1, h2, h3, hz, hb.drew⟩
theorem ColRel.turn {w wr : World} {c f : Nat -> Nat} {i : Nat} (h : ColRel w c f i 4 wr) : ColRel w c f (i + 1) 0 wr := by
 unfold ColRel at *; rw [<- outC_next]; exact h
theorem x4 (a b c d a' b' c' d' : Nat) : (a ^^^ a') ^^^ (b ^^^ b') ^^^ (c ^^^ c') ^^^ (d ^^^ d') = (a ^^^ b ^^^ c ^^^ d) ^^^ (a' ^^^ b' ^^^ c' ^^^ d') := by ac_rfl
theorem mixN_lt (c : Nat -> Nat) (hc : ∀ j, j < 4 -> c j < 256) (k : Nat) (hk : k < 4) : mixN c k < 256 := by
 unfold mixN;have h0 := isB_of (hc 0 (by omega))
 have h1 := isB_of (hc 1 (by omega))
 have h2 := isB_of (hc 2 (by omega))
 have h3 := isB_of (hc 3 (by omega))
 have h4 := isB_of (hc k hk)
 have h5 := isB_of (tw_lt _ (xor_lt _ _ (hc k hk) (hc ((k + 1) % 4) (by omega))))
 exact (isB_x (isB_x (isB_x (isB_x (isB_x h0 h1) h2) h3) h4) h5).2
def stA (l : List Nat) (b : Nat) : Array Value := bA l ++ #[.pointer (some ⟨b, 0, none⟩)]
theorem stA_get (l : List Nat) (b k : Nat) (h : k < l.length) : (stA l b)[k]? = some (.int .u8 ((l.getD k 0 : Nat) : Int)) := by
 unfold stA; rw [Array.getElem?_append_left (by rw [bA_size]; exact h)]; exact bA_get l k h
theorem stA_box (l : List Nat) (b : Nat) (h : l.length = 16) : (stA l b)[16]? = some (.pointer (some ⟨b, 0, none⟩)) := by
 unfold stA; rw [Array.getElem?_append_right (by rw [bA_size]; omega)]; simp [bA_size, h]
theorem stA_size (l : List Nat) (b : Nat) : (stA l b).size = l.length + 1 := by simp [stA, bA_size]
theorem stA_set (l : List Nat) (b k n : Nat) (h : k < l.length) : (stA l b).setIfInBounds k (.int .u8 (n : Int)) = stA (l.set k n) b := by
 unfold stA; rw [Array.setIfInBounds_append_left (by rw [bA_size]; exact h), bA_set]
def upd (g : Nat -> Nat) (l : List Nat) (k : Nat) : List Nat := (List.range k).map g ++ l.drop k
theorem upd_zero (g : Nat -> Nat) (l : List Nat) : upd g l 0 = l := by simp [upd]
theorem upd_len (g : Nat -> Nat) (l : List Nat) (k : Nat) (h : k <= l.length) : (upd g l k).length = l.length := by simp [upd]; omega
theorem upd_get (g : Nat -> Nat) (l : List Nat) (k : Nat) : (upd g l k).getD k 0 = l.getD k 0 := by
 unfold upd;rw [List.getD_eq_getElem?_getD, List.getD_eq_getElem?_getD, List.getElem?_append_right (by simp)]; simp
theorem upd_set (g : Nat -> Nat) (l : List Nat) (k : Nat) (h : k < l.length) : (upd g l k).set k (g k) = upd g l (k + 1) := by
 unfold upd;rw [List.set_append_right _ _ (by simp), List.range_succ, List.map_append, List.append_assoc]
 congr 1
 simp only [List.length_map, List.length_range, Nat.sub_self, List.map_cons, List.map_nil, List.singleton_append]
 rw [List.drop_eq_getElem_cons h, List.set_cons_zero]
theorem upd_full (g : Nat -> Nat) (l : List Nat) (n : Nat) (h : l.length = n) : upd g l n = (List.range n).map g := by
 unfold upd; rw [List.drop_of_length_le (by omega), List.append_nil]
theorem four4 : (Tryz.prog.info? 149).map (·.size) = some 4 := by kernel_rfl
def cut4 (g : Nat -> Nat) (c : Nat -> Nat) (k j : Nat) : Nat := if j < k then g j else c j
theorem cut4_set (g c : Nat -> Nat) (k : Nat) (h : k < 4) : (v4 (cut4 g c k)).setIfInBounds k (.int .u8 (g k : Int)) = v4 (cut4 g c (k + 1)) := by
 have hc : k = 0 \/ k = 1 \/ k = 2 \/ k = 3 := by omega
 rcases hc with rfl | rfl | rfl | rfl <;> rfl
theorem cut4_zero (g c : Nat -> Nat) : v4 (cut4 g c 0) = v4 c := rfl
theorem cut4_full (g c : Nat -> Nat) : v4 (cut4 g c 4) = v4 g := rfl
theorem cut4_at (g c : Nat -> Nat) (k : Nat) : cut4 g c k k = c k := by unfold cut4; rw [if_neg (by omega)]
theorem v4_one (g : Nat -> Nat) : (v4 g).all (·.oneCell') = true := by rw [<- Array.all_toList]; rfl
def xorN (a b : Nat -> Nat) (k : Nat) : Nat := a k ^^^ b k
theorem xor_c (a b : Nat -> Nat) (ha : ∀ j, j < 4 -> a j < 256) (hb : ∀ j, j < 4 -> b j < 256) (w : World) :
  Calls Tryz.prog 60 #[.agg (v4 a), .agg (v4 b)] w fun e w' => e = .returned (.agg (v4 (xorN a b))) /\ Below w.heap.size w w' := by
 have b0 : ∀ (o1 o2 : Obj), (((w.alloc (Obj.cells (v4 a) 149)).alloc o1).alloc o2).heap[w.heap.size]? = some (.cells (v4 (cut4 (xorN a b) a 0)) 149 (0, 0)) := fun o1 o2 => by
  rw [heap_old' _ _ _ (by simp; omega), heap_old' _ _ _ (by simp), heap_new', cut4_zero]
 have b1 : ∀ (o0 o2 : Obj), (((w.alloc o0).alloc (Obj.cells (v4 b) 149)).alloc o2).heap[w.heap.size + 1]? = some (.cells (v4 b) 149 (0, 0)) := fun o0 o2 => by
  rw [heap_old' _ _ _ (by simp), show w.heap.size + 1 = (w.alloc o0).heap.size by simp, heap_new']
 have b2 : ∀ (o0 o1 : Obj), (((w.alloc o0).alloc o1).alloc (Obj.cells (v4 (cutf a 0)) 149)).heap[w.heap.size + 1 + 1]? = some (.cells (v4 (cutf a 0)) 149 (0, 0)) := fun o0 o1 => by
  rw [show w.heap.size + 1 + 1 = ((w.alloc o0).alloc o1).heap.size by simp, heap_new']
 have B0 := Lib.hid b0
 have B1 := Lib.hid b1
 have B2 := Lib.hid b2
 have HA := Lib.hid ha;have HB := Lib.hid hb;clear b0 b1 b2 ha hb
 go_enter Tryz.func60, Tryz.ntmps60
 go_wp2
 go_loopw [6] (fun vi wr => ∃ k : Nat, k <= 4 /\ vi = .int .i64 k /\ Hid (wr.heap[w.heap.size]? = some (.cells (v4 (cut4 (xorN a b) a k)) 149 (0, 0))) /\ Hid (wr.heap[w.heap.size + 1]? = some (.cells (v4 b) 149 (0, 0))) /\ Hid (wr.heap[w.heap.size + 1 + 1]? = some (.cells (v4 (cutf a 0)) 149 (0, 0))) /\ Hid (Below w.heap.size w wr)) (fun vi _ => 4 - (intOf vi).toNat)
 case atStart => exact ⟨0, by omega, rfl, B0.out _ _, B1.out _ _, B2.out _ _, ((((Below.refl _ _).alloc (Nat.le_refl _) _).alloc (by simp) _).alloc (by simp; omega) _)⟩
 case round =>
  clear B0 B1 B2;obtain ⟨k, hk, rfl, h0, h1, h2, hbel⟩ := hrel
  by_cases hlt : k < 4
  ·have c0 := (cells_at h0.out k).trans (v4_get _ k hlt)
   rw [cut4_at] at c0;have c1 := (cells_at h1.out k).trans (v4_get b k hlt)
   have f0 := free_at h0.out k
   have hd : decide ((k : Int) < 4) = true := by simp; omega
   go_wp2
   have d6 : (k : Int) < 4 := by omega
   refine wp_region_still_tail 8 (by kernel_rfl) (by kernel_rfl) ?_
   simp only [List.take_succ_cons, List.take_zero, List.drop_succ_cons, List.drop_zero]
   change wpStill _ _ wr.drew _ _ _
   repeat still_step
   refine wpStill_nil ?_
   change wpList _ _ _ _ _ wr.drew
   have hx : bits BinOp.xor IntKind.u8 (a k : Int) (b k : Int) = (xorN a b k : Int) := u8x rfl rfl (HA.out k hlt) (HB.out k hlt)
   have n0 := block_at h0.out k (.int .u8 (xorN a b k : Int))
   rw [cut4_set _ _ _ hlt, <- hx] at n0
   have N0 := Lib.hid n0
   clear n0 hx;go_wp2
   go_roundw
   case rel => exact ⟨k + 1, by omega, by go_num, N0.out, (Below.heap_setCell _ _ _ _ (by simp)).trans h1.out, (Below.heap_setCell _ _ _ _ (by simp; omega)).trans h2.out, (hbel.out.setCell (by simp) _).drew⟩
   case measure => simp [intOf]; omega
  ·obtain rfl : k = 4 := by omega
   have h3 := h0
   rw [cut4_full] at h3;go_wp2_with (first
    | (refine wpList_load_row rfl 149 (.tmp 2) rfl w.heap.size rfl _ _ _ _ h3.out Tryz.underlying149 rfl (by rw [four4]; rfl) ?_)
    | (refine wpList_store_row rfl 149 (.tmp 4) (.tmp 18) rfl (w.heap.size + 1 + 1) _ rfl rfl 149 _ h2.out (by rw [four4]; rfl) rfl (v4_one _) ?_))
   exact bodyPost_ret (results_cell_row rfl _ _ (w.heap.size + 1 + 1) 149 (v4 (xorN a b)) (0, 0) _ rfl (setRow_heap _ _ _ _ _ _ h2.out) Tryz.underlying149 rfl (by rw [four4]; rfl)) rfl ⟨rfl, below_setRow hbel.out (by omega) _⟩
structure Cip (w : World) (c b g n cap r : Nat) (W : List Nat) : Prop where
 fcells : w.heap[c]? = some (.cells #[.pointer (some ⟨b, 0, none⟩), .slice (some ⟨g, 0, none⟩) n cap, .int .i64 (r : Int)] 145 (0, 0))
 fbox : IsBox w b
 flen : W.length = 4 * n
 fcap : n <= cap
 fcapm : cap <= maxLen
 fwords : ∃ A, w.heap[g]? = some (.cells A 149 (0, 0)) /\ A.size = 4 * cap /\ ∀ k, k < W.length -> A[k]? = some (.int .u8 ((W.getD k 0 : Nat) : Int))
 fbyte : ∀ x ∈ W, x < 256
theorem Cip.later {w w' : World} {c b g n cap r B : Nat} {W : List Nat} (h : Cip w c b g n cap r W) (hb : Below B w w') (hc : c < B) (hbb : b < B) (hg : g < B) : Cip w' c b g n cap r W := by
 obtain ⟨h1, h2, h3, h3a, h3b, ⟨A, h4, h4b, h5⟩, h6⟩ := h
 exact ⟨(hb.block c hc).trans h1, (hb.block b hbb).trans h2, h3, h3a, h3b, ⟨A, (hb.block g hg).trans h4, h4b, h5⟩, h6⟩
theorem Cip.lt {w : World} {c b g n cap r : Nat} {W : List Nat} (h : Cip w c b g n cap r W) : c < w.heap.size /\ b < w.heap.size /\ g < w.heap.size := by
 obtain ⟨h1, h2, h3, _, _, ⟨A, h4, _, h5⟩, h6⟩ := h
 exact ⟨lt_of_block h1, lt_of_block h2, lt_of_block h4⟩
theorem Cip.up {w w' : World} {c b g n cap r B : Nat} {W : List Nat} (h : Cip w c b g n cap r W) (hb : Below B w w') (hB : w.heap.size <= B) : Cip w' c b g n cap r W := by
 obtain ⟨h1, h2, h3⟩ := h.lt
 exact h.later hb (by omega) (by omega) (by omega)
theorem Cip.c0 {w : World} {c b g n cap r : Nat} {W : List Nat} (h : Cip w c b g n cap r W) : w.cell? ⟨c, 0, none⟩ = some (.pointer (some ⟨b, 0, none⟩)) := (cells_at h.fcells 0).trans rfl
theorem Cip.c1 {w : World} {c b g n cap r : Nat} {W : List Nat} (h : Cip w c b g n cap r W) : w.cell? ⟨c, 1, none⟩ = some (.slice (some ⟨g, 0, none⟩) n cap) := (cells_at h.fcells 1).trans rfl
theorem Cip.c2 {w : World} {c b g n cap r : Nat} {W : List Nat} (h : Cip w c b g n cap r W) : w.cell? ⟨c, 2, none⟩ = some (.int .i64 (r : Int)) := (cells_at h.fcells 2).trans rfl
theorem Cip.wd {w : World} {c b g n cap r : Nat} {W : List Nat} (h : Cip w c b g n cap r W) (k : Nat) (hk : k < W.length) : w.cell? ⟨g, k, none⟩ = some (.int .u8 ((W.getD k 0 : Nat) : Int)) := by
 obtain ⟨A, h4, _, h5⟩ := h.fwords
 exact (cells_at h4 k).trans (h5 k hk)
theorem sub_same (b c : Nat) (hc : c < 256) (w : World) (h : IsBox w b) :
  Calls Tryz.prog 117 #[.pointer (some ⟨b, 0, none⟩), .int .u8 (c : Int)] w fun e w' => e = .returned (.int .u8 (sbx c : Int)) /\ w' = w :=
 (sub_c w b c hc h).mono fun _ _ h => ⟨h.1, h.2.symm⟩
def subN4 (a : Nat -> Nat) (k : Nat) : Nat := sbx (a k)
theorem csub_c (c b g n cap r : Nat) (W : List Nat) (a : Nat -> Nat) (ha : ∀ j, j < 4 -> a j < 256) (w : World) (hC : Cip w c b g n cap r W) :
  Calls Tryz.prog 80 #[.pointer (some ⟨c, 0, none⟩), .agg (v4 a)] w fun e w' => e = .returned (.agg (v4 (subN4 a))) /\ Below w.heap.size w w' := by
 have b0 : ∀ (o1 : Obj), ((w.alloc (Obj.cells (v4 a) 149)).alloc o1).heap[w.heap.size]? = some (.cells (v4 (cut4 (subN4 a) a 0)) 149 (0, 0)) := fun o1 => by
  rw [heap_old' _ _ _ (by simp), heap_new', cut4_zero]
 have b2 : ∀ (o0 : Obj), ((w.alloc o0).alloc (Obj.cells (v4 (cutf a 0)) 149)).heap[w.heap.size + 1]? = some (.cells (v4 (cutf a 0)) 149 (0, 0)) := fun o0 => by
  rw [show w.heap.size + 1 = (w.alloc o0).heap.size by simp, heap_new']
 have B0 := Lib.hid b0
 have B2 := Lib.hid b2
 have HA := Lib.hid ha;have HC := Lib.hid hC;clear b0 b2 ha hC
 go_enter Tryz.func80, Tryz.ntmps80
 go_wp2
 go_loopw [6] (fun vi wr => ∃ k : Nat, k <= 4 /\ vi = .int .i64 k /\ Hid (wr.heap[w.heap.size]? = some (.cells (v4 (cut4 (subN4 a) a k)) 149 (0, 0))) /\ Hid (wr.heap[w.heap.size + 1]? = some (.cells (v4 (cutf a 0)) 149 (0, 0))) /\ Hid (Below w.heap.size w wr)) (fun vi _ => 4 - (intOf vi).toNat)
 case atStart => exact ⟨0, by omega, rfl, B0.out _, B2.out _, (((Below.refl _ _).alloc (Nat.le_refl _) _).alloc (by simp) _)⟩
 case round =>
  clear B0 B2;obtain ⟨k, hk, rfl, h0, h2, hbel⟩ := hrel
  by_cases hlt : k < 4
  ·have c0 := (cells_at h0.out k).trans (v4_get _ k hlt)
   rw [cut4_at] at c0;have f0 := free_at h0.out k
   have hCr := HC.out.up hbel.out (Nat.le_refl _)
   have c1 := hCr.c0
   have HM : Hid (∀ w, IsBox w b -> Calls Tryz.prog 117 #[.pointer (some ⟨b, 0, none⟩), .int .u8 (a k : Int)] w fun e w' => e = .returned (.int .u8 (subN4 a k : Int)) /\ w' = w) := fun w h => sub_same b (a k) (HA.out k hlt) w h
   have HBX : Hid (IsBox wr.drew b) := hCr.fbox
   clear hCr;have hd : decide ((k : Int) < 4) = true := by simp; omega
   go_wp2
   have d6 : (k : Int) < 4 := by omega
   refine wp_region_still_tail 10 (by kernel_rfl) (by kernel_rfl) ?_
   simp only [List.take_succ_cons, List.take_zero, List.drop_succ_cons, List.drop_zero]
   change wpStill _ _ wr.drew _ _ _
   repeat still_step
   still_call (HM.out _ HBX.out)
   repeat still_step
   refine wpStill_nil ?_
   change wpList _ _ _ _ _ wr.drew
   have n0 := block_at h0.out k (.int .u8 (subN4 a k : Int))
   rw [cut4_set _ _ _ hlt] at n0
   have N0 := Lib.hid n0
   clear n0;go_wp2
   go_roundw
   case rel => exact ⟨k + 1, by omega, by go_num, N0.out, (Below.heap_setCell _ _ _ _ (by simp)).trans h2.out, (hbel.out.setCell (by simp) _).drew⟩
   case measure => simp [intOf]; omega
  ·obtain rfl : k = 4 := by omega
   have h3 := h0
   rw [cut4_full] at h3;go_wp2_with (first
    | (refine wpList_load_row rfl 149 (.tmp 3) rfl w.heap.size rfl _ _ _ _ h3.out Tryz.underlying149 rfl (by rw [four4]; rfl) ?_)
    | (refine wpList_store_row rfl 149 (.tmp 4) (.tmp 20) rfl (w.heap.size + 1) _ rfl rfl 149 _ h2.out (by rw [four4]; rfl) rfl (v4_one _) ?_))
   exact bodyPost_ret (results_cell_row rfl _ _ (w.heap.size + 1) 149 (v4 (subN4 a)) (0, 0) _ rfl (setRow_heap _ _ _ _ _ _ h2.out) Tryz.underlying149 rfl (by rw [four4]; rfl)) rfl ⟨rfl, below_setRow hbel.out (by omega) _⟩
theorem st17 : (Tryz.prog.info? 497).map (·.size) = some 17 := by kernel_rfl
theorem stA_one (l : List Nat) (b : Nat) : (stA l b).all (·.oneCell') = true := by
 rw [<- Array.all_toList]; simp [stA, bA, Value.oneCell']
def ssubL (l : List Nat) : List Nat := (List.range 16).map fun k => sbx (l.getD k 0)
theorem ssub_c (l : List Nat) (hl : l.length = 16) (hb : ∀ j, j < 16 -> l.getD j 0 < 256) (b : Nat) (w : World) (hB : IsBox w b) :
  Calls Tryz.prog 395 #[.agg (stA l b)] w fun e w' => e = .returned (.agg (stA (ssubL l) b)) /\ Below w.heap.size w w' := by
 have b0 : ∀ (o1 : Obj), ((w.alloc (Obj.cells (stA l b) 497)).alloc o1).heap[w.heap.size]? = some (.cells (stA (upd (fun k => sbx (l.getD k 0)) l 0) b) 497 (0, 0)) := fun o1 => by
  rw [heap_old' _ _ _ (by simp), heap_new', upd_zero]
 have b2 : ∀ (o0 : Obj) (Z : Array Value), ((w.alloc o0).alloc (Obj.cells Z 497)).heap[w.heap.size + 1]? = some (.cells Z 497 (0, 0)) := fun o0 Z => by
  rw [show w.heap.size + 1 = (w.alloc o0).heap.size by simp, heap_new']
 have B0 := Lib.hid b0
 have B2 := Lib.hid b2
 have HL := Lib.hid hl;have HV := Lib.hid hb;have HB := Lib.hid hB;clear b0 b2 hl hb hB
 go_enter Tryz.func395, Tryz.ntmps395
 go_wp2
 go_loopw [4] (fun vi wr => ∃ k : Nat, k <= 16 /\ vi = .int .i64 k /\ Hid (wr.heap[w.heap.size]? = some (.cells (stA (upd (fun k => sbx (l.getD k 0)) l k) b) 497 (0, 0))) /\ Hid (∃ Z, Z.size = 17 /\ wr.heap[w.heap.size + 1]? = some (.cells Z 497 (0, 0))) /\ Hid (Below w.heap.size w wr)) (fun vi _ => 16 - (intOf vi).toNat)
 case atStart => exact ⟨0, by omega, rfl, B0.out _, ⟨_, rfl, B2.out _ _⟩, (((Below.refl _ _).alloc (Nat.le_refl _) _).alloc (by simp) _)⟩
 case round =>
  clear B0 B2;obtain ⟨k, hk, rfl, h0, h2, hbel⟩ := hrel
  have hlen : (upd (fun k => sbx (l.getD k 0)) l k).length = 16 := by rw [upd_len _ _ _ (by rw [HL.out]; exact hk), HL.out]
  by_cases hlt : k < 16
  ·have c0 := (cells_at h0.out k).trans (stA_get _ b k (by omega))
   rw [upd_get] at c0;have c1 := (cells_at h0.out 16).trans (stA_box _ b hlen)
   have f0 := free_at h0.out k
   have HM : Hid (∀ w, IsBox w b -> Calls Tryz.prog 117 #[.pointer (some ⟨b, 0, none⟩), .int .u8 (l.getD k 0 : Int)] w fun e w' => e = .returned (.int .u8 (sbx (l.getD k 0) : Int)) /\ w' = w) := fun w h => sub_same b _ (HV.out k hlt) w h
   have HBX : Hid (IsBox wr.drew b) := HB.out.later hbel.out.drew HB.out.lt
   obtain ⟨v, hv⟩ : ∃ v, v = l.getD k 0 := ⟨_, rfl⟩
   have HVV := Lib.hid hv;rw [<- hv] at c0 HM;have HLEN := Lib.hid hlen;clear hv hlen;have hd : decide ((k : Int) < 16) = true := by simp; omega
   go_wp2
   have d6 : (k : Int) < 16 := by omega
   refine wp_region_still_tail 10 (by kernel_rfl) (by kernel_rfl) ?_
   simp only [List.take_succ_cons, List.take_zero, List.drop_succ_cons, List.drop_zero]
   change wpStill _ _ wr.drew _ _ _
   repeat still_step
   still_call (HM.out _ HBX.out)
   repeat still_step
   refine wpStill_nil ?_
   change wpList _ _ _ _ _ wr.drew
   have n0 := block_at h0.out k (.int .u8 ((sbx v : Nat) : Int))
   rw [stA_set _ _ _ _ (by rw [HLEN.out]; exact hlt), HVV.out, upd_set _ _ _ (by rw [HL.out]; exact hlt), <- HVV.out] at n0
   have N0 := Lib.hid n0
   clear n0;go_wp2
   go_roundw
   case rel =>
    obtain ⟨Z, hZ, hZ2⟩ := h2.out
    exact ⟨k + 1, by omega, by go_num, N0.out, ⟨Z, hZ, (Below.heap_setCell _ _ _ _ (by simp)).trans hZ2⟩, (hbel.out.setCell (by simp) _).drew⟩
   case measure => simp [intOf]; omega
  ·obtain rfl : k = 16 := by omega
   have h3 := h0
   rw [upd_full _ _ 16 HL.out] at h3
   obtain ⟨Z, hZ, hZ2⟩ := h2.out
   have HZ := Lib.hid hZ;have HZ2 := Lib.hid hZ2;clear hZ hZ2 h2 hlen;go_wp2_with (first
    | (refine wpList_load_row rfl 497 (.tmp 1) rfl w.heap.size rfl _ _ _ _ h3.out Tryz.underlying497 rfl (by rw [st17, stA_size]; simp) ?_)
    | (refine wpList_store_row rfl 497 (.tmp 2) (.tmp 18) rfl (w.heap.size + 1) _ rfl rfl 497 _ HZ2.out (by rw [st17, stA_size]; simp) (by rw [HZ.out, stA_size]; simp) (stA_one _ _) ?_))
   exact bodyPost_ret (results_cell_row rfl _ _ (w.heap.size + 1) 497 (stA (ssubL l) b) (0, 0) _ rfl (setRow_heap _ _ _ _ _ _ HZ2.out) Tryz.underlying497 rfl (by rw [st17, stA_size]; simp [ssubL])) rfl ⟨rfl, below_setRow hbel.out (by omega) _⟩
def sig (k : Nat) : Nat := (k + 4 * (k % 4)) % 16
def shiftL (l : List Nat) : List Nat := (List.range 16).map fun k => l.getD (sig k) 0
theorem range_st (l : List Nat) (b : Nat) (hl : l.length = 16) {w : World} {g : Nat} (h : w.heap[g]? = some (.cells (stA l b) 497 (0, 0))) : w.rangeAt g 0 (l.map fun (n : Nat) => Value.int .u8 (n : Int)) := by
 intro j v hv;have hj : j < l.length := by
  have := (List.getElem?_eq_some_iff.1 hv).1; simpa using this
 rw [Nat.zero_add, cells_at h j, stA_get l b j hj]
 simp only [List.getElem?_map] at hv
 rw [List.getElem?_eq_getElem hj] at hv
 simp only [Option.map_some, Option.some.injEq] at hv
 rw [<- hv]; simp [hj]
theorem shift_c (l : List Nat) (hl : l.length = 16) (b : Nat) (w : World) :
  Calls Tryz.prog 396 #[.agg (stA l b)] w fun e w' => e = .returned (.agg (stA (shiftL l) b)) /\ Below w.heap.size w w' := by
 have b0 : ∀ (o1 o2 : Obj), (((w.alloc (Obj.cells (stA l b) 497)).alloc o1).alloc o2).heap[w.heap.size]? = some (.cells (stA l b) 497 (0, 0)) := fun o1 o2 => by
  rw [heap_old' _ _ _ (by simp; omega), heap_old' _ _ _ (by simp), heap_new']
 have b1 : ∀ (o0 o2 : Obj) (Z : Array Value), (((w.alloc o0).alloc (Obj.cells Z 497)).alloc o2).heap[w.heap.size + 1]? = some (.cells Z 497 (0, 0)) := fun o0 o2 Z => by
  rw [heap_old' _ _ _ (by simp), show w.heap.size + 1 = (w.alloc o0).heap.size by simp, heap_new']
 have b2 : ∀ (o0 o1 : Obj) (Z : Array Value), (((w.alloc o0).alloc o1).alloc (Obj.cells Z 478)).heap[w.heap.size + 1 + 1]? = some (.cells Z 478 (0, 0)) := fun o0 o1 Z => by
  rw [show w.heap.size + 1 + 1 = ((w.alloc o0).alloc o1).heap.size by simp, heap_new']
 have B0 := Lib.hid b0
 have B1 := Lib.hid b1
 have B2 := Lib.hid b2
 have HL := Lib.hid hl;have hb0 : ∀ (o1 : Obj), ((w.alloc (Obj.cells (stA l b) 497)).alloc o1).heap[w.heap.size]? = some (.cells (stA l b) 497 (0, 0)) := fun o1 => by
  rw [heap_old' _ _ _ (by simp), heap_new']
 have HB0 := Lib.hid hb0;clear b0 b1 b2 hl hb0
 go_enter Tryz.func396, Tryz.ntmps396
 go_wp2_with (first
  | (refine wpList_load_mid rfl 478 (.tmp 5) rfl w.heap.size 0 rfl _ _ (range_st l b HL.out (HB0.out _)) Tryz.underlying478 rfl (by rw [zero16]; simp [HL.out]) ?_)
  | (refine wpList_store_row rfl 478 (.tmp 3) (.tmp 6) rfl (w.heap.size + 1 + 1) _ rfl rfl 478 _ (B2.out _ _ _) (by rw [zero16]; simp [HL.out]) (by simp [HL.out]) (by rw [<- Array.all_toList]; simp [Value.oneCell']) ?_))
 go_loopw [7] (fun vi wr => ∃ k : Nat, k <= 16 /\ vi = .int .i64 k /\ Hid (wr.heap[w.heap.size]? = some (.cells (stA (upd (fun k => l.getD (sig k) 0) l k) b) 497 (0, 0))) /\ Hid (∃ Z, Z.size = 17 /\ wr.heap[w.heap.size + 1]? = some (.cells Z 497 (0, 0))) /\ Hid (wr.heap[w.heap.size + 1 + 1]? = some (.cells (bA l) 478 (0, 0))) /\ Hid (Below w.heap.size w wr)) (fun vi _ => 16 - (intOf vi).toNat)
 case atStart => exact ⟨0, by omega, rfl, (setRow_other _ _ _ _ (by omega)).trans (by rw [upd_zero]; exact B0.out _ _), ⟨_, rfl, (setRow_other _ _ _ _ (by omega)).trans (B1.out _ _ _)⟩, setRow_heap _ _ _ _ _ _ (B2.out _ _ _), below_setRow ((((Below.refl _ _).alloc (Nat.le_refl _) _).alloc (by simp) _).alloc (by simp; omega) _) (by omega) _⟩
 case round =>
  clear B0 B1 B2 HB0;obtain ⟨k, hk, rfl, h0, h1, h2, hbel⟩ := hrel
  have hlen : (upd (fun k => l.getD (sig k) 0) l k).length = 16 := by rw [upd_len _ _ _ (by rw [HL.out]; exact hk), HL.out]
  by_cases hlt : k < 16
  ·obtain ⟨m, hm⟩ : ∃ m, m = sig k := ⟨_, rfl⟩
   have hmI : ((k : Int) + 4 * ((k : Int) % 4)) % 16 = (m : Int) := by rw [hm]; unfold sig; omega
   have hm16 : m < 16 := by rw [hm]; unfold sig; omega
   have c0 := (cells_at h2.out m).trans (bA_get l m (by rw [HL.out]; omega))
   have c1 := (cells_at h0.out k).trans (stA_get _ b k (by omega))
   have f1 := free_at h0.out k
   have d6 : (k : Int) < 16 := by omega
   have d7 : (m : Int) < 16 := by omega
   have HM := Lib.hid hm;have HLEN := Lib.hid hlen;obtain ⟨v, hv⟩ : ∃ v, v = l.getD m 0 := ⟨_, rfl⟩
   have HVV := Lib.hid hv;rw [<- hv] at c0;clear hm hlen hv;go_wp2
   go_roundw
   case rel =>
    have n0 := block_at h0.out k (.int .u8 (v : Int))
    rw [stA_set _ _ _ _ (by rw [HLEN.out]; omega)] at n0
    have he : v = (fun k => l.getD (sig k) 0) k := by rw [HVV.out, HM.out]
    rw [he, upd_set _ _ _ (by rw [HL.out]; exact hlt), <- he] at n0
    obtain ⟨Z, hZ, hZ2⟩ := h1.out
    exact ⟨k + 1, by omega, by go_num, n0, ⟨Z, hZ, (Below.heap_setCell _ _ _ _ (by simp)).trans hZ2⟩, (Below.heap_setCell _ _ _ _ (by simp; omega)).trans h2.out, hbel.out.setCell (by simp) _⟩
   case measure => simp [intOf]; omega
  ·obtain rfl : k = 16 := by omega
   have h3 := h0
   rw [upd_full _ _ 16 HL.out] at h3
   obtain ⟨Z, hZ, hZ2⟩ := h1.out
   have HZ := Lib.hid hZ;have HZ2 := Lib.hid hZ2;clear hZ hZ2 h1 hlen;go_wp2_with (first
    | (refine wpList_load_row rfl 497 (.tmp 1) rfl w.heap.size rfl _ _ _ _ h3.out Tryz.underlying497 rfl (by rw [st17, stA_size]; simp) ?_)
    | (refine wpList_store_row rfl 497 (.tmp 2) (.tmp 22) rfl (w.heap.size + 1) _ rfl rfl 497 _ HZ2.out (by rw [st17, stA_size]; simp) (by rw [HZ.out, stA_size]; simp) (stA_one _ _) ?_))
   exact bodyPost_ret (results_cell_row rfl _ _ (w.heap.size + 1) 497 (stA (shiftL l) b) (0, 0) _ rfl (setRow_heap _ _ _ _ _ _ HZ2.out) Tryz.underlying497 rfl (by rw [st17, stA_size]; simp [shiftL])) rfl ⟨rfl, below_setRow hbel.out (by omega) _⟩
def keyL (l W : List Nat) (r : Nat) : List Nat := (List.range 16).map fun k => l.getD k 0 ^^^ W.getD (16 * r + k) 0
theorem key_c (c b g n cap rd : Nat) (W l : List Nat) (hl : l.length = 16) (hb : ∀ j, j < 16 -> l.getD j 0 < 256) (r : Nat) (hr : 16 * r + 16 <= W.length) (hr2 : r < 1000) (w : World) (hC : Cip w c b g n cap rd W) :
  Calls Tryz.prog 393 #[.pointer (some ⟨c, 0, none⟩), .agg (stA l b), .int .i64 (r : Int)] w fun e w' => e = .returned (.agg (stA (keyL l W r) b)) /\ Below w.heap.size w w' := by
 have b0 : ∀ (o1 : Obj), ((w.alloc (Obj.cells (stA l b) 497)).alloc o1).heap[w.heap.size]? = some (.cells (stA (upd (fun k => l.getD k 0 ^^^ W.getD (16 * r + k) 0) l 0) b) 497 (0, 0)) := fun o1 => by
  rw [heap_old' _ _ _ (by simp), heap_new', upd_zero]
 have b2 : ∀ (o0 : Obj) (Z : Array Value), ((w.alloc o0).alloc (Obj.cells Z 497)).heap[w.heap.size + 1]? = some (.cells Z 497 (0, 0)) := fun o0 Z => by
  rw [show w.heap.size + 1 = (w.alloc o0).heap.size by simp, heap_new']
 have B0 := Lib.hid b0
 have B2 := Lib.hid b2
 have HL := Lib.hid hl;have HV := Lib.hid hb;have HC := Lib.hid hC;have hn4 := hC.flen
 have hncap := hC.fcap
 have hcm := hC.fcapm
 unfold maxLen at hcm
 have hn : 4 * r + 4 <= n := by omega
 clear b0 b2 hl hb hC hn4
 go_enter Tryz.func393, Tryz.ntmps393
 go_wp2
 go_loopw [8] (fun vi wr => ∃ k : Nat, k <= 16 /\ vi = .int .i64 k /\ Hid (wr.heap[w.heap.size]? = some (.cells (stA (upd (fun k => l.getD k 0 ^^^ W.getD (16 * r + k) 0) l k) b) 497 (0, 0))) /\ Hid (∃ Z, Z.size = 17 /\ wr.heap[w.heap.size + 1]? = some (.cells Z 497 (0, 0))) /\ Hid (Below w.heap.size w wr)) (fun vi _ => 16 - (intOf vi).toNat)
 case atStart => exact ⟨0, by omega, rfl, B0.out _, ⟨_, rfl, B2.out _ _⟩, (((Below.refl _ _).alloc (Nat.le_refl _) _).alloc (by simp) _)⟩
 case round =>
  clear B0 B2;obtain ⟨k, hk, rfl, h0, h2, hbel⟩ := hrel
  have hlen : (upd (fun k => l.getD k 0 ^^^ W.getD (16 * r + k) 0) l k).length = 16 := by rw [upd_len _ _ _ (by rw [HL.out]; exact hk), HL.out]
  by_cases hlt : k < 16
  ·have c0 := (cells_at h0.out k).trans (stA_get _ b k (by omega))
   rw [upd_get] at c0;have f0 := free_at h0.out k
   have hCr := HC.out.up hbel.out (Nat.le_refl _)
   have c1 := hCr.c1
   obtain ⟨q, hq⟩ : ∃ q, q = k / 4 := ⟨_, rfl⟩
   obtain ⟨m, hm⟩ : ∃ m, m = k % 4 := ⟨_, rfl⟩
   have c2 := hCr.wd ((4 * r + q) * 4 + m) (by omega)
   rw [show (4 * r + q) * 4 + m = 16 * r + k by omega] at c2
   rw [show 16 * r + k = (4 * r + q) * 4 + m by omega] at c2
   obtain ⟨v, hv⟩ : ∃ v, v = l.getD k 0 := ⟨_, rfl⟩
   obtain ⟨u, hu⟩ : ∃ u, u = W.getD ((4 * r + q) * 4 + m) 0 := ⟨_, rfl⟩
   rw [<- hv] at c0;rw [<- hu] at c2;have hvb : v < 256 := by rw [hv]; exact HV.out k hlt
   have hub : u < 256 := by
    rw [hu, List.getD_eq_getElem?_getD, List.getElem?_eq_getElem (by omega)]
    exact HC.out.fbyte _ (List.getElem_mem _)
   have hx : bits BinOp.xor IntKind.u8 (v : Int) (u : Int) = ((v ^^^ u : Nat) : Int) := u8x rfl rfl hvb hub
   have hvu : v ^^^ u = (fun k => l.getD k 0 ^^^ W.getD (16 * r + k) 0) k := by
    show _ = l.getD k 0 ^^^ W.getD (16 * r + k) 0
    rw [hv, hu, show 16 * r + k = (4 * r + q) * 4 + m by omega]
   have HX := Lib.hid hx;have HVU := Lib.hid hvu;have HLEN := Lib.hid hlen;have e1 : IntKind.i64.wrap (4 * (r : Int)) = 4 * (r : Int) := IntWalk.i64_in _ (by omega)
   have e2 : IntKind.i64.wrap ((k : Int) / 4) = (q : Int) := by rw [IntWalk.i64_in _ (by omega)]; omega
   have e3 : (k : Int).tmod 4 = (m : Int) := by rw [Int.tmod_eq_emod_of_nonneg (by omega)]; omega
   have e4 : IntKind.i64.wrap (4 * (r : Int) + (q : Int)) = 4 * (r : Int) + (q : Int) := IntWalk.i64_in _ (by omega)
   have e5 : (0 : Int) <= 4 * (r : Int) + (q : Int) /\ 4 * (r : Int) + (q : Int) < (n : Int) := by omega
   have e6 : (4 * (r : Int) + (q : Int)).toNat = 4 * r + q := by omega
   have d6 : (k : Int) < 16 := by omega
   have d7 : (m : Int) < 4 := by omega
   have hd : decide ((k : Int) < 16) = true := by simp; omega
   clear hq hm hv hu hCr hlen hx hvu;go_wp2
   refine wp_region_still_tail 21 (by kernel_rfl) (by kernel_rfl) ?_
   simp only [List.take_succ_cons, List.take_zero, List.drop_succ_cons, List.drop_zero]
   change wpStill _ _ wr.drew _ _ _
   repeat still_step
   refine wpStill_nil ?_
   change wpList _ _ _ _ _ wr.drew
   have n0 := block_at h0.out k (.int .u8 ((v ^^^ u : Nat) : Int))
   rw [stA_set _ _ _ _ (by rw [HLEN.out]; exact hlt), HVU.out, upd_set _ _ _ (by rw [HL.out]; exact hlt), <- HVU.out, <- HX.out] at n0
   have N0 := Lib.hid n0
   clear n0 e1 e2 e3 e4 e5 e6;go_wp2
   go_roundw
   case rel =>
    obtain ⟨Z, hZ, hZ2⟩ := h2.out
    exact ⟨k + 1, by omega, by go_num, N0.out, ⟨Z, hZ, (Below.heap_setCell _ _ _ _ (by simp)).trans hZ2⟩, (hbel.out.setCell (by simp) _).drew⟩
   case measure => simp [intOf]; omega
  ·obtain rfl : k = 16 := by omega
   have h3 := h0
   rw [upd_full _ _ 16 HL.out] at h3
   obtain ⟨Z, hZ, hZ2⟩ := h2.out
   have HZ := Lib.hid hZ;have HZ2 := Lib.hid hZ2;clear hZ hZ2 h2 hlen;go_wp2_with (first
    | (refine wpList_load_row rfl 497 (.tmp 4) rfl w.heap.size rfl _ _ _ _ h3.out Tryz.underlying497 rfl (by rw [st17, stA_size]; simp) ?_)
    | (refine wpList_store_row rfl 497 (.tmp 6) (.tmp 33) rfl (w.heap.size + 1) _ rfl rfl 497 _ HZ2.out (by rw [st17, stA_size]; simp) (by rw [HZ.out, stA_size]; simp) (stA_one _ _) ?_))
   exact bodyPost_ret (results_cell_row rfl _ _ (w.heap.size + 1) 497 (stA (keyL l W r) b) (0, 0) _ rfl (setRow_heap _ _ _ _ _ _ HZ2.out) Tryz.underlying497 rfl (by rw [st17, stA_size]; simp [keyL])) rfl ⟨rfl, below_setRow hbel.out (by omega) _⟩
end Go.Proofs.YtnmdjggdgakeoaaGreat
