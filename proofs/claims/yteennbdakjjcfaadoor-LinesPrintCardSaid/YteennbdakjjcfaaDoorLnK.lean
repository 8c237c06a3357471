/- The reference's May of an act with a line, a number's digits, bytes' signs, the kinds' words. Printed by gen_lnk.py. -/
import Derived.Test.YteennbdakjjcfaaDoorLnJ
set_option linter.unusedVariables false
set_option linter.unusedSimpArgs false
namespace Go.Proofs.YteennbdakjjcfaaDoor
open Go Go.RowKit Go.Lib
set_option maxRecDepth 100000 in
set_option maxHeartbeats 2000000 in
theorem lmay_c (a : AN) (va : Option Addr) (bl vc : Nat) (hbl : a.b.length = bl) (w : World) :
    Calls Tryd.prog 7 #[.agg (actA a (.slice va bl vc))] w fun e w' => e = .returned (.bool (mayL a)) ∧ Below w.heap.size w w' := by
  have HBK : Hid ((w.alloc (.cells (actA a (.slice va bl vc)) 27)).heap[w.heap.size]? = some (.cells (actA a (.slice va bl vc)) 27 (0, 0))) := heap_new' _ _
  have HBE : Hid (Below w.heap.size w (w.alloc (.cells (actA a (.slice va bl vc)) 27))) := (Below.refl _ _).alloc (Nat.le_refl _) _
  have HC := Lib.hid (fun w => amay_c a va bl vc hbl w)
  clear hbl
  go_enter Tryd.func7, Tryd.ntmps7
  go_wp2_with (first
    | (refine wpList_load_row rfl 27 (.tmp 1) rfl w.heap.size rfl _ _ _ _ HBK.out Tryd.underlying27 rfl (by rw [act27]; rfl) ?_)
    | fail)
  generalize w.alloc (.cells (actA a (.slice va bl vc)) 27) = w0 at *
  refine (HC.out w0).mono ?_
  rintro e w1 ⟨rfl, hb1⟩
  have HE1 : Hid (Below w.heap.size w w1) := HBE.out.trans (hb1.mono HBE.out.size)
  have HB1 := Lib.hid ((hb1.block _ (lt_of_block HBK.out)).trans HBK.out)
  have c0 := (cells_at HB1.out 0).trans (show _ = some (Value.int .i64 a.kind) from rfl)
  have c1 := (cells_at HB1.out 1).trans (show _ = some (Value.bool a.yes) from rfl)
  have c2 := (cells_at HB1.out 2).trans (show _ = some (Value.int .i64 a.which) from rfl)
  clear hb1
  obtain ⟨m, hm⟩ : ∃ m, m = mayA a := ⟨_, rfl⟩
  have HM : Hid (mayL a = (m && (!(a.kind == 11) || (!a.yes || a.which == 0)))) := by show _ = _; rw [hm]; rfl
  rw [← hm]
  clear hm HC
  cases m with
  | false =>
    go_wp2
    go_ret
    exact ⟨by rw [HM.out]; rfl, HE1.out⟩
  | true =>
    by_cases h11 : a.kind = 11
    · have d1 : (a.kind == 11) = true := beq_iff_eq.2 h11
      have d1b : (a.kind != 11) = false := by simp [h11]
      obtain ⟨y, hy⟩ : ∃ y, y = a.yes := ⟨_, rfl⟩
      rw [← hy] at HM c1
      rw [d1] at HM
      clear hy
      cases y with
      | false =>
        go_wp2
        go_ret
        exact ⟨by rw [HM.out]; rfl, HE1.out⟩
      | true =>
        by_cases hw : a.which = 0
        · have d2 : (a.which == 0) = true := beq_iff_eq.2 hw
          rw [d2] at HM
          go_wp2
          go_ret
          exact ⟨by rw [HM.out]; rfl, HE1.out⟩
        · have d2 : (a.which == 0) = false := beq_eq_false_iff_ne.2 hw
          rw [d2] at HM
          go_wp2
          go_ret
          exact ⟨by rw [HM.out]; rfl, HE1.out⟩
    · have d1 : (a.kind == 11) = false := beq_eq_false_iff_ne.2 h11
      have d1b : (a.kind != 11) = true := by simp [h11]
      rw [d1] at HM
      go_wp2
      go_ret
      exact ⟨by rw [HM.out]; rfl, HE1.out⟩
/-- a number's digits -/
def numDf : Nat → Nat → List UInt8
  | 0, n => [UInt8.ofNat (48 + n % 10)]
  | f + 1, n => if n < 10 then [UInt8.ofNat (48 + n % 10)] else numDf f (n / 10) ++ [UInt8.ofNat (48 + n % 10)]
def numD (n : Nat) : List UInt8 := numDf 4 n
theorem numDf_len : ∀ f n, (numDf f n).length ≤ f + 1
  | 0, n => by simp [numDf]
  | f + 1, n => by
    unfold numDf
    split
    · simp
    · have := numDf_len f (n / 10); simp; omega
theorem wpList_conv_s {w : World} {ops : Array Oper} {rest : List Oper} {o : Oper} {A : Act} {Q : Exit → Act → World → Prop} (hgd : o.guard = none) (x : Operand) {s : Option Addr} {cap n : Nat} {l : List Nat} {t : List UInt8} (ht : l.map UInt8.ofNat = t) (hl : l.length = n) (h : BytesAt w s cap l) (ho : o.op = .convert 25 9 x)
    (hx : A.eval x = .slice s n cap) (hK : wpList Tryd.prog ops Q rest (A.put o.dst (sV t)) w) : wpList Tryd.prog ops Q (o :: rest) A w := by
  subst ht
  exact wpList_conv hgd x hl h ho hx hK
set_option maxRecDepth 100000 in
set_option maxHeartbeats 2000000 in
theorem num20_c : ∀ (f n : Nat), n < 10 ^ (f + 1) → f ≤ 9 → ∀ w : World, Calls Tryd.prog 20 #[.int .i64 (n : Int)] w fun e w' => e = .returned (sV (numDf f n)) ∧ Below w.heap.size w w' := by
  intro f
  induction f with
  | zero =>
    intro n hn hf w
    have h10 : n < 10 := by simpa using hn
    have d10 : decide ((n : Int) < 10) = true := by simp; omega
    have i10 : (n : Int) < 10 := by omega
    have er : (n : Int) % 10 = (n : Int) := by omega
    obtain ⟨d, hd⟩ : ∃ d, d = 48 + n := ⟨_, rfl⟩
    have e1 : IntKind.i64.wrap (48 + (n : Int)) = (d : Int) := by rw [IntWalk.i64_in _ (by omega)]; omega
    have e2 : IntKind.u8.wrap (d : Int) = (d : Int) := by rw [IntKind.wrap_u8]; omega
    have HV : Hid (numDf 0 n = [UInt8.ofNat d]) := by show _ = _; rw [hd]; unfold numDf; rw [Nat.mod_eq_of_lt h10]
    have HBS : Hid (BytesAt (w.alloc (.cells #[.int .u8 (d : Int)] 5)) (some ⟨w.heap.size, 0, none⟩) 1 [d]) := bytesAt_block (l := [d]) (by simp; omega) (heap_new' _ _)
    have HBE : Hid (Below w.heap.size w (w.alloc (.cells #[.int .u8 (d : Int)] 5))) := (Below.refl _ _).alloc (Nat.le_refl _) _
    clear hn hf h10 hd
    go_enter Tryd.func20, Tryd.ntmps20
    go_wp2_with (first
      | (refine wpList_conv_s rfl (.tmp 8) (l := [d]) (t := [UInt8.ofNat d]) rfl rfl HBS.out rfl rfl ?_)
      | fail)
    go_ret
    exact ⟨by rw [HV.out]; rfl, HBE.out⟩
  | succ f ih =>
    intro n hn hf w
    have hr : n % 10 < 10 := Nat.mod_lt _ (by decide)
    have hbig : n ≤ 99999999999 := by
      have h1 : 10 ^ (f + 1 + 1) ≤ 10 ^ 11 := Nat.pow_le_pow_right (by decide) (by omega)
      have h2 : (10 : Nat) ^ 11 = 100000000000 := by decide
      omega
    obtain ⟨r, hrr⟩ : ∃ r, r = n % 10 := ⟨_, rfl⟩
    have er : (n : Int) % 10 = (r : Int) := by omega
    obtain ⟨d, hd⟩ : ∃ d, d = 48 + r := ⟨_, rfl⟩
    have e1 : IntKind.i64.wrap (48 + (r : Int)) = (d : Int) := by rw [IntWalk.i64_in _ (by omega)]; omega
    have e2 : IntKind.u8.wrap (d : Int) = (d : Int) := by rw [IntKind.wrap_u8]; omega
    have HBS : Hid (BytesAt (w.alloc (.cells #[.int .u8 (d : Int)] 5)) (some ⟨w.heap.size, 0, none⟩) 1 [d]) := bytesAt_block (l := [d]) (by simp; omega) (heap_new' _ _)
    have HBE : Hid (Below w.heap.size w (w.alloc (.cells #[.int .u8 (d : Int)] 5))) := (Below.refl _ _).alloc (Nat.le_refl _) _
    by_cases h10 : n < 10
    · have d10 : decide ((n : Int) < 10) = true := by simp; omega
      have i10 : (n : Int) < 10 := by omega
      have HV : Hid (numDf (f + 1) n = [UInt8.ofNat d]) := by show _ = _; unfold numDf; rw [if_pos h10, hd, hrr]
      clear hn hf h10 hd hr hbig hrr ih
      go_enter Tryd.func20, Tryd.ntmps20
      go_wp2_with (first
        | (refine wpList_conv_s rfl (.tmp 8) (l := [d]) (t := [UInt8.ofNat d]) rfl rfl HBS.out rfl rfl ?_)
        | fail)
      go_ret
      exact ⟨by rw [HV.out]; rfl, HBE.out⟩
    · have d10 : decide ((n : Int) < 10) = false := by simp; omega
      have i10 : ¬ (n : Int) < 10 := by omega
      obtain ⟨q, hq⟩ : ∃ q, q = n / 10 := ⟨_, rfl⟩
      have eq1 : (n : Int) / 10 = (q : Int) := by omega
      have eqw : IntKind.i64.wrap (q : Int) = (q : Int) := IntWalk.i64_in _ (by omega)
      have HV : Hid (numDf (f + 1) n = numDf f q ++ [UInt8.ofNat d]) := by show _ = _; conv => lhs; unfold numDf
                                                                           rw [if_neg h10, hd, hrr, hq]
      have HIH : Hid (∀ w : World, Calls Tryd.prog 20 #[.int .i64 (q : Int)] w fun e w' => e = .returned (sV (numDf f q)) ∧ Below w.heap.size w w') := ih q (by rw [hq, Nat.pow_succ] at *; omega) (by omega)
      have hlen := numDf_len f q
      obtain ⟨X, hX⟩ : ∃ X, X = numDf f q := ⟨_, rfl⟩
      rw [← hX] at HV HIH hlen
      have hadd : X.length + ([UInt8.ofNat d] : List UInt8).length ≤ 9223372036854775807 := by simp; omega
      have hadd2 : X.length + 1 ≤ 9223372036854775807 := by omega
      clear hn h10 hd hr hbig hrr ih hX hq hlen
      go_enter Tryd.func20, Tryd.ntmps20
      go_wp2_with (first
        | (refine wpList_conv_s rfl (.tmp 8) (l := [d]) (t := [UInt8.ofNat d]) rfl rfl HBS.out rfl rfl ?_)
        | fail)
      generalize w.alloc (.cells #[.int .u8 (d : Int)] 5) = w0 at *
      refine (HIH.out w0).mono ?_
      rintro e w1 ⟨rfl, hb1⟩
      have HE1 : Hid (Below w.heap.size w w1) := HBE.out.trans (hb1.mono HBE.out.size)
      clear hb1
      go_wp2
      go_ret
      exact ⟨by rw [HV.out]; rfl, HE1.out⟩
def namesA : Array Value := #[.string ⟨#[102, 111, 114, 109, 97, 116]⟩, .string ⟨#[111, 112, 101, 110]⟩, .string ⟨#[99, 108, 111, 115, 101]⟩, .string ⟨#[98, 101, 103, 105, 110]⟩, .string ⟨#[99, 111, 109, 109, 105, 116]⟩, .string ⟨#[97, 98, 111, 114, 116]⟩, .string ⟨#[97, 108, 108, 111, 99]⟩, .string ⟨#[102, 114, 101, 101]⟩, .string ⟨#[114, 101, 97, 108, 108, 111, 99]⟩, .string ⟨#[119, 114, 105, 116, 101]⟩, .string ⟨#[114, 101, 97, 100]⟩, .string ⟨#[115, 101, 116]⟩, .string ⟨#[114, 111, 111, 116]⟩, .string ⟨#[115, 105, 122, 101]⟩, .string ⟨#[115, 116, 97, 116]⟩, .string ⟨#[99, 104, 101, 99, 107]⟩, .string ⟨#[99, 114, 97, 115, 104]⟩, .string ⟨#[97, 114, 109]⟩, .string ⟨#[116, 97, 109, 112, 101, 114]⟩, .string ⟨#[111, 110]⟩]
set_option maxRecDepth 100000 in
theorem names_c (w : World) : Calls Tryd.prog 18 #[] w fun e w' => ∃ g, e = .returned (.slice (some ⟨g, 0, none⟩) 20 20) ∧ w'.heap[g]? = some (.cells namesA 9 (0, 0)) ∧ Below w.heap.size w w' := by
  go_enter Tryd.func18, Tryd.ntmps18
  go_wp2
  go_ret
  exact ⟨_, rfl, heap_new' _ _, (Below.refl _ _).alloc (Nat.le_refl _) _⟩
theorem names_get (k : Nat) (hk : k < 20) : namesA[k]? = some (sV (nameK k)) := by
  rcases (by omega : k = 0 ∨ k = 1 ∨ k = 2 ∨ k = 3 ∨ k = 4 ∨ k = 5 ∨ k = 6 ∨ k = 7 ∨ k = 8 ∨ k = 9 ∨ k = 10 ∨ k = 11 ∨ k = 12 ∨ k = 13 ∨ k = 14 ∨ k = 15 ∨ k = 16 ∨ k = 17 ∨ k = 18 ∨ k = 19) with rfl | rfl | rfl | rfl | rfl | rfl | rfl | rfl | rfl | rfl | rfl | rfl | rfl | rfl | rfl | rfl | rfl | rfl | rfl | rfl <;> rfl
end Go.Proofs.YteennbdakjjcfaaDoor
