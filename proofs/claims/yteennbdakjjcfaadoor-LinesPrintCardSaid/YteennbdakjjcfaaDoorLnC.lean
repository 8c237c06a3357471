/- A number's word; a line in memory: next, fail, num; the reference's value. -/
import Derived.Test.YteennbdakjjcfaaDoorLnB
set_option linter.unusedVariables false
set_option linter.unusedSimpArgs false
namespace Go.Proofs.YteennbdakjjcfaaDoor
open Go Go.RowKit Go.Lib
def isDig (c : UInt8) : Bool := decide (48 ≤ c.toNat ∧ c.toNat ≤ 57)
def decN : List UInt8 → Nat → Nat
  | [], n => n
  | c :: l, n => decN l (10 * n + (c.toNat - 48))
theorem decN_snoc : ∀ (l : List UInt8) (c : UInt8) (n : Nat), decN (l ++ [c]) n = 10 * decN l n + (c.toNat - 48)
  | [], c, n => rfl
  | x :: l, c, n => decN_snoc l c _
/-- a number's word -/
def numW (x : List UInt8) : Option Nat := if 1 ≤ x.length ∧ x.length ≤ 5 ∧ x.all isDig = true ∧ decN x 0 ≤ 65535 then some (decN x 0) else none
theorem numW_bad {x : List UInt8} {k : Nat} (hk : k < x.length) (h : isDig (x.getD k 0) = false) : numW x = none := by
  unfold numW
  rw [if_neg]
  intro h2
  have h3 := h2.2.2.1
  rw [List.all_eq_true] at h3
  have := h3 x[k] (List.getElem_mem _)
  rw [List.getD_eq_getElem?_getD, List.getElem?_eq_getElem hk] at h
  rw [show (some x[k]).getD 0 = x[k] from rfl, this] at h
  cases h
theorem dec_take (x : List UInt8) (k : Nat) (hk : k < x.length) : decN (x.take (k + 1)) 0 = 10 * decN (x.take k) 0 + ((x.getD k 0).toNat - 48) := by
  rw [List.take_succ_eq_append_getElem hk, decN_snoc, List.getD_eq_getElem?_getD, List.getElem?_eq_getElem hk]
  rfl
theorem dig_all {x : List UInt8} (h : ∀ k, k < x.length → isDig (x.getD k 0) = true) : x.all isDig = true := by
  rw [List.all_eq_true]
  intro c hc
  obtain ⟨k, hk, rfl⟩ := List.getElem_of_mem hc
  have := h k hk
  rwa [List.getD_eq_getElem?_getD, List.getElem?_eq_getElem hk] at this
/-- bytes below 58 and above 47: five of them are below 100000 -/
theorem dec_le (x : List UInt8) (k : Nat) (h : ∀ j, j < k → isDig (x.getD j 0) = true) (hk : k ≤ x.length) : decN (x.take k) 0 < 10 ^ k := by
  induction k with
  | zero => simp [decN]
  | succ k ih =>
    have h1 := ih (fun j hj => h j (by omega)) (by omega)
    have h2 := h k (by omega)
    unfold isDig at h2
    simp only [decide_eq_true_eq] at h2
    rw [dec_take x k (by omega), Nat.pow_succ]
    omega
/-- strings in a block below B -/
def StrB (w : World) (B : Nat) (v : Value) (ws : List (List UInt8)) : Prop := ∃ a cap, v = .slice a ws.length cap ∧ ws.length ≤ cap ∧ cap ≤ maxLen ∧ (∀ p, a = some p → p.block < B ∧ p.spot = none) ∧ ∀ (i : Nat) (l : List UInt8), ws[i]? = some l → ∃ g o, a = some ⟨g, o, none⟩ ∧ w.cell? ⟨g, o + i, none⟩ = some (sV l)
theorem StrB.up {w w' : World} {B : Nat} {v : Value} {ws : List (List UInt8)} (h : StrB w B v ws) (hb : Below B w w') : StrB w' B v ws := by
  obtain ⟨a, cap, h1, h2, h3, h4, h5⟩ := h
  refine ⟨a, cap, h1, h2, h3, h4, fun i l hl => ?_⟩
  obtain ⟨g, o, h6, h7⟩ := h5 i l hl
  exact ⟨g, o, h6, (hb.cell (p := ⟨g, o + i, none⟩) (h4 _ h6).1).trans h7⟩
/-- a line that is read: the words still to come, is it bad -/
def LineIs (w : World) (lb : Nat) (ws : List (List UInt8)) (bad : Bool) : Prop := ∃ v, w.heap[lb]? = some (.cells #[v, .bool bad] 58 (0, 0)) ∧ StrB w lb v ws
def Save (B m : Nat) (w w' : World) : Prop := Below B w w' ∧ ∀ k, k < w.heap.size → k ≠ m → w'.heap[k]? = w.heap[k]?
theorem Save.refl (B m : Nat) (w : World) : Save B m w w := ⟨Below.refl _ _, fun _ _ _ => rfl⟩
theorem Save.trans {B m : Nat} {a b c : World} (h : Save B m a b) (k : Save B m b c) : Save B m a c :=
  ⟨h.1.trans k.1, fun i hi hne => (k.2 i (Nat.lt_of_lt_of_le hi h.1.size) hne).trans (h.2 i hi hne)⟩
theorem Save.of_below {B m : Nat} {a b : World} (h : Below a.heap.size a b) (hB : B ≤ a.heap.size) : Save B m a b := ⟨h.mono hB, fun k hk _ => h.block k hk⟩
theorem Save.setCell {B m : Nat} {a b : World} (h : Save B m a b) (hB : B ≤ m) (o : Nat) (v : Value) : Save B m a (b.setCell ⟨m, o, none⟩ v) :=
  ⟨h.1.setCell hB _, fun k hk hne => (Below.heap_setCell _ _ _ _ (by simpa using hne)).trans (h.2 k hk hne)⟩
theorem Save.cell (w : World) (m o : Nat) (v : Value) : Save m m w (w.setCell ⟨m, o, none⟩ v) := (Save.refl m m w).setCell (Nat.le_refl _) o v
set_option maxRecDepth 100000 in
theorem fail_c (lb : Nat) (ws : List (List UInt8)) (bad : Bool) (w : World) (h : LineIs w lb ws bad) :
    Calls Tryd.prog 69 #[.pointer (some ⟨lb, 0, none⟩)] w fun e w' => e = .returned (.tuple #[]) ∧ LineIs w' lb ws true ∧ Save lb lb w w' := by
  obtain ⟨v, hblk, hs⟩ := h
  have c1 := (cells_at hblk 1).trans (show _ = some (Value.bool bad) from rfl)
  have f1 := free_at hblk 1
  have nb := block_at hblk 1 (.bool true)
  have NB : Hid ((w.setCell ⟨lb, 1, none⟩ (.bool true)).heap[lb]? = some (.cells #[v, .bool true] 58 (0, 0))) := nb
  have HS := Lib.hid hs
  clear hblk hs nb
  go_enter Tryd.func69, Tryd.ntmps69
  go_wp2
  go_end0
  exact ⟨rfl, ⟨v, NB.out, HS.out.up (Save.cell _ _ _ _).1⟩, Save.cell _ _ _ _⟩
set_option maxRecDepth 100000 in
set_option maxHeartbeats 2000000 in
theorem lnum_c (lb : Nat) (x : List UInt8) (ws : List (List UInt8)) (bad : Bool) (w : World) (h : LineIs w lb ws bad) :
    Calls Tryd.prog 55 #[.pointer (some ⟨lb, 0, none⟩), sV x] w fun e w' => e = .returned (.int .i64 (((numW x).getD 0 : Nat) : Int)) ∧ LineIs w' lb ws (bad || (numW x).isNone) ∧ Save lb lb w w' := by
  have HF := Lib.hid (fail_c lb ws bad w h)
  have HH := Lib.hid h
  clear h
  obtain ⟨n, hn⟩ : ∃ n, n = x.length := ⟨_, rfl⟩
  have HN := Lib.hid hn
  have hlx : x.length = n := hn.symm
  clear hn
  by_cases h0 : n = 0 ∨ n > 5
  · have HW : Hid (numW x = none) := by show _ = _; unfold numW; rw [if_neg (by rw [hlx]; omega)]
    by_cases hz : n = 0
    · have b0 : decide ((n : Int) = 0) = true := by simp; omega
      have i0 : (n : Int) = 0 := by omega
      have bb0 : ((n : Int) == 0) = true := by simp; omega
      clear h0
      go_enter Tryd.func55, Tryd.ntmps55
      go_wp2_with fail
      refine HF.out.mono ?_
      rintro e w1 ⟨rfl, hl1, hs1⟩
      have HL1 := Lib.hid hl1
      have HS1 := Lib.hid hs1
      clear hl1 hs1
      go_wp2
      go_ret
      exact ⟨by rw [HW.out]; rfl, by rw [HW.out]; cases bad <;> exact HL1.out, HS1.out⟩
    · have b0 : decide ((n : Int) = 0) = false := by simp; omega
      have i0 : ¬ (n : Int) = 0 := by omega
      have bb0 : ((n : Int) == 0) = false := by simp; omega
      have b5 : decide ((n : Int) > 5) = true := by simp; omega
      have i5 : (5 : Int) < (n : Int) := by omega
      clear h0
      go_enter Tryd.func55, Tryd.ntmps55
      go_wp2_with fail
      refine HF.out.mono ?_
      rintro e w1 ⟨rfl, hl1, hs1⟩
      have HL1 := Lib.hid hl1
      have HS1 := Lib.hid hs1
      clear hl1 hs1
      go_wp2
      go_ret
      exact ⟨by rw [HW.out]; rfl, by rw [HW.out]; cases bad <;> exact HL1.out, HS1.out⟩
  · have b0 : decide ((n : Int) = 0) = false := by simp; omega
    have i0 : ¬ (n : Int) = 0 := by omega
    have bb0 : ((n : Int) == 0) = false := by simp; omega
    have b5 : decide ((n : Int) > 5) = false := by simp; omega
    have i5 : ¬ (5 : Int) < (n : Int) := by omega
    have H5 : Hid (1 ≤ n ∧ n ≤ 5) := ⟨by omega, by omega⟩
    clear h0
    go_enter Tryd.func55, Tryd.ntmps55
    go_wp2
    go_loop [5, 19] (fun vn vi => ∃ k : Nat, k ≤ n ∧ vi = .int .i64 (k : Int) ∧ ∃ q : Nat, vn = .int .i64 (q : Int) ∧ Hid (q = decN (x.take k) 0) ∧ Hid (∀ j, j < k → isDig (x.getD j 0) = true)) (fun _ vi => n - (intOf vi).toNat)
    case atStart => exact ⟨0, by omega, rfl, 0, rfl, rfl, fun j h => by omega⟩
    case round =>
      obtain ⟨k, hk, rfl, q, rfl, hq, hdig⟩ := hrel
      have HQ : Hid (q < 10 ^ k ∧ q < 100000) := by
        have h1 := dec_le x k hdig.out (by rw [← HN.out]; exact hk)
        rw [← hq.out] at h1
        exact ⟨h1, Nat.lt_of_lt_of_le h1 (Nat.le_trans (Nat.pow_le_pow_right (by decide) hk) (Nat.le_trans (Nat.pow_le_pow_right (by decide) H5.out.2) (by decide)))⟩
      by_cases hlt : k < n
      · have hd : decide ((k : Int) < (n : Int)) = true := by simp; omega
        have dl : (k : Int) < (n : Int) := by omega
        have hix := fun w : World => run_index_sV w 9 x k Tryd.underlying9 (by rw [← HN.out]; exact hlt)
        obtain ⟨c, hc⟩ : ∃ c, c = (x.getD k 0).toNat := ⟨_, rfl⟩
        rw [← hc] at hix
        have HC := Lib.hid hc
        have HK := Lib.hid hlt
        have ek : IntKind.i64.wrap ((k : Int) + 1) = (k : Int) + 1 := by have := H5.out; exact IntWalk.i64_in _ (by omega)
        have HC256 : Hid (c < 256) := by show _ < _; rw [hc]; exact UInt8.toNat_lt _
        by_cases hlo : c < 48
        · have b48 : decide ((c : Int) < 48) = true := by simp; omega
          have i48 : (c : Int) < 48 := by omega
          have HW : Hid (numW x = none) := numW_bad (k := k) (by rw [← HN.out]; exact hlt) (by unfold isDig; rw [← hc]; simp; omega)
          clear hc
          go_wp2_with fail
          refine HF.out.mono ?_
          rintro e w1 ⟨rfl, hl1, hs1⟩
          have HL1 := Lib.hid hl1
          have HS1 := Lib.hid hs1
          clear hl1 hs1
          go_wp2
          go_ret
          exact ⟨by rw [HW.out]; rfl, by rw [HW.out]; cases bad <;> exact HL1.out, HS1.out⟩
        · have b48 : decide ((c : Int) < 48) = false := by simp; omega
          have i48 : ¬ (c : Int) < 48 := by omega
          by_cases hhi : c > 57
          · have b57 : decide ((c : Int) > 57) = true := by simp; omega
            have i57 : (57 : Int) < (c : Int) := by omega
            have HW : Hid (numW x = none) := numW_bad (k := k) (by rw [← HN.out]; exact hlt) (by unfold isDig; rw [← hc]; simp; omega)
            clear hc
            go_wp2_with fail
            refine HF.out.mono ?_
            rintro e w1 ⟨rfl, hl1, hs1⟩
            have HL1 := Lib.hid hl1
            have HS1 := Lib.hid hs1
            clear hl1 hs1
            go_wp2
            go_ret
            exact ⟨by rw [HW.out]; rfl, by rw [HW.out]; cases bad <;> exact HL1.out, HS1.out⟩
          · have b57 : decide ((c : Int) > 57) = false := by simp; omega
            have i57 : ¬ (57 : Int) < (c : Int) := by omega
            obtain ⟨d, hd2⟩ : ∃ d, d = c - 48 := ⟨_, rfl⟩
            have e1 : IntKind.u8.wrap ((c : Int) - 48) = (d : Int) := by rw [IntKind.wrap_u8]; omega
            have e2 : IntKind.i64.wrap (d : Int) = (d : Int) := by have := HC256.out; exact IntWalk.i64_in _ (by omega)
            obtain ⟨q10, hq10⟩ : ∃ y, y = 10 * q := ⟨_, rfl⟩
            have e3 : IntKind.i64.wrap (10 * (q : Int)) = (q10 : Int) := by have := HQ.out; rw [IntWalk.i64_in _ (by omega)]; omega
            obtain ⟨q2, hq2⟩ : ∃ y, y = q10 + d := ⟨_, rfl⟩
            have e4 : IntKind.i64.wrap ((q10 : Int) + (d : Int)) = (q2 : Int) := by have := HQ.out; have := HC256.out; rw [IntWalk.i64_in _ (by omega)]; omega
            have HQ2 : Hid (q2 = decN (x.take (k + 1)) 0) := by show _ = _; rw [dec_take x k (by rw [← HN.out]; exact hlt), ← hc, ← hq.out, hq2, hq10, hd2]
            have HD2 : Hid (∀ j, j < k + 1 → isDig (x.getD j 0) = true) := fun j hj => by
              rcases Nat.lt_or_eq_of_le (Nat.le_of_lt_succ hj) with h | h
              · exact hdig.out j h
              · subst h; unfold isDig; rw [← hc]; simp; omega
            clear hc hd2 hq10 hq2 hq hdig hk
            go_wp2
            go_round
            case rel => exact ⟨k + 1, by have := HK.out; omega, by go_num, q2, rfl, HQ2.out, HD2.out⟩
            case measure => simp [intOf]; have := HK.out; omega
      · have hd : decide ((k : Int) < (n : Int)) = false := by simp; omega
        have dl : ¬ (k : Int) < (n : Int) := by omega
        have HKE : Hid (k = x.length) := by show _ = _; rw [← HN.out]; omega
        have HA : Hid (x.all isDig = true) := dig_all (fun j hj => hdig.out j (by rw [HKE.out]; exact hj))
        have HQE : Hid (q = decN x 0) := by have := hq.out; rw [HKE.out, List.take_length] at this; exact this
        by_cases hbig : q > 65535
        · have bq : decide ((q : Int) > 65535) = true := by simp; omega
          have iq : (65535 : Int) < (q : Int) := by omega
          have HW : Hid (numW x = none) := by show _ = _; unfold numW; rw [if_neg (by rw [← HQE.out]; omega)]
          clear hq hdig hk
          go_wp2_with fail
          refine HF.out.mono ?_
          rintro e w1 ⟨rfl, hl1, hs1⟩
          have HL1 := Lib.hid hl1
          have HS1 := Lib.hid hs1
          clear hl1 hs1
          go_wp2
          go_ret
          exact ⟨by rw [HW.out]; rfl, by rw [HW.out]; cases bad <;> exact HL1.out, HS1.out⟩
        · have bq : decide ((q : Int) > 65535) = false := by simp; omega
          have iq : ¬ (65535 : Int) < (q : Int) := by omega
          have HW : Hid (numW x = some q) := by show _ = _; unfold numW; rw [if_pos ⟨by rw [← HN.out]; exact H5.out.1, by rw [← HN.out]; exact H5.out.2, HA.out, by rw [← HQE.out]; omega⟩, ← HQE.out]
          clear hq hdig hk
          go_wp2
          go_ret
          exact ⟨by rw [HW.out]; rfl, by rw [HW.out]; cases bad <;> exact HH.out, Save.refl _ _ _⟩
end Go.Proofs.YteennbdakjjcfaaDoor
