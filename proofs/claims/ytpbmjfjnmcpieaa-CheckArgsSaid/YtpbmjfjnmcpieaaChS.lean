/- The plain law of a page of slots: what may be, and what is written again. -/
import Derived.Test.YtpbmjfjnmcpieaaChM
set_option linter.unusedVariables false
set_option linter.unusedSimpArgs false
namespace Go.Proofs.Ytpbmjfjnmcpieaa
open Go Go.RowKit
def leN : List Nat → Nat
  | [] => 0
  | c :: l => c + 256 * leN l
def lowL : Nat → Nat → List Nat
  | 0, _ => []
  | n + 1, v => v % 256 :: lowL n (v / 256)
def zeroB (l : List Nat) : Bool := l.all fun c => c == 0
def padB (l : List Nat) (z : Nat) : List Nat := l.take z ++ List.replicate (z - l.length) 0
theorem zeroB_app (l m : List Nat) : zeroB (l ++ m) = (zeroB l && zeroB m) := by unfold zeroB; rw [List.all_append]
theorem zeroB_rep (l : List Nat) : zeroB l = true ↔ l = List.replicate l.length 0 := by
  unfold zeroB
  rw [List.all_eq_true]
  constructor
  · intro h
    exact List.eq_replicate_iff.2 ⟨rfl, fun x hx => by simpa using h x hx⟩
  · intro h x hx
    have := (List.eq_replicate_iff.1 h).2 x hx
    simp [this]
theorem leN_zero (l : List Nat) : leN l = 0 ↔ zeroB l = true := by
  unfold zeroB
  induction l with
  | nil => simp [leN]
  | cons c l ih =>
    rw [leN, List.all_cons, Bool.and_eq_true, ← ih, beq_iff_eq]
    omega
theorem low_le (l : List Nat) (h : ∀ x ∈ l, x < 256) : lowL l.length (leN l) = l := by
  induction l with
  | nil => rfl
  | cons c l ih =>
    have hc := h c List.mem_cons_self
    have e1 : (c + 256 * leN l) % 256 = c := by omega
    have e2 : (c + 256 * leN l) / 256 = leN l := by omega
    rw [List.length_cons, leN, lowL, e1, e2, ih (fun x hx => h x (List.mem_cons_of_mem _ hx))]
theorem pad_take (w : List Nat) (k : Nat) (hk : k ≤ w.length) : padB (w.take k) w.length = w ↔ zeroB (w.drop k) = true := by
  have e : padB (w.take k) w.length = w.take k ++ List.replicate (w.length - k) 0 := by
    unfold padB
    rw [List.length_take, Nat.min_eq_left hk, List.take_of_length_le (by rw [List.length_take]; omega)]
  rw [e, zeroB_rep, List.length_drop]
  constructor
  · intro h
    have h2 : w.take k ++ List.replicate (w.length - k) 0 = w.take k ++ w.drop k := by rw [h, List.take_append_drop]
    exact (List.append_cancel_left h2).symm
  · intro h
    rw [← h, List.take_append_drop]
def sizeW (w : List Nat) : Nat := leN (w.take 2)
def serW (w : List Nat) : Nat := leN ((w.drop 2).take 6)
/-- the program's -/
def okW (w : List Nat) : Bool := if zeroB (w.take 8) then zeroB w else decide (0 < sizeW w) && decide (sizeW w ≤ w.length - 8) && decide (0 < serW w) && zeroB (w.drop (8 + sizeW w))
/-- the reference's: a slot written again -/
def encW (n s : Nat) (b : List Nat) (z : Nat) : List Nat := padB (if 0 < s then lowL 2 n ++ lowL 6 s ++ b else []) z
def agW (w : List Nat) : Bool := decide (sizeW w ≤ w.length - 8) && (sizeW w == 0) == (serW w == 0) && decide (encW (sizeW w) (serW w) ((w.drop 8).take (sizeW w)) w.length = w)
theorem take_eight (w : List Nat) : w.take 8 = w.take 2 ++ (w.drop 2).take 6 := by
  rw [show 8 = 2 + 6 from rfl, List.take_add]
theorem ok_ag (w : List Nat) (h8 : 8 ≤ w.length) (hb : ∀ x ∈ w, x < 256) : agW w = okW w := by
  have hz : zeroB (w.take 8) = (zeroB (w.take 2) && zeroB ((w.drop 2).take 6)) := by rw [take_eight, zeroB_app]
  have z1 := leN_zero (w.take 2)
  have z2 := leN_zero ((w.drop 2).take 6)
  change sizeW w = 0 ↔ _ at z1
  change serW w = 0 ↔ _ at z2
  have l2 : lowL 2 (sizeW w) = w.take 2 := by
    have := low_le (w.take 2) (fun x hx => hb x (List.mem_of_mem_take hx))
    rwa [List.length_take, Nat.min_eq_left (by omega)] at this
  have l6 : lowL 6 (serW w) = (w.drop 2).take 6 := by
    have := low_le ((w.drop 2).take 6) (fun x hx => hb x (List.mem_of_mem_drop (List.mem_of_mem_take hx)))
    rwa [List.length_take, List.length_drop, Nat.min_eq_left (by omega)] at this
  unfold agW okW
  rw [hz]
  by_cases hs : serW w = 0
  · have hs2 := z2.1 hs
    have e : encW (sizeW w) (serW w) ((w.drop 8).take (sizeW w)) w.length = padB (w.take 0) w.length := by
      unfold encW; rw [if_neg (by omega)]; rfl
    have hp : decide (encW (sizeW w) (serW w) ((w.drop 8).take (sizeW w)) w.length = w) = zeroB w := by
      rw [e]
      have := pad_take w 0 (by omega)
      rw [List.drop_zero] at this
      rw [Bool.eq_iff_iff, decide_eq_true_eq]
      exact this
    rw [hp, hs2, Bool.and_true]
    by_cases hn : sizeW w = 0
    · rw [z1.1 hn, hn, hs]; simp
    · have : zeroB (w.take 2) = false := by cases h : zeroB (w.take 2) with | false => rfl | true => exact absurd (z1.2 h) hn
      rw [this, hs]
      simp [hn]
  · have hs2 : zeroB ((w.drop 2).take 6) = false := by cases h : zeroB ((w.drop 2).take 6) with | false => rfl | true => exact absurd (z2.2 h) hs
    rw [hs2, Bool.and_false, if_neg (by simp)]
    by_cases hn : sizeW w ≤ w.length - 8
    · have e : encW (sizeW w) (serW w) ((w.drop 8).take (sizeW w)) w.length = padB (w.take (8 + sizeW w)) w.length := by
        unfold encW
        rw [if_pos (by omega), l2, l6, ← take_eight, List.take_add]
      have hp : decide (encW (sizeW w) (serW w) ((w.drop 8).take (sizeW w)) w.length = w) = zeroB (w.drop (8 + sizeW w)) := by
        rw [e]
        have := pad_take w (8 + sizeW w) (by omega)
        rw [Bool.eq_iff_iff, decide_eq_true_eq]
        exact this
      rw [hp]
      have c1 : (serW w == 0) = false := by simpa using hs
      have c2 : decide (0 < serW w) = true := by simp; omega
      have c3 : decide (sizeW w ≤ w.length - 8) = true := by simpa using hn
      rw [c1, c2, c3]
      by_cases h0 : sizeW w = 0
      · rw [h0]; simp
      · have c4 : (sizeW w == 0) = false := by simpa using h0
        have c5 : decide (0 < sizeW w) = true := by simp; omega
        rw [c4, c5]; simp
    · have c3 : decide (sizeW w ≤ w.length - 8) = false := by simpa using hn
      rw [c3]; simp
end Go.Proofs.Ytpbmjfjnmcpieaa
