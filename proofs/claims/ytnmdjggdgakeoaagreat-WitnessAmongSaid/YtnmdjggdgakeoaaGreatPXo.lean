/- Lemmas for the proof. -/
import Derived.Test.YtnmdjggdgakeoaaGreatPXg
import Derived.Test.YtnmdjggdgakeoaaGreatPXc
import Derived.Test.YtnmdjggdgakeoaaGreatPXb
import Derived.Test.YtnmdjggdgakeoaaGreatPXe
import Derived.Test.YtnmdjggdgakeoaaGreatProg
import Derived.Deep.OwnRows
import Derived.Deep.RegionHeld
import Derived.Deep.MidRow
import Derived.OrdersHeld
import Derived.Laws.BytesString
import Derived.Laws.IdiomStrings
import Derived.Laws.Rows
import Derived.Laws.CopyOwn
import Derived.Lib.BufferRead
import Derived.Maps.AppendAt
import Derived.Lib.Walk
import Derived.Laws.BitsAllLaws
set_option maxRecDepth 100000
set_option maxHeartbeats 16000000
set_option linter.unusedVariables false
set_option linter.unusedSimpArgs false
set_option linter.unusedSectionVars false
namespace Go.Proofs.YtnmdjggdgakeoaaGreat
open Go Go.RowKit
theorem own_slice {w : World} {base : Nat} {v : Value} {n : Nat} {xs : List Value} (h : w.ownsRow base 5 1 v n xs) : ∃ a cap, v = .slice a n cap := by
 rcases h.2 with ⟨rfl, rfl⟩ | ⟨g, cap, cur, rfl, _⟩
 ·exact ⟨none, 0, rfl⟩
 ·exact ⟨_, cap, rfl⟩
theorem range_rowA {w : World} {g : Nat} {A : Array Value} {t : TypeId} (h : w.heap[g]? = some (.cells A t (0, 0))) : w.rangeAt g 0 A.toList := by
 intro j u hu;rw [cells_at h (0 + j), Nat.zero_add, <- hu, Array.getElem?_toList]
def subO (o cap l : Nat) : Nat := if cap = l then o else o + l
theorem BytesAt.sub {w : World} {g o cap : Nat} {l : List Nat} (h : BytesAt w (some ⟨g, o, none⟩) cap l) {lo hi : Nat} (hl : lo <= hi) (hh : hi <= l.length) : BytesAt w (some ⟨g, subO o cap lo, none⟩) (cap - lo) ((l.drop lo).take (hi - lo)) := by
 have hn : ((l.drop lo).take (hi - lo)).length = hi - lo := by rw [List.length_take, List.length_drop]; omega
 refine ⟨fun x hx => h.1 x (List.mem_of_mem_drop (List.mem_of_mem_take hx)), fun h0 => ?_⟩
 rw [hn] at h0;obtain ⟨g', o', e1, h2, h3, h4⟩ := h.2 (by omega)
 cases e1
 have hs : subO o cap lo = o + lo := by unfold subO; rw [if_neg (by omega)]
 refine ⟨g, o + lo, by rw [hs], by rw [hn]; omega, h3, fun j hj => ?_⟩
 rw [hn] at hj;rw [Nat.add_assoc, h4 (lo + j) (by omega), List.getD_eq_getElem?_getD, List.getD_eq_getElem?_getD, List.getElem?_take_of_lt hj, List.getElem?_drop]
def leN : List Nat -> Nat
 | [] => 0
 | c :: l => c + 256 * leN l
open Go.Lib
theorem leN_snoc (l : List Nat) (i : Nat) (h : i < l.length) : leN (l.take (i + 1)) = leN (l.take i) + l.getD i 0 * 2 ^ (8 * i) := by
 induction i generalizing l with
 | zero =>
  cases l with
  | nil => simp at h
  | cons c l => simp [leN]
 | succ i ih =>
  cases l with
  | nil => simp at h
  | cons c l =>
   have h2 : i < l.length := by simpa using h
   rw [List.take_succ_cons, List.take_succ_cons, leN, leN, ih l h2, List.getD_cons_succ, Nat.mul_add, show 8 * (i + 1) = 8 + 8 * i by omega, Nat.pow_add]
   rw [show 256 * (l.getD i 0 * 2 ^ (8 * i)) = l.getD i 0 * (2 ^ 8 * 2 ^ (8 * i)) by rw [show (2 : Nat) ^ 8 = 256 from rfl, <- Nat.mul_assoc, <- Nat.mul_assoc, Nat.mul_comm 256]]
   omega
theorem leN_lt (l : List Nat) (h : ∀ x ∈ l, x < 256) : leN l < 2 ^ (8 * l.length) := by
 induction l with
 | nil => simp [leN]
 | cons c l ih =>
  have h1 := h c List.mem_cons_self
  have h2 := ih (fun x hx => h x (List.mem_cons_of_mem _ hx))
  rw [leN, List.length_cons, show 8 * (l.length + 1) = 8 + 8 * l.length by omega, Nat.pow_add, show (2 : Nat) ^ 8 = 256 from rfl]
  omega
theorem or_add (x c k : Nat) (h : x < 2 ^ k) : x ||| c * 2 ^ k = x + c * 2 ^ k := by
 rw [Nat.or_comm, Nat.mul_comm, <- Nat.two_pow_add_eq_or_of_lt h c, Nat.add_comm]
theorem get_c (va : Option Addr) (n vc : Nat) (l : List Nat) (hl : l.length = n) (hn : n <= 8) (w : World) (h : BytesAt w va vc l) :
  Calls Tryz.prog 348 #[.slice va n vc] w fun e w' => e = .returned (.int .u64 (leN l : Int)) /\ w = w' := by
 have HL := Lib.hid hl;have HB := Lib.hid h;have HN := Lib.hid hn;clear hl h hn
 go_enter Tryz.func348, Tryz.ntmps348
 go_wp2
 go_loop [3, 8] (fun vm vi => ∃ i m : Nat, i <= n /\ vi = .int .i64 (i : Int) /\ vm = .int .u64 (m : Int) /\ Hid (m = leN (l.take i))) (fun _ vi => n - (RowKit.intOf vi).toNat)
 case atStart => exact ⟨0, 0, Nat.zero_le _, rfl, rfl, rfl⟩
 case round =>
  obtain ⟨i, m, hi, rfl, rfl, hm⟩ := hrel
  by_cases hlt : i < n
  ·have hd : decide ((i : Int) < (n : Int)) = true := by simp; omega
   have dl : (i : Int) < (n : Int) := by omega
   have dk0 : ¬ (i : Int) < 0 := by omega
   have i8 : ((i : Int) == 8) = false := by rw [beq_eq_false_iff_ne]; have := HN.out; omega
   have n8 : ¬ (i : Int) = 8 := by have := HN.out; omega
   obtain ⟨g, o, hva, hcap, hg, hc⟩ := HB.out.2 (by have := HL.out; omega)
   subst hva;obtain ⟨c, hcc⟩ : ∃ c, c = l.getD i 0 := ⟨_, rfl⟩
   have c1 := hc i (by have := HL.out; omega)
   rw [<- hcc] at c1;have c256 : c < 256 := by rw [hcc]; exact getD_lt HB.out.1 i
   have hml : m < 2 ^ (8 * i) := by
    have := leN_lt (l.take i) (fun x hx => HB.out.1 x (List.mem_of_mem_take hx))
    rw [List.length_take, Nat.min_eq_left (by have := HL.out; omega), <- hm.out] at this
    exact this
   have hsn := leN_snoc l i (by have := HL.out; omega)
   rw [<- hm.out, <- hcc] at hsn
   have hp : 2 ^ (8 * i) <= 2 ^ 56 := Nat.pow_le_pow_right (by decide) (by have := HN.out; omega)
   have hbig : c * 2 ^ (8 * i) < 18446744073709551616 := by
    have h1 : c * 2 ^ (8 * i) <= 255 * 2 ^ 56 := Nat.mul_le_mul (by omega) hp
    omega
   obtain ⟨q, hq⟩ : ∃ q, q = c * 2 ^ (8 * i) := ⟨_, rfl⟩
   have eo : bits BinOp.or IntKind.u64 (m : Int) (q : Int) = ((m + q : Nat) : Int) := by
    rw [u64_or_nat m q (by omega) (by omega), hq, or_add m c (8 * i) hml]
   have e8 : IntKind.i64.wrap (8 * (i : Int)) = 8 * (i : Int) := by have := HN.out; exact IntWalk.i64_in _ (by omega)
   have ec : IntKind.u64.wrap (c : Int) = (c : Int) := by rw [IntKind.wrap_u64]; omega
   have ek : IntKind.i64.wrap ((i : Int) + 1) = (i : Int) + 1 := by have := HN.out; exact IntWalk.i64_in _ (by omega)
   have e9 : ¬ 8 * (i : Int) < 0 := by omega
   have e10 : 8 * (i : Int) < 64 := by have := HN.out; omega
   have e11 : (8 * (i : Int)).toNat = 8 * i := by omega
   have e12 : ¬ 64 <= 8 * (i : Int) := by omega
   have e13 : IntKind.u64.wrap ((c : Int) * 2 ^ (8 * i)) = (q : Int) := by
    rw [show ((c : Int) * 2 ^ (8 * i)) = ((c * 2 ^ (8 * i) : Nat) : Int) by simp, <- hq, IntKind.wrap_u64]; omega
   have HZ : Hid (m + q = leN (l.take (i + 1))) := by show _ = _; rw [hsn, hq]
   have HI := Lib.hid hlt;clear hc hcc c256 hcap hg hm hlt hi hml hsn hp hbig hq;go_wp2
   go_round
   case rel => exact ⟨i + 1, m + q, by have := HI.out; omega, by go_num, rfl, HZ.out⟩
   case measure => simp [RowKit.intOf]; have := HI.out; omega
  ·have hd : decide ((i : Int) < (n : Int)) = false := by simp; omega
   have dl : ¬ (i : Int) < (n : Int) := by omega
   have hz := hm.out
   rw [List.take_of_length_le (by have := HL.out; omega)] at hz
   have HE := Lib.hid hz;clear hz hm;go_wp2
   go_ret
   exact ⟨by rw [<- HE.out]; rfl, rfl⟩
end Go.Proofs.YtnmdjggdgakeoaaGreat
