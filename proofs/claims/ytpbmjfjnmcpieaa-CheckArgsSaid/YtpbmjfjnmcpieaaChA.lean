/- Contracts of package word for Check: Zero, Get. -/
import Derived.Test.YtpbmjfjnmcpieaaLnBase
import Derived.Test.YtpbmjfjnmcpieaaChS
import Derived.Laws.BitsAllLaws
set_option linter.unusedVariables false
set_option linter.unusedSimpArgs false
namespace Go.Proofs.Ytpbmjfjnmcpieaa
open Go Go.RowKit Go.Lib
theorem zeroB_snoc (l : List Nat) (i : Nat) (h : i < l.length) : zeroB (l.take (i + 1)) = (zeroB (l.take i) && (l.getD i 0 == 0)) := by
  rw [List.take_succ_eq_append_getElem h, zeroB_app, List.getD_eq_getElem?_getD, List.getElem?_eq_getElem h]
  simp [zeroB]
set_option maxRecDepth 100000 in
set_option maxHeartbeats 1000000 in
theorem zero_c (va : Option Addr) (n vc : Nat) (l : List Nat) (hl : l.length = n) (hn : n ≤ 1000000) (w : World) (h : BytesAt w va vc l) :
    Calls Try.prog 36 #[.slice va n vc] w fun e w' => e = .returned (.bool (zeroB l)) ∧ w = w' := by
  have HL := Lib.hid hl
  have HB := Lib.hid h
  have HN := Lib.hid hn
  clear hl h hn
  go_enter Try.func36, Try.ntmps36
  go_wp2
  go_loop [3, 8] (fun vm vi => ∃ i m : Nat, i ≤ n ∧ vi = .int .i64 (i : Int) ∧ vm = .int .u8 (m : Int) ∧ Hid (m < 256 ∧ (m == 0) = zeroB (l.take i))) (fun _ vi => n - (RowKit.intOf vi).toNat)
  case atStart => exact ⟨0, 0, Nat.zero_le _, rfl, rfl, by decide, rfl⟩
  case round =>
    obtain ⟨i, m, hi, rfl, rfl, hm⟩ := hrel
    by_cases hlt : i < n
    · have hd : decide ((i : Int) < (n : Int)) = true := by simp; omega
      have dl : (i : Int) < (n : Int) := by omega
      have dk0 : ¬ (i : Int) < 0 := by omega
      obtain ⟨g, o, hva, hcap, hg, hc⟩ := HB.out.2 (by have := HL.out; omega)
      subst hva
      obtain ⟨c, hcc⟩ : ∃ c, c = l.getD i 0 := ⟨_, rfl⟩
      have c1 := hc i (by have := HL.out; omega)
      rw [← hcc] at c1
      have c256 : c < 256 := by rw [hcc]; exact getD_lt HB.out.1 i
      have eo := u8_or_nat m c hm.out.1 c256
      have ek : IntKind.i64.wrap ((i : Int) + 1) = (i : Int) + 1 := by have := HN.out; exact IntWalk.i64_in _ (by omega)
      have HZ : Hid ((m ||| c) < 256 ∧ ((m ||| c) == 0) = zeroB (l.take (i + 1))) := by
        refine ⟨Nat.or_lt_two_pow (n := 8) hm.out.1 c256, ?_⟩
        rw [zeroB_snoc l i (by have := HL.out; omega), ← hm.out.2, ← hcc, Bool.eq_iff_iff]
        simp
      have HI := Lib.hid hlt
      clear hc hcc c256 hcap hg hm hlt hi
      go_wp2
      go_round
      case rel => exact ⟨i + 1, m ||| c, by have := HI.out; omega, by go_num, rfl, HZ.out⟩
      case measure => simp [RowKit.intOf]; have := HI.out; omega
    · have hd : decide ((i : Int) < (n : Int)) = false := by simp; omega
      have dl : ¬ (i : Int) < (n : Int) := by omega
      have hz := hm.out.2
      rw [List.take_of_length_le (by have := HL.out; omega)] at hz
      have ez : ((m : Int) == 0) = zeroB l := by rw [← hz, Bool.eq_iff_iff]; simp
      have HE := Lib.hid ez
      clear hz ez hm
      go_wp2
      go_ret
      exact ⟨by rw [← HE.out]; rfl, rfl⟩
theorem leN_snoc (l : List Nat) (i : Nat) (h : i < l.length) : leN (l.take (i + 1)) = leN (l.take i) + l.getD i 0 * 2 ^ (8 * i) := by
  induction i generalizing l with
  | zero =>
    cases l with
    | nil => simp at h
    | cons c l => simp [leN]
  | succ i ih =>
    cases l with
    | nil => simp at h
    | cons c l =>
      have h2 : i < l.length := by simpa using h
      rw [List.take_succ_cons, List.take_succ_cons, leN, leN, ih l h2, List.getD_cons_succ, Nat.mul_add, show 8 * (i + 1) = 8 + 8 * i by omega, Nat.pow_add]
      rw [show 256 * (l.getD i 0 * 2 ^ (8 * i)) = l.getD i 0 * (2 ^ 8 * 2 ^ (8 * i)) by rw [show (2 : Nat) ^ 8 = 256 from rfl, ← Nat.mul_assoc, ← Nat.mul_assoc, Nat.mul_comm 256]]
      omega
theorem leN_lt (l : List Nat) (h : ∀ x ∈ l, x < 256) : leN l < 2 ^ (8 * l.length) := by
  induction l with
  | nil => simp [leN]
  | cons c l ih =>
    have h1 := h c List.mem_cons_self
    have h2 := ih (fun x hx => h x (List.mem_cons_of_mem _ hx))
    rw [leN, List.length_cons, show 8 * (l.length + 1) = 8 + 8 * l.length by omega, Nat.pow_add, show (2 : Nat) ^ 8 = 256 from rfl]
    omega
theorem or_add (x c k : Nat) (h : x < 2 ^ k) : x ||| c * 2 ^ k = x + c * 2 ^ k := by
  rw [Nat.or_comm, Nat.mul_comm, ← Nat.two_pow_add_eq_or_of_lt h c, Nat.add_comm]
set_option maxRecDepth 100000 in
set_option maxHeartbeats 1000000 in
theorem get_c (va : Option Addr) (n vc : Nat) (l : List Nat) (hl : l.length = n) (hn : n ≤ 8) (w : World) (h : BytesAt w va vc l) :
    Calls Try.prog 65 #[.slice va n vc] w fun e w' => e = .returned (.int .u64 (leN l : Int)) ∧ w = w' := by
  have HL := Lib.hid hl
  have HB := Lib.hid h
  have HN := Lib.hid hn
  clear hl h hn
  go_enter Try.func65, Try.ntmps65
  go_wp2
  go_loop [3, 8] (fun vm vi => ∃ i m : Nat, i ≤ n ∧ vi = .int .i64 (i : Int) ∧ vm = .int .u64 (m : Int) ∧ Hid (m = leN (l.take i))) (fun _ vi => n - (RowKit.intOf vi).toNat)
  case atStart => exact ⟨0, 0, Nat.zero_le _, rfl, rfl, rfl⟩
  case round =>
    obtain ⟨i, m, hi, rfl, rfl, hm⟩ := hrel
    by_cases hlt : i < n
    · have hd : decide ((i : Int) < (n : Int)) = true := by simp; omega
      have dl : (i : Int) < (n : Int) := by omega
      have dk0 : ¬ (i : Int) < 0 := by omega
      have i8 : ((i : Int) == 8) = false := by rw [beq_eq_false_iff_ne]; have := HN.out; omega
      have n8 : ¬ (i : Int) = 8 := by have := HN.out; omega
      obtain ⟨g, o, hva, hcap, hg, hc⟩ := HB.out.2 (by have := HL.out; omega)
      subst hva
      obtain ⟨c, hcc⟩ : ∃ c, c = l.getD i 0 := ⟨_, rfl⟩
      have c1 := hc i (by have := HL.out; omega)
      rw [← hcc] at c1
      have c256 : c < 256 := by rw [hcc]; exact getD_lt HB.out.1 i
      have hml : m < 2 ^ (8 * i) := by
        have := leN_lt (l.take i) (fun x hx => HB.out.1 x (List.mem_of_mem_take hx))
        rw [List.length_take, Nat.min_eq_left (by have := HL.out; omega), ← hm.out] at this
        exact this
      have hsn := leN_snoc l i (by have := HL.out; omega)
      rw [← hm.out, ← hcc] at hsn
      have hp : 2 ^ (8 * i) ≤ 2 ^ 56 := Nat.pow_le_pow_right (by decide) (by have := HN.out; omega)
      have hbig : c * 2 ^ (8 * i) < 18446744073709551616 := by
        have h1 : c * 2 ^ (8 * i) ≤ 255 * 2 ^ 56 := Nat.mul_le_mul (by omega) hp
        omega
      obtain ⟨q, hq⟩ : ∃ q, q = c * 2 ^ (8 * i) := ⟨_, rfl⟩
      have eo : bits BinOp.or IntKind.u64 (m : Int) (q : Int) = ((m + q : Nat) : Int) := by
        rw [u64_or_nat m q (by omega) (by omega), hq, or_add m c (8 * i) hml]
      have e8 : IntKind.i64.wrap (8 * (i : Int)) = 8 * (i : Int) := by have := HN.out; exact IntWalk.i64_in _ (by omega)
      have ec : IntKind.u64.wrap (c : Int) = (c : Int) := by rw [IntKind.wrap_u64]; omega
      have ek : IntKind.i64.wrap ((i : Int) + 1) = (i : Int) + 1 := by have := HN.out; exact IntWalk.i64_in _ (by omega)
      have e9 : ¬ 8 * (i : Int) < 0 := by omega
      have e10 : 8 * (i : Int) < 64 := by have := HN.out; omega
      have e11 : (8 * (i : Int)).toNat = 8 * i := by omega
      have e12 : ¬ 64 ≤ 8 * (i : Int) := by omega
      have e13 : IntKind.u64.wrap ((c : Int) * 2 ^ (8 * i)) = (q : Int) := by
        rw [show ((c : Int) * 2 ^ (8 * i)) = ((c * 2 ^ (8 * i) : Nat) : Int) by simp, ← hq, IntKind.wrap_u64]; omega
      have HZ : Hid (m + q = leN (l.take (i + 1))) := by show _ = _; rw [hsn, hq]
      have HI := Lib.hid hlt
      clear hc hcc c256 hcap hg hm hlt hi hml hsn hp hbig hq
      go_wp2
      go_round
      case rel => exact ⟨i + 1, m + q, by have := HI.out; omega, by go_num, rfl, HZ.out⟩
      case measure => simp [RowKit.intOf]; have := HI.out; omega
    · have hd : decide ((i : Int) < (n : Int)) = false := by simp; omega
      have dl : ¬ (i : Int) < (n : Int) := by omega
      have hz := hm.out
      rw [List.take_of_length_le (by have := HL.out; omega)] at hz
      have HE := Lib.hid hz
      clear hz hm
      go_wp2
      go_ret
      exact ⟨by rw [← HE.out]; rfl, rfl⟩
end Go.Proofs.Ytpbmjfjnmcpieaa
