/- The program's digits, hex. Printed by gen_lndg.py. -/
import Derived.Test.YteennbdakjjcfaaDoorLnBld
set_option linter.unusedVariables false
set_option linter.unusedSimpArgs false
namespace Go.Proofs.YteennbdakjjcfaaDoor
open Go Go.RowKit Go.Lib
theorem numDf_small (f m : Nat) (h : m < 10) : numDf f m = [UInt8.ofNat (48 + m % 10)] := by
  cases f with
  | zero => rfl
  | succ f => unfold numDf; rw [if_pos h]
theorem enc_dig (d : Nat) (hd : d < 10) : Utf8.encode (48 + (d : Int)) = ⟨#[UInt8.ofNat (48 + d)]⟩ := by
  rcases (by omega : d = 0 ∨ d = 1 ∨ d = 2 ∨ d = 3 ∨ d = 4 ∨ d = 5 ∨ d = 6 ∨ d = 7 ∨ d = 8 ∨ d = 9) with rfl | rfl | rfl | rfl | rfl | rfl | rfl | rfl | rfl | rfl <;> rfl
def isT (v : Value) : Nat := match v with
  | .bool true => 1
  | _ => 0
theorem run_index_dig {P : Program} (w : World) (t : TypeId) (d : Nat) (h : P.underlying t = some .string) (hd : d < 10) : (Instr.index t (.string ⟨#[48, 49, 50, 51, 52, 53, 54, 55, 56, 57, 97, 98, 99, 100, 101, 102]⟩) (.int .i64 (d : Int))).run P w = .ok (.int .u8 ((48 + d : Nat) : Int)) w := by
  show (Instr.index t (sV hexSigns) (.int .i64 (d : Int))).run P w = _
  rw [run_index_sV w t hexSigns d h (by show d < 16; omega)]
  congr 2
  have : ∀ d : Nat, d < 10 → (hexSigns.getD d 0).toNat = 48 + d := by decide
  rw [this d hd]
set_option maxRecDepth 100000 in
set_option maxHeartbeats 4000000 in
theorem digits_c (n0 : Nat) (h0 : n0 ≤ 65535) (w : World) :
    Calls Tryd.prog 48 #[.int .i64 (n0 : Int)] w fun e w' => e = .returned (sV (numD n0)) ∧ w = w' := by
  have HN0 := Lib.hid h0
  clear h0
  go_enter Tryd.func48, Tryd.ntmps48
  go_wp2
  go_loop [0, 3, 4] (fun vn vs vo => ∃ (m : Nat) (acc : List UInt8) (ok : Bool), vn = .int .i64 (m : Int) ∧ vs = sV acc ∧ vo = .bool ok ∧ Hid ((ok = true ∧ ∃ f, m < 10 ^ (f + 1) ∧ numD n0 = numDf f m ++ acc) ∨ (ok = false ∧ m = 0 ∧ numD n0 = acc)) ∧ Hid (acc.length ≤ 5 ∧ m ≤ 65535)) (fun vn _ vo => (intOf vn).toNat + isT vo)
  case atStart => exact ⟨n0, [], true, rfl, rfl, rfl, Or.inl ⟨rfl, 4, by have := HN0.out; omega, by rw [List.append_nil]; rfl⟩, by simp, HN0.out⟩
  case round =>
    obtain ⟨m, acc, ok, rfl, rfl, rfl, hst, hac⟩ := hrel
    cases ok with
    | true =>
      obtain ⟨f, hmf, hnd⟩ : ∃ f, m < 10 ^ (f + 1) ∧ numD n0 = numDf f m ++ acc := by
        rcases hst.out with h | h
        · exact h.2
        · cases h.1
      obtain ⟨d, hd⟩ : ∃ d, d = m % 10 := ⟨_, rfl⟩
      obtain ⟨m1, hm1⟩ : ∃ x, x = m / 10 := ⟨_, rfl⟩
      have e1 : (m : Int) % 10 = (d : Int) := by omega
      have e2 : (m : Int) / 10 = (m1 : Int) := by omega
      have hix := fun w : World => run_index_dig (P := Tryd.prog) w 9 d Tryd.underlying9 (by omega)
      have hd10 : d < 10 := by omega
      have HD := Lib.hid hd
      have HM1 := Lib.hid hm1
      have HND := Lib.hid (And.intro hmf hnd)
      clear hd hm1 hmf hnd hst
      have hl1 : acc.length ≤ 9223372036854775806 := by have := hac.out; omega
      have hl2 : acc.length + 1 ≤ 9223372036854775807 := by omega
      have hl3 : 1 + acc.length ≤ 9223372036854775807 := by omega
      have he := enc_dig d hd10
      obtain ⟨x, hx⟩ : ∃ x, x = UInt8.ofNat (48 + d) := ⟨_, rfl⟩
      rw [← hx] at he
      have HX := Lib.hid hx
      clear hx
      by_cases hz : m1 = 0
      · have b1 : decide ((m1 : Int) > 0) = false := by simp; omega
        have b1n : decide (0 < m1) = false := by simp; omega
        have i1 : ¬ (0 : Int) < (m1 : Int) := by omega
        have HR : Hid (numD n0 = x :: acc) := by
          have hs : m < 10 := by have := HM1.out; omega
          show _ = _
          rw [HND.out.2, numDf_small f m hs, HX.out, HD.out]; rfl
        have HL : Hid ((x :: acc).length ≤ 5) := by
          have h := numD_len n0
          rw [HR.out] at h; exact h
        have HZ := Lib.hid hz
        clear hz
        go_wp2
        go_round
        case rel => exact ⟨m1, x :: acc, false, rfl, rfl, rfl, Or.inr ⟨rfl, HZ.out, HR.out⟩, HL.out, by have := HM1.out; have := hac.out; omega⟩
        case measure => simp [intOf, isT]; have := HZ.out; omega
      · have b1 : decide ((m1 : Int) > 0) = true := by simp; omega
        have b1n : decide (0 < m1) = true := by simp; omega
        have ew : wrap64 (m1 : Int) = (m1 : Int) := by have := HM1.out; have := hac.out; exact IntWalk.wrap64_in _ ⟨by omega, by omega⟩
        have i1 : (0 : Int) < (m1 : Int) := by omega
        obtain ⟨f2, hf2⟩ : ∃ g, f = g + 1 := by
          have h1 := HND.out.1
          have := HM1.out
          cases f with
          | zero => simp at h1; omega
          | succ g => exact ⟨g, rfl⟩
        have HR : Hid (m1 < 10 ^ (f2 + 1) ∧ numD n0 = numDf f2 m1 ++ (x :: acc)) := by
          have h1 := HND.out.1
          have h2 := HND.out.2
          have h3 := HM1.out
          rw [hf2] at h1 h2
          refine ⟨by rw [h3]; rw [Nat.pow_succ] at h1; omega, ?_⟩
          unfold numDf at h2
          rw [if_neg (by omega), ← HD.out, ← HX.out, ← h3, List.append_assoc] at h2
          exact h2
        have HL : Hid ((x :: acc).length ≤ 5) := by
          have h := numD_len n0
          rw [HR.out.2, List.length_append] at h
          show _ ≤ _
          omega
        have HM2 : Hid (m1 < m) := by have := HM1.out; show _ < _; omega
        have HEW := Lib.hid ew
        clear hz hf2
        go_wp2
        go_round
        case rel => exact ⟨m1, x :: acc, true, congrArg (Value.int .i64) HEW.out, rfl, rfl, Or.inl ⟨rfl, f2, HR.out⟩, HL.out, by have := HM1.out; have := hac.out; omega⟩
        case measure =>
          have hv : Value.int .i64 (wrap64 (m1 : Int)) = Value.int .i64 (m1 : Int) := congrArg _ HEW.out
          rw [hv]
          simp only [intOf, isT]
          have := HM2.out
          omega
    | false =>
      have HE : Hid (numD n0 = acc) := by
        rcases hst.out with h | h
        · cases h.1
        · exact h.2.2
      clear hst
      go_wp2
      go_ret
      exact ⟨by rw [HE.out]; rfl, rfl⟩
theorem run_index_u8 {P : Program} (w : World) (t : TypeId) (d : Nat) (h : P.underlying t = some .string) (hd : d < 16) : (Instr.index t (.string ⟨#[48, 49, 50, 51, 52, 53, 54, 55, 56, 57, 97, 98, 99, 100, 101, 102]⟩) (.int .u8 (d : Int))).run P w = .ok (.int .u8 ((UInt8.ofNat (signN d)).toNat : Int)) w := by
  rw [run_index_sVu w t d h hd]
  congr 2
  have : ∀ d : Nat, d < 16 → signN d = (UInt8.ofNat (signN d)).toNat := by decide +kernel
  rw [← this d hd]
set_option maxRecDepth 100000 in
set_option maxHeartbeats 4000000 in
theorem lhex_c (va : Option Addr) (n vc : Nat) (b : List Nat) (hb : b.length = n) (hn : n ≤ 100000) (w : World) (h : BytesAt w va vc b) :
    Calls Tryd.prog 49 #[.slice va n vc] w fun e w' => e = .returned (sV (hexS b)) ∧ Below w.heap.size w w' := by
  have HBY := Lib.hid h
  have HBL := Lib.hid hb
  have HNL := Lib.hid hn
  have n63 : n ≤ 9223372036854775807 := by omega
  clear h hb hn
  by_cases h0 : n = 0
  · have b0 : ((n : Int) == 0) = true := by simp; omega
    have i0 : (n : Int) = 0 := by omega
    have HE : Hid (hexS b = [45]) := by
      show _ = _
      have : b = [] := List.length_eq_zero_iff.1 (by rw [HBL.out]; exact h0)
      rw [this]; rfl
    clear h0
    go_enter Tryd.func49, Tryd.ntmps49
    go_wp2
    go_ret
    exact ⟨by rw [HE.out]; rfl, Below.refl _ _⟩
  · have b0 : ((n : Int) == 0) = false := by simp; omega
    have i0 : ¬ (n : Int) = 0 := by omega
    have HE : Hid (hexS b = (hexB b).map UInt8.ofNat) := by
      show _ = _
      unfold hexS
      rw [if_neg]
      intro e
      rw [e] at HBL
      exact h0 HBL.out.symm
    obtain ⟨g, o, hva, hcap, hg, hc⟩ := HBY.out.2 (by have := HBL.out; omega)
    subst hva
    have HC : Hid (∀ j, j < b.length → w.cell? ⟨g, o + j, none⟩ = some (.int .u8 ((b.getD j 0 : Nat) : Int))) := hc
    have HG := Lib.hid hg
    have HF : Hid (Bld (w.alloc (.cells #[.pointer none, .slice none 0 0] 71)) w.heap.size w.heap.size []) := bld_fresh w
    have HB0 : Hid (Below w.heap.size w (w.alloc (.cells #[.pointer none, .slice none 0 0] 71))) := (Below.refl _ _).alloc (Nat.le_refl _) _
    clear h0 hcap hg hc
    go_enter Tryd.func49, Tryd.ntmps49
    go_wp2
    go_loopw [11] (fun vi wr => ∃ i : Nat, i ≤ n ∧ vi = .int .i64 (i : Int) ∧ Hid (Bld wr w.heap.size w.heap.size ((hexB (b.take i)).map UInt8.ofNat)) ∧ Hid (Below w.heap.size w wr)) (fun vi _ => n - (intOf vi).toNat)
    case atStart => exact ⟨0, Nat.zero_le _, rfl, by rw [List.take_zero]; exact HF.out, HB0.out⟩
    case round =>
      clear HF HB0
      obtain ⟨i, hi, rfl, hbd, hbel⟩ := hrel
      by_cases hlt : i < n
      · have hd : decide ((i : Int) < (n : Int)) = true := by simp; omega
        have dl : (i : Int) < (n : Int) := by omega
        have dk0 : ¬ (i : Int) < 0 := by omega
        have hil : i < b.length := by rw [HBL.out]; exact hlt
        obtain ⟨c, hcc⟩ : ∃ c, c = b.getD i 0 := ⟨_, rfl⟩
        have cc : wr.cell? ⟨g, o + i, none⟩ = some (.int .u8 (c : Int)) := by rw [hcc]; exact (hbel.out.cell (p := ⟨g, o + i, none⟩) HG.out).trans (HC.out i hil)
        have hc256 : c < 256 := by rw [hcc]; exact getD_lt HBY.out.1 i
        have HSN := Lib.hid (hexB_snoc b i hil)
        rw [← hcc] at HSN
        obtain ⟨hi4, hhi⟩ : ∃ x, x = c / 16 := ⟨_, rfl⟩
        obtain ⟨lo4, hlo⟩ : ∃ x, x = c % 16 := ⟨_, rfl⟩
        have e1 : (c : Int) / 2 ^ 4 = (hi4 : Int) := by rw [show ((2 : Int) ^ 4) = 16 from rfl]; omega
        have e1b : (c : Int) / 16 = (hi4 : Int) := by omega
        have e2 : bits BinOp.and IntKind.u8 (c : Int) 15 = (lo4 : Int) := by
          have h := u8_and_nat c 15 hc256 (by decide)
          rw [show ((15 : Nat) : Int) = 15 from rfl] at h
          rw [h, hlo]
          congr 1
          exact Nat.and_two_pow_sub_one_eq_mod c 4
        have hix1 := fun w : World => run_index_u8 (P := Tryd.prog) w 9 hi4 Tryd.underlying9 (by omega)
        have hix2 := fun w : World => run_index_u8 (P := Tryd.prog) w 9 lo4 Tryd.underlying9 (by omega)
        have HI := Lib.hid hlt
        have ek : IntKind.i64.wrap ((i : Int) + 1) = (i : Int) + 1 := by have := HNL.out; exact IntWalk.i64_in _ (by omega)
        obtain ⟨Y, hY⟩ : ∃ Y, Y = (hexB (b.take i)).map UInt8.ofNat := ⟨_, rfl⟩
        have HYL : Hid (Y.length ≤ 200000) := by
          show _ ≤ _
          rw [hY, List.length_map, hexB_len, List.length_take]
          have := HNL.out
          omega
        obtain ⟨s1, hs1⟩ : ∃ s, s = UInt8.ofNat (signN hi4) := ⟨_, rfl⟩
        obtain ⟨s2, hs2⟩ : ∃ s, s = UInt8.ofNat (signN lo4) := ⟨_, rfl⟩
        rw [← hs1] at hix1
        rw [← hs2] at hix2
        have HN : Hid ((hexB (b.take (i + 1))).map UInt8.ofNat = (Y ++ [s1]) ++ [s2]) := by
          show _ = _
          rw [HSN.out, List.map_append, ← hY, hs1, hs2, hhi, hlo]
          simp
        rw [← hY] at hbd
        clear hil hcc hc256 HSN hhi hlo hY hs1 hs2 hi hlt
        go_wp2_with fail
        refine (bld_byte w.heap.size w.heap.size Y s1 wr hbd.out (by have := HYL.out; omega) hbel.out.size).mono ?_
        rintro e w1 ⟨rfl, hb1, hbl1⟩
        have HB1 := Lib.hid hb1
        have HBE1 : Hid (Below w.heap.size w w1) := hbel.out.trans hbl1
        clear hb1 hbl1 hbd hbel cc
        go_wp2_with fail
        refine (bld_byte w.heap.size w.heap.size (Y ++ [s1]) s2 w1 HB1.out (by have := HYL.out; rw [List.length_append, List.length_singleton]; omega) HBE1.out.size).mono ?_
        rintro e w2 ⟨rfl, hb2, hbl2⟩
        have HB2 := Lib.hid hb2
        have HBE2 : Hid (Below w.heap.size w w2) := HBE1.out.trans hbl2
        clear hb2 hbl2 HB1 HBE1
        go_wp2
        go_roundw
        case rel => exact ⟨i + 1, by have := HI.out; omega, by go_num, by rw [HN.out]; exact HB2.out, HBE2.out⟩
        case measure => simp [intOf]; have := HI.out; omega
      · have hd : decide ((i : Int) < (n : Int)) = false := by simp; omega
        have dl : ¬ (i : Int) < (n : Int) := by omega
        have hbd2 := hbd.out
        rw [List.take_of_length_le (by rw [HBL.out]; omega), ← HE.out] at hbd2
        have HBD := Lib.hid hbd2
        obtain ⟨Y, hY⟩ : ∃ Y, Y = hexS b := ⟨_, rfl⟩
        rw [← hY] at HBD
        have HYE := Lib.hid hY
        clear hbd2 hY hbd
        go_wp2_with fail
        refine (bld_done w.heap.size w.heap.size Y wr HBD.out hbel.out.size).mono ?_
        rintro e w1 ⟨rfl, hbl1⟩
        have HBE1 : Hid (Below w.heap.size w w1) := hbel.out.trans hbl1
        clear hbl1
        go_wp2
        go_ret
        exact ⟨by rw [← HYE.out]; rfl, HBE1.out⟩
end Go.Proofs.YteennbdakjjcfaaDoor
