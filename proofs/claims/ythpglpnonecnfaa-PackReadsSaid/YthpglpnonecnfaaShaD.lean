/- Contracts of sha.high and sha.schedule. -/
import Derived.Test.YthpglpnonecnfaaShaC
set_option linter.unusedVariables false
set_option linter.unusedSimpArgs false
namespace Go.Proofs.Ythpglpnonecnfaa
open Go Go.RowKit Sha
def hvN (b : Nat → Nat) : Nat → Nat
  | 0 => 0
  | k + 1 => hvN b k * 256 + b k
theorem hvN_lt (b : Nat → Nat) (hb : ∀ j, b j < 256) : ∀ k, hvN b k < 256 ^ k
  | 0 => (by show 0 < 1; decide)
  | k + 1 => by
    have h1 := hvN_lt b hb k
    have h2 := hb k
    rw [Nat.pow_succ]
    show hvN b k * 256 + b k < _
    omega
theorem hvN_four (b : Nat → Nat) : hvN b 4 = be4 (b 0) (b 1) (b 2) (b 3) := by simp [hvN, be4]
theorem or_byte (v c : Nat) (hc : c < 256) : v * 256 ||| c = v * 256 + c := by
  have h := Nat.two_pow_add_eq_or_of_lt (i := 8) (b := c) hc v
  rw [show (2 ^ 8 : Nat) = 256 from rfl, Nat.mul_comm] at h
  exact h.symm
set_option maxRecDepth 100000 in
set_option maxHeartbeats 2000000 in
theorem shigh_c (g o cap : Nat) (b : Nat → Nat) (hb : ∀ j, b j < 256) (w : World) (hc : ∀ j, j < 4 → w.cell? ⟨g, o + j, none⟩ = some (.int .u8 (b j : Int))) :
    Calls Try.prog 64 #[.slice (some ⟨g, o, none⟩) 4 cap] w fun e w' => e = .returned (.int .u32 ((be4 (b 0) (b 1) (b 2) (b 3) : Nat) : Int)) ∧ w = w' := by
  have HC := Lib.hid hc
  have HB := Lib.hid hb
  have H4 := Lib.hid (hvN_four b)
  have HL := Lib.hid (hvN_lt b hb)
  obtain ⟨R, hR⟩ : ∃ R, R = be4 (b 0) (b 1) (b 2) (b 3) := ⟨_, rfl⟩
  rw [← hR] at H4 ⊢
  clear hc hb hR
  go_enter Try.func64, Try.ntmps64
  go_wp2
  go_loop [3, 8] (fun vv vi => ∃ k v : Nat, k ≤ 4 ∧ vi = .int .i64 (k : Int) ∧ vv = .int .u32 (v : Int) ∧ Hid (v = hvN b k)) (fun _ vi => 4 - (intOf vi).toNat)
  case atStart => exact ⟨0, 0, by omega, rfl, rfl, rfl⟩
  case round =>
    obtain ⟨k, v, hk, rfl, rfl, hv⟩ := hrel
    by_cases hlt : k < 4
    · have hd : decide ((k : Int) < 4) = true := by simp; omega
      have dl : (k : Int) < 4 := by omega
      have d0 : ¬ (k : Int) < 0 := by omega
      have cl := HC.out k hlt
      have hbk := HB.out k
      have hvl : v < 16777216 := by
        have h := HL.out k
        rw [← hv.out] at h
        have : 256 ^ k ≤ 256 ^ 3 := Nat.pow_le_pow_right (by omega) (by omega)
        omega
      obtain ⟨c, hcc⟩ : ∃ c, c = b k := ⟨_, rfl⟩
      rw [← hcc] at cl hbk
      have e8 : (v : Int) * 256 % 4294967296 = ((v * 256 : Nat) : Int) := by omega
      have ec : IntKind.u32.wrap (c : Int) = (c : Int) := by rw [IntKind.wrap_u32]; omega
      have eo : bits BinOp.or IntKind.u32 ((v * 256 : Nat) : Int) (c : Int) = ((v * 256 + c : Nat) : Int) := by
        rw [u32o rfl rfl (by omega) (by omega), or_byte v c hbk]
      obtain ⟨v8, hv8⟩ : ∃ x, x = v * 256 := ⟨_, rfl⟩
      rw [← hv8] at e8 eo
      obtain ⟨v9, hv9⟩ : ∃ x, x = v8 + c := ⟨_, rfl⟩
      rw [← hv9] at eo
      have HV : Hid (v9 = hvN b (k + 1)) := by show _ = _ * 256 + _; rw [hv9, hv8, hv.out, hcc]
      have HK := Lib.hid hlt
      clear hv8 hv9 hcc hbk hvl hlt hk
      go_wp2
      go_round
      case rel => exact ⟨k + 1, v9, by have := HK.out; omega, by go_num, rfl, HV.out⟩
      case measure => simp [intOf]; have := HK.out; omega
    · have hk4 : k = 4 := by omega
      have hd : decide ((k : Int) < 4) = false := by simp; omega
      have HV : Hid (v = R) := by show _ = _; rw [hv.out, hk4]; exact H4.out
      go_wp2
      go_ret
      exact ⟨by rw [← HV.out]; rfl, rfl⟩
end Go.Proofs.Ythpglpnonecnfaa
