/- class.Place of a slot that is not there; slot.window. -/
import Derived.Test.YtpbmjfjnmcpieaaChD
set_option linter.unusedVariables false
set_option linter.unusedSimpArgs false
namespace Go.Proofs.Ytpbmjfjnmcpieaa
open Go Go.RowKit Go.Lib
set_option maxRecDepth 100000 in
set_option maxHeartbeats 1000000 in
theorem place_no (c k : Nat) (hk : slotsN c ≤ k) (w : World) :
    Calls Try.prog 74 #[.int .i64 (c : Int), .int .i64 (k : Int)] w fun e w' => e = .returned (.tuple #[.int .i64 0, .int .i64 0, .bool false]) ∧ w = w' := by
  have HL := Lib.hid (fun w => slots_c c w)
  obtain ⟨s, hs9⟩ : ∃ s, s = slotsN c := ⟨_, rfl⟩
  rw [← hs9] at HL hk
  have k0 : ¬ (k : Int) < 0 := by omega
  have k0d : decide ((k : Int) < 0) = false := by simp
  have k1 : (s : Int) ≤ (k : Int) := by omega
  have k1d : decide ((s : Int) ≤ (k : Int)) = true := by simp; omega
  have k2 : ¬ (k : Int) < (s : Int) := by omega
  clear hs9
  go_enter Try.func74, Try.ntmps74
  go_wp2_with fail
  refine (HL.out _).mono ?_
  rintro e w1 ⟨rfl, rfl⟩
  go_wp2
  go_ret3
  exact ⟨rfl, rfl⟩
theorem run_subM (g o len cap l h : Nat) (hl : l < h) (hh : h ≤ cap) (w : World) :
    (Instr.sliceAt 34 (.slice (some ⟨g, o, none⟩) len cap) (some (.int .i64 (l : Int))) (some (.int .i64 (h : Int))) (some (.int .i64 (h : Int)))).run Try.prog w = .ok (.slice (some ⟨g, o + l, none⟩) (h - l) (h - l)) w := by
  obtain ⟨i0, hi, hz0, hz1, hz2⟩ := info_parts u8info
  have he : Try.prog.elem 34 = 5 := by kernel_rfl
  have hu : Try.prog.underlying 34 = some (.slice (Try.prog.elem 34)) := by rw [he]; exact Try.underlying34
  rw [run_sliceAt_slice (h := hu), run_slice_lhm (ht := hu) (h0 := by omega) (h1 := by omega) (h2 := by omega) (h3 := by omega)]
  rw [he, run_sizeOf (w := w) hi, show Try.prog.cellsOf 5 = 1 from (by kernel_rfl)]
  simp only [Result.andThen_ok, sliced, Int.toNat_natCast, Nat.mul_one]
  rw [if_neg (by omega)]
  simp only [Option.map_some]; rw [add_plain]
end Go.Proofs.Ytpbmjfjnmcpieaa
