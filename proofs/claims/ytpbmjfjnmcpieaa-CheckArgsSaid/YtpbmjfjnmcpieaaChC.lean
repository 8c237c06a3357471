/- Contracts of package slot for Check: serial, free, size. -/
import Derived.Test.YtpbmjfjnmcpieaaChB
set_option linter.unusedVariables false
set_option linter.unusedSimpArgs false
namespace Go.Proofs.Ytpbmjfjnmcpieaa
open Go Go.RowKit Go.Lib
set_option maxRecDepth 100000 in
set_option maxHeartbeats 1000000 in
theorem serial_c (g o n cap : Nat) (l : List Nat) (hl : l.length = n) (hn : 8 ≤ n) (w : World) (h : BytesAt w (some ⟨g, o, none⟩) cap l) :
    Calls Try.prog 60 #[.slice (some ⟨g, o, none⟩) n cap] w fun e w' => e = .returned (.int .u64 (serW l : Int)) ∧ w = w' := by
  have hc : n ≤ cap := by
    obtain ⟨_, _, _, hc, _⟩ := h.2 (by omega)
    omega
  have HB := Lib.hid (h.sub (lo := 2) (hi := 8) (by omega) (by omega))
  have HL : Hid (((l.drop 2).take (8 - 2)).length = 6) := by show _ = _; rw [List.length_take, List.length_drop]; omega
  have HC : Hid (8 ≤ cap) := by show _ ≤ _; omega
  have HV : Hid (leN ((l.drop 2).take (8 - 2)) = serW l) := rfl
  clear h hl hn hc
  go_enter Try.func60, Try.ntmps60
  go_wp2_with (first
    | (refine wpList_sub rfl (.tmp 3) (.const (.int .i64 2)) (.const (.int .i64 8)) (l := 2) (h := 8) rfl rfl rfl rfl (by omega) HC.out ?_)
    | fail)
  refine (get_c _ 6 _ _ HL.out (by omega) _ HB.out).mono ?_
  rintro e w1 ⟨rfl, rfl⟩
  go_wp2
  go_ret
  exact ⟨by rw [← HV.out]; rfl, rfl⟩
set_option maxRecDepth 100000 in
set_option maxHeartbeats 1000000 in
theorem free_c (g o n cap : Nat) (l : List Nat) (hl : l.length = n) (hn : 8 ≤ n) (w : World) (h : BytesAt w (some ⟨g, o, none⟩) cap l) :
    Calls Try.prog 75 #[.slice (some ⟨g, o, none⟩) n cap] w fun e w' => e = .returned (.bool (zeroB (l.take 8))) ∧ w = w' := by
  have hc : n ≤ cap := by
    obtain ⟨_, _, _, hc, _⟩ := h.2 (by omega)
    omega
  have HB := Lib.hid (bytes_takeM h 8)
  have HL : Hid ((l.take 8).length = 8) := by show _ = _; rw [List.length_take]; omega
  have h8 : 8 ≤ cap := by omega
  have h8i : (8 : Int) ≤ (cap : Int) := by omega
  have h8n : ¬ (cap : Int) < 8 := by omega
  clear h hl hn hc
  go_enter Try.func75, Try.ntmps75
  go_wp2_with fail
  refine (zero_c _ 8 _ _ HL.out (by omega) _ HB.out).mono ?_
  rintro e w1 ⟨rfl, rfl⟩
  go_wp2
  go_ret
  exact ⟨rfl, rfl⟩
set_option maxRecDepth 100000 in
set_option maxHeartbeats 1000000 in
theorem ssize_c (g o n cap : Nat) (l : List Nat) (hl : l.length = n) (hn : 8 ≤ n) (w : World) (h : BytesAt w (some ⟨g, o, none⟩) cap l) :
    Calls Try.prog 61 #[.slice (some ⟨g, o, none⟩) n cap] w fun e w' => e = .returned (.int .i64 (sizeW l : Int)) ∧ w = w' := by
  have hc : n ≤ cap := by
    obtain ⟨_, _, _, hc, _⟩ := h.2 (by omega)
    omega
  have HB := Lib.hid (bytes_takeM h 2)
  have HL : Hid ((l.take 2).length = 2) := by show _ = _; rw [List.length_take]; omega
  have h8 : 2 ≤ cap := by omega
  have h8i : (2 : Int) ≤ (cap : Int) := by omega
  have h8n : ¬ (cap : Int) < 2 := by omega
  obtain ⟨v, hv⟩ : ∃ v, v = leN (l.take 2) := ⟨_, rfl⟩
  have hlt := leN_lt (l.take 2) (fun x hx => h.1 x (List.mem_of_mem_take hx))
  rw [HL.out, ← hv] at hlt
  have ew : IntKind.i64.wrap (v : Int) = (v : Int) := IntWalk.i64_in _ (by omega)
  have HV : Hid (sizeW l = v) := hv.symm
  have HG := Lib.hid (get_c _ 2 _ _ HL.out (by omega) w HB.out)
  rw [← hv] at HG
  clear h hl hn hc hlt hv
  go_enter Try.func61, Try.ntmps61
  go_wp2_with fail
  refine HG.out.mono ?_
  rintro e w1 ⟨rfl, rfl⟩
  go_wp2
  go_ret
  exact ⟨by rw [HV.out]; rfl, rfl⟩
end Go.Proofs.Ytpbmjfjnmcpieaa
