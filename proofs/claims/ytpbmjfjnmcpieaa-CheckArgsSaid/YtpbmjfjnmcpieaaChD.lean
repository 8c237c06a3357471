/- slot.may: a slot's window. -/
import Derived.Test.YtpbmjfjnmcpieaaChC
set_option linter.unusedVariables false
set_option linter.unusedSimpArgs false
namespace Go.Proofs.Ytpbmjfjnmcpieaa
open Go Go.RowKit Go.Lib
theorem run_subF (g o len cap l : Nat) (hl : l ≤ len) (w : World) :
    (Instr.sliceAt 34 (.slice (some ⟨g, o, none⟩) len cap) (some (.int .i64 (l : Int))) none none).run Try.prog w = .ok (.slice (some ⟨g, subO o cap l, none⟩) (len - l) (cap - l)) w := by
  obtain ⟨i0, hi, hz0, hz1, hz2⟩ := info_parts u8info
  have he : Try.prog.elem 34 = 5 := by kernel_rfl
  have hu : Try.prog.underlying 34 = some (.slice (Try.prog.elem 34)) := by rw [he]; exact Try.underlying34
  rw [run_sliceAt_slice (h := hu), run_slice_l (ht := hu) (h0 := by omega) (h1 := by omega)]
  rw [he, run_sizeOf (w := w) hi, show Try.prog.cellsOf 5 = 1 from (by kernel_rfl)]
  simp only [Result.andThen_ok, sliced, Int.toNat_natCast, Nat.mul_one]
  unfold subO
  split
  · rfl
  · simp only [Option.map_some]; rw [add_plain]
theorem wpList_subF_g {w : World} {ops : Array Oper} {rest : List Oper} {op : Oper} {A : Act} {Q : Exit → Act → World → Prop} (hw : Region.wanted op (yielded ops A.tmps) = true) {g o len cap l : Nat} (x y : Operand) (ho : op.op = .slice 34 x (some y) none none) (hx : A.eval x = .slice (some ⟨g, o, none⟩) len cap) (hy : A.eval y = .int .i64 (l : Int))
    (hl : l ≤ len) (hK : wpList Try.prog ops Q rest (A.put op.dst (.slice (some ⟨g, subO o cap l, none⟩) (len - l) (cap - l))) w) : wpList Try.prog ops Q (op :: rest) A w :=
  wpList_met hw fun _ hk => by
    unfold Oper.wp
    have : (execOp A.eval op).run Try.prog w = .ok (.value (.slice (some ⟨g, subO o cap l, none⟩) (len - l) (cap - l))) w := by
      unfold execOp
      simp only [ho, Option.map_some, Option.map_none, hx, hy, Sem.run_bind, run_subF g o len cap l hl w, Result.andThen_ok]
      rfl
    rw [this]
    exact hk _ _ hK
set_option maxRecDepth 100000 in
set_option maxHeartbeats 2000000 in
theorem slmay_c (g o n cap : Nat) (l : List Nat) (hl : l.length = n) (hn : 8 ≤ n) (hn2 : n ≤ 1000) (w : World) (h : BytesAt w (some ⟨g, o, none⟩) cap l) :
    Calls Try.prog 58 #[.slice (some ⟨g, o, none⟩) n cap] w fun e w' => e = .returned (.bool (okW l)) ∧ w = w' := by
  have HF := Lib.hid (free_c g o n cap l hl hn w h)
  have HZ := Lib.hid (zero_c _ n cap l hl (by omega) w h)
  have HS := Lib.hid (ssize_c g o n cap l hl hn w h)
  have HR := Lib.hid (serial_c g o n cap l hl hn w h)
  obtain ⟨m, hm⟩ : ∃ m, m = sizeW l := ⟨_, rfl⟩
  obtain ⟨s, hs⟩ : ∃ s, s = serW l := ⟨_, rfl⟩
  have HT : Hid (8 + m ≤ n → Calls Try.prog 36 #[.slice (some ⟨g, subO o cap (8 + m), none⟩) (n - (8 + m)) (cap - (8 + m))] w fun e w' => e = .returned (.bool (zeroB (l.drop (8 + m)))) ∧ w = w') := fun hle => by
    have hb := h.sub (lo := 8 + m) (hi := n) hle (by omega)
    rw [List.take_of_length_le (by rw [List.length_drop]; omega)] at hb
    exact zero_c _ _ _ _ (by rw [List.length_drop]; omega) (by omega) w hb
  have HO : Hid (okW l = if zeroB (l.take 8) then zeroB l else decide (0 < m) && decide (m ≤ n - 8) && decide (0 < s) && zeroB (l.drop (8 + m))) := by
    show _ = _
    rw [hm, hs, ← hl]
    rfl
  rw [← hm] at HS
  rw [← hs] at HR
  obtain ⟨z, hz⟩ : ∃ z, z = zeroB (l.take 8) := ⟨_, rfl⟩
  rw [← hz] at HF HO
  have e1 : IntKind.i64.wrap ((n : Int) - 8) = (n : Int) - 8 := IntWalk.i64_in _ (by omega)
  have HN8 : Hid (8 ≤ n ∧ n ≤ 1000) := ⟨hn, hn2⟩
  clear hl hn hn2 h hm hs hz
  go_enter Try.func58, Try.ntmps58
  go_wp2_with fail
  refine HF.out.mono ?_
  rintro e w1 ⟨rfl, rfl⟩
  cases z with
  | true =>
    go_wp2_with fail
    refine HZ.out.mono ?_
    rintro e w1 ⟨rfl, rfl⟩
    go_wp2
    go_ret
    exact ⟨by rw [HO.out]; rfl, rfl⟩
  | false =>
    go_wp2_with fail
    refine HS.out.mono ?_
    rintro e w1 ⟨rfl, rfl⟩
    by_cases h0 : 0 < m
    · have d0 : decide ((0 : Int) < (m : Int)) = true := by simp; omega
      have i0 : (0 : Int) < (m : Int) := by omega
      by_cases h1 : m ≤ n - 8
      · have d1 : decide ((m : Int) ≤ (n : Int) - 8) = true := by have := HN8.out; simp; omega
        have i1 : (m : Int) ≤ (n : Int) - 8 := by have := HN8.out; omega
        have H1 : Hid (8 + m ≤ n ∧ decide (0 < m) = true ∧ decide (m ≤ n - 8) = true) := ⟨by have := HN8.out; omega, by simpa using h0, by simpa using h1⟩
        have e2 : IntKind.i64.wrap (8 + (m : Int)) = ((8 + m : Nat) : Int) := by
          rw [show (8 + (m : Int)) = ((8 + m : Nat) : Int) by omega]; exact IntWalk.i64_in _ (by have := H1.out; have := HN8.out; omega)
        obtain ⟨q, hq⟩ : ∃ q, q = 8 + m := ⟨_, rfl⟩
        rw [← hq] at e2 HT HO H1
        clear h0 h1 hq
        go_wp2_with fail
        refine HR.out.mono ?_
        rintro e w1 ⟨rfl, rfl⟩
        by_cases h2 : 0 < s
        · have d2 : decide ((0 : Int) < (s : Int)) = true := by simp; omega
          have i2 : (0 : Int) < (s : Int) := by omega
          have H2 : Hid (decide (0 < s) = true) := by show _ = _; simpa using h2
          clear h2
          go_wp2_with (first
            | (refine wpList_subF_g (by rfl) (.tmp 25) (.tmp 27) (l := q) rfl rfl rfl H1.out.1 ?_)
            | fail)
          refine (HT.out H1.out.1).mono ?_
          rintro e w1 ⟨rfl, rfl⟩
          go_wp2
          go_ret
          exact ⟨by rw [HO.out, H1.out.2.1, H1.out.2.2, H2.out]; simp, rfl⟩
        · have d2 : decide ((0 : Int) < (s : Int)) = false := by simp; omega
          have i2 : ¬ (0 : Int) < (s : Int) := by omega
          have H2 : Hid (decide (0 < s) = false) := by show _ = _; simpa using h2
          clear h2
          go_wp2
          go_ret
          exact ⟨by rw [HO.out, H2.out]; simp, rfl⟩
      · have d1 : decide ((m : Int) ≤ (n : Int) - 8) = false := by have := HN8.out; simp; omega
        have i1 : ¬ (m : Int) ≤ (n : Int) - 8 := by have := HN8.out; omega
        have H1 : Hid (decide (m ≤ n - 8) = false) := by show _ = _; simpa using h1
        clear h0 h1
        go_wp2
        go_ret
        exact ⟨by rw [HO.out, H1.out]; simp, rfl⟩
    · have d0 : decide ((0 : Int) < (m : Int)) = false := by simp; omega
      have i0 : ¬ (0 : Int) < (m : Int) := by omega
      have H0 : Hid (decide (0 < m) = false) := by show _ = _; simpa using h0
      clear h0
      go_wp2
      go_ret
      exact ⟨by rw [HO.out, H0.out]; simp, rfl⟩
end Go.Proofs.Ytpbmjfjnmcpieaa
