/- pack.May. -/
import Derived.Test.YthpglpnonecnfaaPkA
set_option linter.unusedVariables false
set_option linter.unusedSimpArgs false
namespace Go.Proofs.Ythpglpnonecnfaa
open Go Go.RowKit Sha
theorem mayB_bad {L : List (List Nat)} {k : Nat} {l : List Nat} (hk : L[k]? = some l) (h : decide (1 ≤ l.length ∧ l.length ≤ 4096) = false) : mayB L = false := by
  unfold mayB
  rw [List.all_eq_false]
  exact ⟨l, List.mem_of_getElem? hk, by rw [h]; decide⟩
theorem mayB_all {L : List (List Nat)} (h : ∀ (k : Nat) l, L[k]? = some l → decide (1 ≤ l.length ∧ l.length ≤ 4096) = true) : mayB L = true := by
  unfold mayB
  rw [List.all_eq_true]
  intro l hl
  obtain ⟨k, hk⟩ := List.getElem?_of_mem hl
  exact h k l hk
set_option maxRecDepth 100000 in
set_option maxHeartbeats 2000000 in
theorem indexf_c (a : Option Addr) (n cap : Nat) (L : List (List Nat)) (hn : L.length = n) (hnm : n ≤ 1000000) (w : World) (hR : RowsAt w a L) :
    Calls Try.prog 44 #[.slice a n cap, .func (.func 32) #[] #[]] w fun e w' => (∃ r : Int, e = .returned (.int .i64 r) ∧ decide (r ≥ 0) = !mayB L) ∧ w = w' := by
  have HR := Lib.hid hR
  have HN := Lib.hid hn
  have HNM := Lib.hid hnm
  clear hR hn hnm
  go_enter Try.func44, Try.ntmps44
  go_wp2
  go_loop [8] (fun vi => ∃ k : Nat, k ≤ n ∧ vi = .int .i64 (k : Int) ∧ Hid (∀ (j : Nat) l, j < k → L[j]? = some l → decide (1 ≤ l.length ∧ l.length ≤ 4096) = true)) (fun vi => n - (intOf vi).toNat)
  case atStart => exact ⟨0, by omega, rfl, fun j l h => by omega⟩
  case round =>
    obtain ⟨k, hk, rfl, hall⟩ := hrel
    by_cases hlt : k < n
    · have hd : decide ((k : Int) < (n : Int)) = true := by simp; omega
      have dl : (k : Int) < (n : Int) := by omega
      have d0 : ¬ (k : Int) < 0 := by omega
      have hkl : k < L.length := by rw [HN.out]; exact hlt
      have hget := List.getElem?_eq_getElem hkl
      obtain ⟨l, hl⟩ : ∃ l, l = L[k] := ⟨_, rfl⟩
      rw [← hl] at hget
      obtain ⟨g, o, v, rfl, hg, hcell, pa, pc, rfl, hpb, hpn, hpl, hpm⟩ := HR.out k l hget
      obtain ⟨ln, hln⟩ : ∃ ln, ln = l.length := ⟨_, rfl⟩
      rw [← hln] at hcell
      have HG := Lib.hid hget
      have HLN := Lib.hid hln
      have HK := Lib.hid hlt
      have ek : IntKind.i64.wrap ((k : Int) + 1) = (k : Int) + 1 := by have := HNM.out; exact IntWalk.i64_in _ (by omega)
      clear hget hl hkl hpb hpn hpl hpm hg hln hk hlt
      go_wp2_with fail
      refine (bad_c pa ln pc w).mono ?_
      rintro e w1 ⟨rfl, rfl⟩
      by_cases hbad : decide (1 ≤ ln ∧ ln ≤ 4096) = true
      · rw [hbad]
        have HBAD := Lib.hid hbad
        clear hbad
        go_wp2
        go_round
        case rel =>
          refine ⟨k + 1, by have := HK.out; omega, by go_num, fun j l' hj hjl => ?_⟩
          rcases Nat.lt_or_eq_of_le (Nat.le_of_lt_succ hj) with h | h
          · exact hall.out j l' h hjl
          · subst h
            rw [HG.out] at hjl
            cases hjl
            rw [← HLN.out]; exact HBAD.out
        case measure => simp [intOf]; have := HK.out; omega
      · have hbf : decide (1 ≤ ln ∧ ln ≤ 4096) = false := by simpa using hbad
        rw [hbf]
        have HMB : Hid (mayB L = false) := mayB_bad HG.out (by rw [← HLN.out]; exact hbf)
        clear hbad hbf
        go_wp2
        go_ret
        exact ⟨⟨_, rfl, by rw [HMB.out]; simp⟩, rfl⟩
    · have hkn : k = n := by omega
      have hd : decide ((k : Int) < (n : Int)) = false := by simp; omega
      have HMB : Hid (mayB L = true) := mayB_all fun j l hj => hall.out j l (by have := (List.getElem?_eq_some_iff.1 hj).1; rw [HN.out] at this; omega) hj
      go_wp2
      go_ret
      exact ⟨⟨_, rfl, by rw [HMB.out]; decide⟩, rfl⟩
set_option maxRecDepth 100000 in
theorem containsf_c (a : Option Addr) (n cap : Nat) (L : List (List Nat)) (hn : L.length = n) (hnm : n ≤ 1000000) (w : World) (hR : RowsAt w a L) :
    Calls Try.prog 33 #[.slice a n cap, .func (.func 32) #[] #[]] w fun e w' => e = .returned (.bool (!mayB L)) ∧ w = w' := by
  have HC := Lib.hid (indexf_c a n cap L hn hnm w hR)
  clear hR hn hnm
  go_enter Try.func33, Try.ntmps33
  go_wp2_with fail
  refine HC.out.mono ?_
  rintro e w1 ⟨⟨r, rfl, hr⟩, rfl⟩
  go_wp2
  go_ret
  first
    | exact ⟨by rw [← hr]; rfl, rfl⟩
    | (simp only [ge_iff_le] at hr; exact ⟨by rw [← hr]; rfl, rfl⟩)
theorem int1 : (Try.prog.info? 3).map (·.size) = some 1 := by kernel_rfl
theorem index_R (R : List Int) (h : R.length = 16) (k : Nat) (hk : k < 16) (w : World) : (Instr.index 23 (.agg (R.map fun (n : Int) => Value.int .i64 n).toArray) (.int .i64 (k : Int))).run Try.prog w = .ok (.int .i64 (R.getD k 0)) w := by
  have hn : (0 ≤ (k : Int) ∧ (k : Int) < ((16 : Nat) : Int)) := by omega
  obtain ⟨i, hi, hs⟩ := Option.map_eq_some_iff.1 int1
  have hg : R[k]? = some (R.getD k 0) := by
    rw [List.getD_eq_getElem?_getD, List.getElem?_eq_getElem (by omega)]; rfl
  generalize R.getD k 0 = r at *
  simp [Instr.index, run_underlying Try.underlying23, asIntOf, hk, go_sem, sizeOf, typeInfo, hi, hs, hg]
theorem mayR_bad {R : List Int} {n k : Nat} (hk : k < R.length) (h : ¬ (0 ≤ R.getD k 0 ∧ R.getD k 0 ≤ (n : Int))) : mayR n R = false := by
  unfold mayR
  rw [List.all_eq_false]
  refine ⟨R[k], List.getElem_mem _, ?_⟩
  rw [List.getD_eq_getElem?_getD, List.getElem?_eq_getElem hk] at h
  simpa using h
theorem mayR_all {R : List Int} {n : Nat} (h : ∀ k, k < R.length → 0 ≤ R.getD k 0 ∧ R.getD k 0 ≤ (n : Int)) : mayR n R = true := by
  unfold mayR
  rw [List.all_eq_true]
  intro r hr
  obtain ⟨k, hk, rfl⟩ := List.getElem_of_mem hr
  have := h k hk
  rw [List.getD_eq_getElem?_getD, List.getElem?_eq_getElem hk] at this
  simpa using this
set_option maxRecDepth 100000 in
set_option maxHeartbeats 2000000 in
theorem may_c (a : Option Addr) (n cap : Nat) (L : List (List Nat)) (R : List Int) (hn : L.length = n) (hnm : n ≤ 1000000) (hR16 : R.length = 16) (w : World) (hR : RowsAt w a L) :
    Calls Try.prog 17 #[.agg (packA (.slice a n cap) R)] w fun e w' => e = .returned (.bool (mayP L R)) ∧ Below w.heap.size w w' := by
  have HC := Lib.hid (containsf_c a n cap L hn hnm (w.alloc (.cells (packA (.slice a n cap) R) 33)) (hR.up ((Below.refl _ _).alloc (Nat.le_refl _) _) (Nat.le_refl _)))
  have hblk := heap_new' w (.cells (packA (.slice a n cap) R) 33)
  have c0 := (cells_at hblk 0).trans (show _ = some (Value.slice a n cap) from rfl)
  have HRR := Lib.hid (pack_roots hblk)
  have HBE : Hid (Below w.heap.size w (w.alloc (.cells (packA (.slice a n cap) R) 33))) := (Below.refl _ _).alloc (Nat.le_refl _) _
  have HN := Lib.hid hn
  have H16 := Lib.hid hR16
  have HIX := Lib.hid (index_R R hR16)
  by_cases hbig : n > 1024
  · have d1 : decide ((n : Int) > 1024) = true := by simp; omega
    have HM : Hid (mayP L R = false) := by show _ = _; unfold mayP; rw [hn, show decide (n ≤ 1024) = false by simp; omega]; rfl
    clear hR hn hnm hR16 hblk hbig
    go_enter Try.func17, Try.ntmps17
    go_wp2
    go_ret
    exact ⟨by rw [HM.out]; rfl, HBE.out⟩
  · have d1 : decide ((n : Int) > 1024) = false := by simp; omega
    by_cases hmb : mayB L = true
    · have hneg : (!mayB L) = false := by rw [hmb]; rfl
      rw [hneg] at HC
      have HM : Hid (mayP L R = mayR n R) := by show _ = _; unfold mayP; rw [hn, hmb, show decide (n ≤ 1024) = true by simp; omega]; simp
      have HNL : Hid (n ≤ 1024) := by show _ ≤ _; omega
      clear hR hn hnm hR16 hblk hbig hmb hneg
      go_enter Try.func17, Try.ntmps17
      go_wp2_with fail
      refine HC.out.mono ?_
      rintro e w1 ⟨rfl, rfl⟩
      generalize w.alloc (.cells (packA (.slice a n cap) R) 33) = w0 at *
      go_wp2_with (first
        | (refine wpList_load_mid rfl 23 (.tmp 16) rfl w.heap.size 1 rfl _ _ HRR.out Try.underlying23 rfl (by rw [sixteen23, List.length_map, H16.out]) ?_)
        | fail)
      go_loop [18] (fun vi => ∃ k : Nat, k ≤ 16 ∧ vi = .int .i64 (k : Int) ∧ Hid (∀ j, j < k → 0 ≤ R.getD j 0 ∧ R.getD j 0 ≤ (n : Int))) (fun vi => 16 - (intOf vi).toNat)
      case atStart => exact ⟨0, by omega, rfl, fun j h => by omega⟩
      case round =>
        obtain ⟨k, hk, rfl, hall⟩ := hrel
        by_cases hlt : k < 16
        · have hd : decide ((k : Int) < 16) = true := by simp; omega
          have dl : (k : Int) < 16 := by omega
          have hix := HIX.out k hlt
          obtain ⟨r, hr⟩ : ∃ r, r = R.getD k 0 := ⟨_, rfl⟩
          simp only [← hr] at hix
          have HR := Lib.hid hr
          have HK := Lib.hid hlt
          by_cases hr0 : r < 0
          · have d2 : decide (r < 0) = true := by simpa using hr0
            have HF : Hid (mayR n R = false) := mayR_bad (by rw [H16.out]; exact hlt) (by rw [← hr]; omega)
            clear hr hk hlt hr0
            go_wp2
            go_ret
            exact ⟨by rw [HM.out, HF.out]; rfl, HBE.out⟩
          · have d2 : decide (r < 0) = false := by simpa using hr0
            by_cases hrn : r > (n : Int)
            · have d3 : decide (r > (n : Int)) = true := by simpa using hrn
              have HF : Hid (mayR n R = false) := mayR_bad (by rw [H16.out]; exact hlt) (by rw [← hr]; omega)
              clear hr hk hlt hr0 hrn
              go_wp2
              go_ret
              exact ⟨by rw [HM.out, HF.out]; rfl, HBE.out⟩
            · have d3 : decide (r > (n : Int)) = false := by simpa using hrn
              have HG : Hid (0 ≤ r ∧ r ≤ (n : Int)) := ⟨by omega, by omega⟩
              clear hr hk hlt hr0 hrn
              go_wp2
              go_round
              case rel =>
                refine ⟨k + 1, by have := HK.out; omega, by go_num, fun j hj => ?_⟩
                rcases Nat.lt_or_eq_of_le (Nat.le_of_lt_succ hj) with h | h
                · exact hall.out j h
                · subst h
                  rw [← HR.out]; exact HG.out
              case measure => simp [intOf]; have := HK.out; omega
        · have hd : decide ((k : Int) < 16) = false := by simp; omega
          have HF : Hid (mayR n R = true) := mayR_all fun j hj => hall.out j (by rw [H16.out] at hj; omega)
          go_wp2
          go_ret
          exact ⟨by rw [HM.out, HF.out]; rfl, HBE.out⟩
    · have hmf : mayB L = false := by simpa using hmb
      have hneg : (!mayB L) = true := by rw [hmf]; rfl
      rw [hneg] at HC
      have HM : Hid (mayP L R = false) := by show _ = _; unfold mayP; rw [hmf]; simp
      clear hR hn hnm hR16 hblk hbig hmb hneg hmf
      go_enter Try.func17, Try.ntmps17
      go_wp2_with fail
      refine HC.out.mono ?_
      rintro e w1 ⟨rfl, rfl⟩
      go_wp2
      go_ret
      exact ⟨by rw [HM.out]; rfl, HBE.out⟩
end Go.Proofs.Ythpglpnonecnfaa
