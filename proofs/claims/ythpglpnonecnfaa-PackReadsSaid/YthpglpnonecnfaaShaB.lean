/- Contracts of sha.prime, sha.Prime. -/
import Derived.Test.YthpglpnonecnfaaShaA
set_option linter.unusedVariables false
set_option linter.unusedSimpArgs false
namespace Go.Proofs.Ythpglpnonecnfaa
open Go Go.RowKit Sha
theorem noDiv_succ (n f d : Nat) : noDiv n (f + 1) d = if d * d ≤ n then (if n % d = 0 then false else noDiv n f (d + 1)) else true := rfl
set_option maxRecDepth 100000 in
set_option maxHeartbeats 2000000 in
theorem prime_c (n : Nat) (h1 : 2 ≤ n) (h2 : n < 312) (w : World) :
    Calls Try.prog 54 #[.int .i64 (n : Int)] w fun e w' => e = .returned (.bool (isP n)) ∧ w = w' := by
  have HI : Hid (isP n = noDiv n 20 2) := rfl
  go_enter Try.func54, Try.ntmps54
  go_wp2
  go_loop [3] (fun vd => ∃ d f : Nat, d + f = 22 ∧ 2 ≤ d ∧ vd = .int .i64 (d : Int) ∧ Hid (isP n = noDiv n f d)) (fun vd => 22 - (intOf vd).toNat)
  case atStart => exact ⟨2, 20, by omega, by omega, rfl, HI.out⟩
  case round =>
    clear HI
    obtain ⟨d, f, hdf, hd2, rfl, hP⟩ := hrel
    obtain ⟨dd, hdd⟩ : ∃ dd, dd = d * d := ⟨_, rfl⟩
    have hd22 : d ≤ 22 := by omega
    have hb : dd ≤ 484 := by rw [hdd]; exact Nat.mul_le_mul hd22 hd22
    have e1 : IntKind.i64.wrap ((d : Int) * (d : Int)) = (dd : Int) := by rw [← Int.natCast_mul, ← hdd]; exact IntWalk.i64_in _ (by omega)
    have e2 : IntKind.i64.wrap ((d : Int) + 1) = (d : Int) + 1 := IntWalk.i64_in _ (by omega)
    by_cases hle : dd ≤ n
    · have hl : decide ((dd : Int) ≤ (n : Int)) = true := by simp; omega
      have hf : f ≠ 0 := by
        rintro rfl
        have : d = 22 := by omega
        rw [hdd, this] at hle; omega
      obtain ⟨f', rfl⟩ : ∃ f', f = f' + 1 := ⟨f - 1, by omega⟩
      have hPn : isP n = if n % d = 0 then false else noDiv n f' (d + 1) := by
        rw [hP.out, noDiv_succ, if_pos (by rw [← hdd]; exact hle)]
      obtain ⟨md, hmd⟩ : ∃ md, md = n % d := ⟨_, rfl⟩
      have hd0 : (d : Int) ≠ 0 := by omega
      have emd : (n : Int).tmod (d : Int) = (md : Int) := by rw [Int.tmod_eq_emod_of_nonneg (by omega), hmd]; rfl
      rw [← hmd] at hPn
      have HDF := Lib.hid hdf
      have HD2 := Lib.hid hd2
      clear hP hdd hmd hdf hd2
      by_cases hz : md = 0
      · have hzf : ((md : Int) == 0) = true := by simp [hz]
        rw [if_pos hz] at hPn
        have HPN := Lib.hid hPn
        clear hPn hz
        go_wp2
        go_ret
        exact ⟨by rw [HPN.out]; rfl, rfl⟩
      · have hzf : ((md : Int) == 0) = false := by simp; omega
        rw [if_neg hz] at hPn
        have HPN := Lib.hid hPn
        clear hPn hz
        go_wp2
        go_round
        case rel => exact ⟨d + 1, f', by have := HDF.out; omega, by have := HD2.out; omega, by go_num, HPN.out⟩
        case measure => simp [intOf]; have := HDF.out; omega
    · have hl : decide ((dd : Int) ≤ (n : Int)) = false := by simp; omega
      have hPt : isP n = true := by
        rw [hP.out]
        cases f with
        | zero => rfl
        | succ f => rw [noDiv_succ, if_neg (by rw [← hdd]; exact hle)]
      have HPT := Lib.hid hPt
      clear hP hPt hdd
      go_wp2
      go_ret
      exact ⟨by rw [HPT.out]; rfl, rfl⟩
set_option maxRecDepth 100000 in
set_option maxHeartbeats 2000000 in
theorem prime64_c (k : Nat) (hk : k < 64) (w : World) :
    Calls Try.prog 45 #[.int .i64 (k : Int)] w fun e w' => e = .returned (.int .i64 ((primeL.getD k 0 : Nat) : Int)) ∧ w = w' := by
  have d1 : ¬ (k : Int) < 0 := by omega
  have d2 : ¬ (64 : Int) ≤ (k : Int) := by omega
  have e0 : IntKind.i64.wrap ((k : Int) + 1) = ((k + 1 : Nat) : Int) := by rw [IntWalk.i64_in _ (by omega)]; omega
  have HK := Lib.hid hk
  obtain ⟨k1, hk1⟩ : ∃ k1, k1 = k + 1 := ⟨_, rfl⟩
  have HK1 := Lib.hid hk1
  rw [← hk1] at e0
  obtain ⟨pk, hpk⟩ : ∃ p, p = primeL.getD k 0 := ⟨_, rfl⟩
  have HPK := Lib.hid hpk
  rw [← hpk]
  clear hk1 hk hpk
  go_enter Try.func45, Try.ntmps45
  go_wp2
  go_loop [3, 4] (fun vn vl => ∃ n left : Nat, 1 ≤ n ∧ n ≤ 311 ∧ left ≤ k1 ∧ vn = .int .i64 (n : Int) ∧ vl = .int .i64 (left : Int) ∧ Hid (left + cntP n = k1) ∧ Hid (left = 0 → pk = n)) (fun vn _ => 312 - (intOf vn).toNat)
  case atStart => exact ⟨1, k1, by omega, by omega, by omega, rfl, rfl, by show _ = _; rw [cntP_one]; rfl, fun h => by have := HK1.out; omega⟩
  case round =>
    obtain ⟨n, left, hn1, hn, hl1, rfl, rfl, hc, he⟩ := hrel
    by_cases hl : 0 < left
    · have hd : decide ((left : Int) > 0) = true := by simp; omega
      have hn2 : n < 311 := by
        rcases Nat.lt_or_ge n 311 with h | h
        · exact h
        · have h3 : n = 311 := by omega
          have := hc.out
          rw [h3, cntP_all] at this
          have := HK1.out; have := HK.out
          omega
      have en : IntKind.i64.wrap ((n : Int) + 1) = ((n + 1 : Nat) : Int) := by rw [IntWalk.i64_in _ (by omega)]; omega
      have el : IntKind.i64.wrap ((left : Int) - 1) = ((left - 1 : Nat) : Int) := by have := HK1.out; have := HK.out; rw [IntWalk.i64_in _ (by omega)]; omega
      have hcn := cntP_next n hn2
      have HP := Lib.hid (fun w => prime_c (n + 1) (by omega) (by omega) w)
      have hat := cntP_at (n + 1) (by omega) (by omega)
      obtain ⟨n1, hn1'⟩ : ∃ n1, n1 = n + 1 := ⟨_, rfl⟩
      have HN1 := Lib.hid hn1'
      rw [← hn1'] at en hcn HP hat
      obtain ⟨l1, hl1'⟩ : ∃ l1, l1 = left - 1 := ⟨_, rfl⟩
      have HL1 := Lib.hid hl1'
      rw [← hl1'] at el
      have HLL := Lib.hid (And.intro hl hl1)
      have HNN := Lib.hid (And.intro hn1 hn2)
      have HAT := Lib.hid hat
      clear hn1' hl1' hl1 hn hn2 hn1 he hat
      by_cases hp : isP n1 = true
      · rw [if_pos ⟨by have := HN1.out; have := HNN.out; omega, hp⟩] at hcn
        have HCN := Lib.hid hcn
        have HPP := Lib.hid hp
        clear hcn
        go_wp2_with fail
        refine (HP.out w).mono ?_
        rintro r w' ⟨rfl, rfl⟩
        rw [hp]
        clear hp
        go_wp2
        go_round
        case rel =>
          refine ⟨n1, l1, by have := HN1.out; omega, by have := HN1.out; have := HNN.out; omega, by have := HL1.out; have := HLL.out; omega, rfl, rfl, ?_, fun h => ?_⟩
          · show _ = _
            have := HCN.out; have := hc.out; have := HL1.out; have := HLL.out
            omega
          · have h1 := HCN.out
            have h2 := hc.out
            have h3 := HL1.out
            have h4 := HLL.out
            have h5 := HK1.out
            have h6 := HAT.out HPP.out
            rw [show cntP n1 - 1 = k by omega, ← HPK.out] at h6
            exact h6
        case measure => simp [intOf]; have := HN1.out; have := HNN.out; omega
      · rw [if_neg (fun h => hp h.2)] at hcn
        have HCN := Lib.hid hcn
        have hpf : isP n1 = false := by simpa using hp
        clear hcn hp
        go_wp2_with fail
        refine (HP.out w).mono ?_
        rintro r w' ⟨rfl, rfl⟩
        rw [hpf]
        clear hpf
        go_wp2
        go_round
        case rel =>
          refine ⟨n1, left, by have := HN1.out; omega, by have := HN1.out; have := HNN.out; omega, HLL.out.2, rfl, rfl, ?_, fun h => ?_⟩
          · show _ = _
            have := HCN.out; have := hc.out
            omega
          · have := HLL.out; omega
        case measure => simp [intOf]; have := HN1.out; have := HNN.out; omega
    · have hl0 : left = 0 := by omega
      have HE : Hid (pk = n) := he.out hl0
      have hd : decide ((left : Int) > 0) = false := by simp; omega
      go_wp2
      go_ret
      exact ⟨by rw [HE.out]; rfl, rfl⟩
theorem behindN_succ (f : Nat → Bool) (n x : Nat) : behindN f (n + 1) x = behindN f n (if f (x ||| 2 ^ n) then x ||| 2 ^ n else x) := rfl
theorem root1 : (Try.prog.info? 83).map (·.size) = some 1 := by kernel_rfl
set_option maxRecDepth 100000 in
set_option maxHeartbeats 4000000 in
theorem behind_c (F : FuncId) (fit : Nat → Bool) (p : Nat) (hF : ∀ x : Nat, x < 274877906944 → ∀ w : World, Calls Try.prog F #[.agg #[.int .u64 (p : Int)], .int .u64 (x : Int)] w fun e w' => e = .returned (.bool (fit x)) ∧ Below w.heap.size w w')
    (hcall : ∀ (a x : Value) (w : World), Sem.run Try.prog (callFunc F #[a, x]) w = .ok (.enter F #[a, x]) w) (w : World) :
    Calls Try.prog 46 #[.agg #[.int .u64 (p : Int)], .func (.func F) #[] #[]] w fun e w' => e = .returned (.int .u32 ((behindN fit 38 0 % 4294967296 : Nat) : Int)) ∧ Below w.heap.size w w' := by
  have h0 := heap_new' w (.cells #[.int .u64 (p : Int)] 83)
  have H0 := Lib.hid h0
  have HB0 : Hid (Below w.heap.size w (w.alloc (.cells #[.int .u64 (p : Int)] 83))) := (Below.refl _ _).alloc (Nat.le_refl _) _
  obtain ⟨R, hR⟩ : ∃ R, R = behindN fit 38 0 := ⟨_, rfl⟩
  have HR := Lib.hid hR
  rw [← hR]
  have HF := Lib.hid hF
  clear h0 hR hF
  go_enter Try.func46, Try.ntmps46
  go_wp2
  go_loopw [5, 6] (fun vx vb wr => ∃ j x bt : Nat, j ≤ 38 ∧ x < 274877906944 ∧ vx = .int .u64 (x : Int) ∧ vb = .int .u64 (bt : Int) ∧ Hid (bt = 2 ^ j / 2) ∧ Hid (R = behindN fit j x) ∧ Hid (wr.heap[w.heap.size]? = some (.cells #[.int .u64 (p : Int)] 83 (0, 0))) ∧ Hid (Below w.heap.size w wr)) (fun _ vb _ => (intOf vb).toNat)
  case atStart => exact ⟨38, 0, 137438953472, by omega, by omega, rfl, rfl, by show _ = _; decide, HR.out, H0.out, HB0.out⟩
  case round =>
    clear H0 HB0 HR
    obtain ⟨j, x, bt, hj, hx, rfl, rfl, hbt, hRx, hbl, hbel⟩ := hrel
    cases j with
    | zero =>
      have hb0 : bt = 0 := by rw [hbt.out]
      have hd : decide ((bt : Int) > 0) = false := by simp; omega
      have hRx0 : R = x := hRx.out
      have HRX := Lib.hid hRx0
      have e32 : IntKind.u32.wrap (x : Int) = ((x % 4294967296 : Nat) : Int) := mod32 x
      clear hRx0 hRx hbt
      go_wp2
      go_ret
      exact ⟨by rw [HRX.out]; rfl, hbel.out⟩
    | succ j =>
      obtain ⟨q, hq⟩ : ∃ q, q = 2 ^ j := ⟨_, rfl⟩
      have hbq : bt = q := by rw [hbt.out, hq, Nat.pow_succ]; omega
      subst hbq
      have hq1 : 1 ≤ bt := by rw [hq]; exact Nat.one_le_two_pow
      have hqm : bt < 274877906944 := by rw [hq, show (274877906944 : Nat) = 2 ^ 38 from rfl]; exact Nat.pow_lt_pow_right (by omega) (by omega)
      have hd : decide ((bt : Int) > 0) = true := by simp; omega
      have hor : x ||| bt < 274877906944 := Nat.or_lt_two_pow (n := 38) hx hqm
      have eor : bits BinOp.or IntKind.u64 (x : Int) (bt : Int) = ((x ||| bt : Nat) : Int) := (u64_nat x bt (by omega) (by omega)).2
      have hRs : R = behindN fit j (if fit (x ||| bt) then x ||| bt else x) := by rw [hRx.out, behindN_succ, hq]
      obtain ⟨hb, hhb⟩ : ∃ hb, hb = bt / 2 := ⟨_, rfl⟩
      have esh : (bt : Int) / 2 = (hb : Int) := by omega
      have hhb2 : hb = 2 ^ j / 2 := by rw [hhb, hq]
      obtain ⟨o, ho⟩ : ∃ o, o = x ||| bt := ⟨_, rfl⟩
      rw [← ho] at hor eor hRs
      have HO := Lib.hid hor
      have HX := Lib.hid hx
      have HJ := Lib.hid hj
      have HH := Lib.hid hhb2
      have HHB := Lib.hid (And.intro hhb hq1)
      have HRS := Lib.hid hRs
      clear hbt hq hRx hRs ho hor hhb hhb2 hx hj hqm
      go_wp2_with (first
        | (refine wpList_load_row rfl 83 (.tmp 2) rfl w.heap.size rfl _ _ _ _ hbl.out Try.underlying83 rfl (by rw [root1]; rfl) ?_)
        | fail)
      refine (HF.out o HO.out wr).mono ?_
      rintro r w1 ⟨rfl, hb1⟩
      have HB1 : Hid (Below w.heap.size w w1) := hbel.out.trans (hb1.mono hbel.out.size)
      have HL1 : Hid (w1.heap[w.heap.size]? = some (.cells #[.int .u64 (p : Int)] 83 (0, 0))) := (hb1.block _ (lt_of_block hbl.out)).trans hbl.out
      clear hb1
      cases hfit : fit o with
      | true =>
        have HFT := Lib.hid hfit
        clear hfit
        go_wp2
        go_roundw
        case rel =>
          refine ⟨j, o, hb, by have := HJ.out; omega, HO.out, by go_num, by go_num, HH.out, ?_, HL1.out, HB1.out⟩
          have h := HRS.out
          rw [if_pos HFT.out] at h
          exact h
        case measure => simp [intOf]; have := HHB.out; omega
      | false =>
        have HFT := Lib.hid hfit
        clear hfit
        go_wp2
        go_roundw
        case rel =>
          refine ⟨j, x, hb, by have := HJ.out; omega, HX.out, by go_num, by go_num, HH.out, ?_, HL1.out, HB1.out⟩
          have h := HRS.out
          rw [if_neg (by rw [HFT.out]; decide)] at h
          exact h
        case measure => simp [intOf]; have := HHB.out; omega
end Go.Proofs.Ythpglpnonecnfaa
