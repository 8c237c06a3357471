/- Texts SpH, put together by pack.py. -/
import Derived.Test.YtinjafacnekkcaaSPx
set_option linter.unusedVariables false
set_option linter.unusedSimpArgs false
namespace Go.Proofs.Ytinjafacnekkcaa
open Go Go.RowKit GfM
def opS (kd : Int) (ep : Nat) (bk : Int) (pa : Option Addr) (pl pc : Nat) : Array Value := #[.int .i64 kd, .int .u64 (ep : Int), .int .i64 bk, .slice pa pl pc]
theorem u8RT : RowTy Try.prog (fun x : Nat => .int .u8 (x : Int)) (fun x => [.int .u8 (x : Int)]) 1 1 29 5 :=
  ⟨Try.underlying29, ⟨.int .u8 0, by kernel_rfl, rfl⟩, fun x => rfl, fun _ => rfl, fun x v hv => by simp at hv; subst hv; rfl, by decide⟩
theorem bytes_kept {w w' : World} {B s m : Nat} {key : List Nat} {M : MapM} {T : Option (Nat × Nat)} (hS : Slr w B s m key M T) (hsz : w.heap.size ≤ w'.heap.size) (hk : ∀ k, k < w.heap.size → k ≠ s → k ≠ m → w'.heap[k]? = w.heap[k]?)
    {a : Option Addr} {cap : Nat} {p : List Nat} (h : BytesAt w a cap p) : BytesAt w' a cap p := by
  obtain ⟨n1, n2⟩ := noint_slr hS
  refine ⟨h.1, fun h0 => ?_⟩
  obtain ⟨g, o, e1, e2, e3, e4⟩ := h.2 h0
  have hc := e4 0 h0
  have he : w'.heap[g]? = w.heap[g]? := hk g e3 (by rintro rfl; exact n1 _ _ _ hc) (by rintro rfl; exact n2 _ _ _ hc)
  exact ⟨g, o, e1, e2, Nat.lt_of_lt_of_le e3 hsz, fun j hj => by rw [← e4 j hj]; simp [World.cell?, he]⟩
theorem op_kept {w w' : World} {B s m : Nat} {key : List Nat} {M : MapM} {T : Option (Nat × Nat)} (hS : Slr w B s m key M T) (hk : ∀ k, k < w.heap.size → k ≠ s → k ≠ m → w'.heap[k]? = w.heap[k]?)
    {b : Nat} {A : Array Value} {z : Nat × Nat} (h : w.heap[b]? = some (.cells A 37 z)) : w'.heap[b]? = some (.cells A 37 z) := by
  obtain ⟨cs, tv, hbs, _⟩ := hS.cell
  obtain ⟨es, clk, hbm, _⟩ := hS.map
  refine (hk b (lt_of_block h) ?_ ?_).trans h
  · rintro rfl; rw [h] at hbs; cases hbs
  · rintro rfl; rw [h] at hbm; cases hbm
theorem slr_strlt {w : World} {B s m : Nat} {key : List Nat} {M : MapM} {T : Option (Nat × Nat)} (hkl : key.length = 16 ∨ key.length = 32) (hS : Slr w B s m key M T) (p : List Nat) (hp : ∀ x ∈ p, x < 256) (e b : Nat) : ∀ x ∈ xorL p (strL key e b 256), x < 256 :=
  xorL_lt hp (by obtain ⟨⟨_, _, _, ⟨_, _, _, _, h⟩, _⟩, _⟩ := hS; exact strL_lt hkl h.fbyte e b 256)
theorem slr_pair {w : World} {B s m : Nat} {key : List Nat} {M : MapM} {T : Option (Nat × Nat)} (hS : Slr w B s m key M T) : M.Pairwise fun x y => x.1 ≠ y.1 := by
  obtain ⟨es, clock, _, _, _, h, _⟩ := hS.map
  exact h
/-- what a step leaves -/
def StepR (w : World) (B s m r : Nat) (key : List Nat) (n : Nat) (e : Ending) (w' : World) : Prop :=
  e = .returned (.bool true) ∧ ∃ M' L' T', Bo w' B s m r key M' L' T' ∧ L'.length ≤ n + 1 ∧ Below B w w'
set_option maxRecDepth 100000 in
set_option maxHeartbeats 16000000 in
theorem step_c {B s m r : Nat} {key : List Nat} {M L : MapM} {T : Option (Nat × Nat)} (hkl : key.length = 16 ∨ key.length = 32) (w : World) (hBw : B ≤ w.heap.size) (hL : L.length ≤ 1000) (h : Bo w B s m r key M L T)
    (kd : Int) (e : Nat) (he : e < 18446744073709551616) (bk : Int) (pa : Option Addr) (pl pc : Nat) (zs : List Int) (hrow : IsRow .u8 w pa pl pc zs) :
    Calls Try.prog 6 #[.pointer (some ⟨s, 0, none⟩), .pointer (some ⟨r, 0, none⟩), .agg (opS kd e bk pa pl pc)] w fun x w' => StepR w B s m r key L.length x w' := by
  obtain ⟨P7, hP7, hB7⟩ := bytesAt_in hrow 300
  obtain ⟨PF0, hPF0, hBF0⟩ := bytesAt_in hrow 256
  obtain ⟨hlc, hcm⟩ := row_cap hrow
  have hnil := row_nil hrow
  obtain ⟨n, hn⟩ : ∃ n, n = min pl 300 := ⟨_, rfl⟩
  rw [← hn] at hP7
  obtain ⟨w1, hw1⟩ : ∃ w1, w1 = w.alloc (.cells (opS kd e bk pa pl pc) 37) := ⟨_, rfl⟩
  have hb1 : Below w.heap.size w w1 := by rw [hw1]; exact below_box1 _ _
  have hbp : w1.heap[w.heap.size]? = some (.cells (opS kd e bk pa pl pc) 37 (0, 0)) := by rw [hw1]; exact heap_new' _ _
  have HFULL : Hid (∀ w', Below w.heap.size w w' → Calls Try.prog 15 #[.slice pa n pc] w' fun x w'' => ∃ q cp, x = .returned (.slice (some ⟨q, 0, none⟩) 256 cp) ∧ BytesAt w'' (some ⟨q, 0, none⟩) cp (fullL PF0) ∧ Below w'.heap.size w' w'') := fun w' hb =>
    (full_c pa n pc (by omega) hcm hnil PF0 (by omega) w' (hBF0.up hb (Nat.le_refl _))).mono fun x w'' ⟨q, cp, e1, _, _, e2, e3⟩ => ⟨q, cp, e1, e2, e3⟩
  have HPF : Hid ((fullL PF0).length = 256 ∧ ∀ x ∈ fullL PF0, x < 256) := ⟨fullL_len PF0 (by omega), fullL_lt hBF0.1⟩
  have HBO := Lib.hid (h.up hb1)
  have HB7 : Hid (BytesAt w1 pa pc P7) := hB7.up hb1 (Nat.le_refl _)
  have HB1 := Lib.hid hb1
  have HBP := Lib.hid hbp
  have HKL := Lib.hid hkl
  have HL := Lib.hid hL
  have HE := Lib.hid he
  have HN := Lib.hid (And.intro hn (And.intro hP7 hlc))
  have HBW := Lib.hid hBw
  have k0 : w1.cell? ⟨w.heap.size, 0, none⟩ = some (.int .i64 kd) := (cells_at hbp 0).trans rfl
  have k1 : w1.cell? ⟨w.heap.size, 1, none⟩ = some (.int .u64 (e : Int)) := (cells_at hbp 1).trans rfl
  have k2 : w1.cell? ⟨w.heap.size, 2, none⟩ = some (.int .i64 bk) := (cells_at hbp 2).trans rfl
  have k3 : w1.cell? ⟨w.heap.size, 3, none⟩ = some (.slice pa pl pc) := (cells_at hbp 3).trans rfl
  clear hP7 hPF0 hBF0 hb1 hbp h hB7 hkl hL he hlc hcm hnil hrow hBw
  generalize hLL : L.length = NL at HL ⊢
  have HLL := Lib.hid hLL
  clear hLL
  show Calls _ _ #[.pointer (some ⟨s, 0, none⟩), .pointer (some ⟨r, 0, none⟩), .agg #[.int .i64 kd, .int .u64 (e : Int), .int .i64 bk, .slice pa pl pc]] w _
  unfold opS at hw1 HBP
  go_enter Try.func6, Try.ntmps6
  go_upto_if 14 with fail
  rw [← hw1]
  clear hw1 k3
  generalize hd : decide ((300 : Int) < (pl : Int)) = d
  have HD := Lib.hid hd
  clear hd
  go_cut [7] from 15 to 16 (fun v7 wx => v7 = .slice pa n pc ∧ wx = w1)
  case first =>
    cases d with
    | true =>
      have h1 : 300 < pl := by have := of_decide_eq_true HD.out; omega
      go_wp2_with (first
        | (refine u8RT.wpList_subH rfl (.tmp 15) (.const (.int .i64 300)) rfl rfl (h := 300) rfl (by have := HN.out.2.2; omega) ?_)
        | fail)
      go_meet
      have : n = 300 := by omega
      subst this
      exact ⟨rfl, rfl⟩
    | false =>
      have h1 : ¬ 300 < pl := by have := of_decide_eq_false HD.out; omega
      go_wp2
      go_meet
      have : n = pl := by omega
      subst this
      exact ⟨rfl, rfl⟩
  case rest =>
    obtain ⟨rfl, rfl⟩ := hcut
    have hMB : B ≤ wc.heap.size := by have := HBW.out; have := HB1.out.size; omega
    have HMB := Lib.hid hMB
    clear hMB hn HD
    have HFIN0 : Hid (∃ M' L' T', Bo wc B s m r key M' L' T' ∧ L'.length ≤ NL + 1 ∧ Below B w wc) := ⟨M, L, T, HBO.out, by rw [HLL.out]; omega, HB1.out.mono HBW.out⟩
    by_cases K0 : kd = 0
    · subst K0
      go_wp2_with fail
      refine (HFULL.out wc HB1.out).mono ?_
      rintro x wF ⟨qF, cF, rfl, hBF, hbF⟩
      have HBF := Lib.hid hBF
      have HBOF := Lib.hid (HBO.out.up hbF)
      have HBF1 : Hid (Below w.heap.size w wF) := HB1.out.trans (hbF.mono HB1.out.size)
      have HBF1' : Hid (Below wc.heap.size wc wF) := hbF
      have hBPF := (hbF.block _ (lt_of_block HBP.out)).trans HBP.out
      have HBPF := Lib.hid hBPF
      replace k0 := (hbF.cell (p := ⟨w.heap.size, 0, none⟩) (lt_of_block HBP.out)).trans k0
      replace k1 := (hbF.cell (p := ⟨w.heap.size, 1, none⟩) (lt_of_block HBP.out)).trans k1
      replace k2 := (hbF.cell (p := ⟨w.heap.size, 2, none⟩) (lt_of_block HBP.out)).trans k2
      have HFINF : Hid (∃ M' L' T', Bo wF B s m r key M' L' T' ∧ L'.length ≤ NL + 1 ∧ Below B w wF) := ⟨M, L, T, HBOF.out, by rw [HLL.out]; omega, HBF1.out.mono HBW.out⟩
      clear hBF hbF hBPF HFIN0 HFULL HBO HB1 HBP HB7
      go_wp2_with fail
      by_cases r1 : bk < 0
      · skip
        have hbe : badE bk 256 = 3 := by unfold badE; rw [if_pos (by omega)]
        have hcl := sealbad_c s e bk 256 (some ⟨qF, 0, none⟩) cF wF (by rw [hbe]; decide)
        rw [hbe] at hcl
        have HCL := Lib.hid hcl
        clear hcl hbe
        refine HCL.out.mono ?_
        rintro x w2 ⟨rfl, rfl⟩
        go_wp2
        go_ret
        exact ⟨rfl, HFINF.out⟩
      · by_cases r2 : (65535 : Int) < bk
        · skip
          have hbe : badE bk 256 = 3 := by unfold badE; rw [if_pos (by omega)]
          have hcl := sealbad_c s e bk 256 (some ⟨qF, 0, none⟩) cF wF (by rw [hbe]; decide)
          rw [hbe] at hcl
          have HCL := Lib.hid hcl
          clear hcl hbe
          refine HCL.out.mono ?_
          rintro x w2 ⟨rfl, rfl⟩
          go_wp2
          go_ret
          exact ⟨rfl, HFINF.out⟩
        · skip
          obtain ⟨b, rfl⟩ : ∃ b : Nat, bk = (b : Int) := ⟨bk.toNat, by omega⟩
          have hbb : b < 65536 := by omega
          have g1 : ¬ ((b : Int) < 0) := by omega
          have g2 : ¬ ((65535 : Int) < (b : Int)) := by omega
          refine (seal_c HKL.out e b HE.out hbb (some ⟨qF, 0, none⟩) cF (fullL PF0) HPF.out.1 wF (Nat.le_trans HMB.out (HBF1'.out.size)) HBOF.out.slr HBF.out).mono ?_
          rintro x w2 ⟨q2, M2, T2, rfl, hst, hq2, hx2, hS2, hb2, hk2⟩
          have hxl := slr_strlt HKL.out HBOF.out.slr (fullL PF0) HPF.out.2 e b
          have hxn : (xorL (fullL PF0) (strL key e b 256)).length = 256 := by rw [xorL_len]; exact HPF.out.1
          have hX2 : BytesAt w2 (some ⟨q2, 0, none⟩) 256 (xorL (fullL PF0) (strL key e b 256)) := by have := bytesAt_block hxl hx2; rw [hxn] at this; exact this
          have hR2 := rsl_keep HBOF.out.rsl HBOF.out.slr hb2.size hk2
          have hP2 := bytes_kept HBOF.out.slr hb2.size hk2 HBF.out
          have hBP2 := op_kept HBOF.out.slr hk2 HBPF.out
          have hw2 : Below B w w2 := (HBF1.out.mono HBW.out).trans hb2
          have hiv := step_inv HBOF.out.inv (slr_pair HBOF.out.slr) hst
          have k1' : w2.cell? ⟨w.heap.size, 1, none⟩ = some (.int .u64 (e : Int)) := (cells_at hBP2 1).trans rfl
          have k2' : w2.cell? ⟨w.heap.size, 2, none⟩ = some (.int .i64 (b : Int)) := (cells_at hBP2 2).trans rfl
          have k0' := cells_at hBP2 0
          simp only [List.getElem?_toArray, List.getElem?_cons_zero] at k0'
          have HBR : Hid (B ≤ r) := HBOF.out.br
          have H2 := Lib.hid (And.intro hR2 (And.intro hP2 (And.intro hBP2 (And.intro hw2 (And.intro hX2 (And.intro hxl (And.intro hS2 hiv)))))))
          clear hx2 hb2 hR2 hP2 hBP2 hw2 hX2 hxl hxn hS2 hiv hq2 hst hk2 k0 k1 k2
          go_wp2_with fail
          refine regionG27 HKL.out e b HE.out hbb (fullL PF0) HPF.out.1 H2.out.2.2.2.2.2.1 w2 (by rw [HLL.out]; exact HL.out) H2.out.2.2.1 H2.out.2.1 H2.out.2.2.2.2.1 H2.out.1 ?_
          intro s5 c5 w3 hR3 hbt3
          have hfin : ∃ M' L' T', Bo w3 B s m r key M' L' T' ∧ L'.length ≤ NL + 1 ∧ Below B w w3 := ⟨M2, insL L (e, b) (fullL PF0), T2, ⟨slr_btr H2.out.2.2.2.2.2.2.1 H2.out.1 hbt3, by have := hR3; rw [H2.out.2.2.2.2.2.2.2.2] at this; exact this, H2.out.2.2.2.2.2.2.2.1, HBR.out⟩, by have := insL_len L (e, b) (fullL PF0); rw [HLL.out] at this; exact this, H2.out.2.2.2.1.trans (hbt3.1.mono HBR.out)⟩
          have HFIN := Lib.hid hfin
          clear hfin hR3 hbt3 H2
          go_wp2
          go_ret
          exact ⟨rfl, HFIN.out⟩
    by_cases K1 : kd = 1
    · subst K1
      go_wp2_with fail
      refine (HFULL.out wc HB1.out).mono ?_
      rintro x wF ⟨qF, cF, rfl, hBF, hbF⟩
      have HBF := Lib.hid hBF
      have HBOF := Lib.hid (HBO.out.up hbF)
      have HBF1 : Hid (Below w.heap.size w wF) := HB1.out.trans (hbF.mono HB1.out.size)
      have HBF1' : Hid (Below wc.heap.size wc wF) := hbF
      have hBPF := (hbF.block _ (lt_of_block HBP.out)).trans HBP.out
      have HBPF := Lib.hid hBPF
      replace k0 := (hbF.cell (p := ⟨w.heap.size, 0, none⟩) (lt_of_block HBP.out)).trans k0
      replace k1 := (hbF.cell (p := ⟨w.heap.size, 1, none⟩) (lt_of_block HBP.out)).trans k1
      replace k2 := (hbF.cell (p := ⟨w.heap.size, 2, none⟩) (lt_of_block HBP.out)).trans k2
      have HFINF : Hid (∃ M' L' T', Bo wF B s m r key M' L' T' ∧ L'.length ≤ NL + 1 ∧ Below B w wF) := ⟨M, L, T, HBOF.out, by rw [HLL.out]; omega, HBF1.out.mono HBW.out⟩
      clear hBF hbF hBPF HFIN0 HFULL HBO HB1 HBP HB7
      go_wp2_with fail
      by_cases r1 : bk < 0
      · skip
        have hbe : badE bk 256 = 3 := by unfold badE; rw [if_pos (by omega)]
        have hcl := sealbad_c s e bk 256 (some ⟨qF, 0, none⟩) cF wF (by rw [hbe]; decide)
        rw [hbe] at hcl
        have HCL := Lib.hid hcl
        clear hcl hbe
        refine HCL.out.mono ?_
        rintro x w2 ⟨rfl, rfl⟩
        go_wp2
        go_ret
        exact ⟨rfl, HFINF.out⟩
      · by_cases r2 : (65535 : Int) < bk
        · skip
          have hbe : badE bk 256 = 3 := by unfold badE; rw [if_pos (by omega)]
          have hcl := sealbad_c s e bk 256 (some ⟨qF, 0, none⟩) cF wF (by rw [hbe]; decide)
          rw [hbe] at hcl
          have HCL := Lib.hid hcl
          clear hcl hbe
          refine HCL.out.mono ?_
          rintro x w2 ⟨rfl, rfl⟩
          go_wp2
          go_ret
          exact ⟨rfl, HFINF.out⟩
        · skip
          obtain ⟨b, rfl⟩ : ∃ b : Nat, bk = (b : Int) := ⟨bk.toNat, by omega⟩
          have hbb : b < 65536 := by omega
          have g1 : ¬ ((b : Int) < 0) := by omega
          have g2 : ¬ ((65535 : Int) < (b : Int)) := by omega
          refine (seal_c HKL.out e b HE.out hbb (some ⟨qF, 0, none⟩) cF (fullL PF0) HPF.out.1 wF (Nat.le_trans HMB.out (HBF1'.out.size)) HBOF.out.slr HBF.out).mono ?_
          rintro x w2 ⟨q2, M2, T2, rfl, hst, hq2, hx2, hS2, hb2, hk2⟩
          have hxl := slr_strlt HKL.out HBOF.out.slr (fullL PF0) HPF.out.2 e b
          have hxn : (xorL (fullL PF0) (strL key e b 256)).length = 256 := by rw [xorL_len]; exact HPF.out.1
          have hX2 : BytesAt w2 (some ⟨q2, 0, none⟩) 256 (xorL (fullL PF0) (strL key e b 256)) := by have := bytesAt_block hxl hx2; rw [hxn] at this; exact this
          have hR2 := rsl_keep HBOF.out.rsl HBOF.out.slr hb2.size hk2
          have hP2 := bytes_kept HBOF.out.slr hb2.size hk2 HBF.out
          have hBP2 := op_kept HBOF.out.slr hk2 HBPF.out
          have hw2 : Below B w w2 := (HBF1.out.mono HBW.out).trans hb2
          have hiv := step_inv HBOF.out.inv (slr_pair HBOF.out.slr) hst
          have k1' : w2.cell? ⟨w.heap.size, 1, none⟩ = some (.int .u64 (e : Int)) := (cells_at hBP2 1).trans rfl
          have k2' : w2.cell? ⟨w.heap.size, 2, none⟩ = some (.int .i64 (b : Int)) := (cells_at hBP2 2).trans rfl
          have k0' := cells_at hBP2 0
          simp only [List.getElem?_toArray, List.getElem?_cons_zero] at k0'
          have HBR : Hid (B ≤ r) := HBOF.out.br
          have H2 := Lib.hid (And.intro hR2 (And.intro hP2 (And.intro hBP2 (And.intro hw2 (And.intro hX2 (And.intro hxl (And.intro hS2 hiv)))))))
          clear hx2 hb2 hR2 hP2 hBP2 hw2 hX2 hxl hxn hS2 hiv hq2 hst hk2 k0 k1 k2
          go_wp2_with fail
          refine regionG27 HKL.out e b HE.out hbb (fullL PF0) HPF.out.1 H2.out.2.2.2.2.2.1 w2 (by rw [HLL.out]; exact HL.out) H2.out.2.2.1 H2.out.2.1 H2.out.2.2.2.2.1 H2.out.1 ?_
          intro s5 c5 w3 hR3 hbt3
          have hfin : ∃ M' L' T', Bo w3 B s m r key M' L' T' ∧ L'.length ≤ NL + 1 ∧ Below B w w3 := ⟨M2, insL L (e, b) (fullL PF0), T2, ⟨slr_btr H2.out.2.2.2.2.2.2.1 H2.out.1 hbt3, by have := hR3; rw [H2.out.2.2.2.2.2.2.2.2] at this; exact this, H2.out.2.2.2.2.2.2.2.1, HBR.out⟩, by have := insL_len L (e, b) (fullL PF0); rw [HLL.out] at this; exact this, H2.out.2.2.2.1.trans (hbt3.1.mono HBR.out)⟩
          have HFIN := Lib.hid hfin
          clear hfin hR3 hbt3 H2
          go_wp2
          go_ret
          exact ⟨rfl, HFIN.out⟩
    by_cases K2 : kd = 2
    · subst K2
      have HB1' : Hid (Below wc.heap.size wc wc) := Below.refl _ _
      have HPR : Hid (n = 256 → P7.length = 256 ∧ ∀ x ∈ P7, x < 256) := fun h => ⟨by rw [HN.out.2.1]; exact h, HB7.out.1⟩
      clear HFULL
      go_wp2_with fail
      by_cases r1 : bk < 0
      · skip
        have hbe : badE bk n = 3 := by unfold badE; rw [if_pos (by omega)]
        have hcl := sealbad_c s e bk n pa pc wc (by rw [hbe]; decide)
        rw [hbe] at hcl
        have HCL := Lib.hid hcl
        clear hcl hbe
        refine HCL.out.mono ?_
        rintro x w2 ⟨rfl, rfl⟩
        go_wp2
        go_ret
        exact ⟨rfl, HFIN0.out⟩
      · by_cases r2 : (65535 : Int) < bk
        · skip
          have hbe : badE bk n = 3 := by unfold badE; rw [if_pos (by omega)]
          have hcl := sealbad_c s e bk n pa pc wc (by rw [hbe]; decide)
          rw [hbe] at hcl
          have HCL := Lib.hid hcl
          clear hcl hbe
          refine HCL.out.mono ?_
          rintro x w2 ⟨rfl, rfl⟩
          go_wp2
          go_ret
          exact ⟨rfl, HFIN0.out⟩
        · by_cases r3 : n = 256
          · subst r3
            obtain ⟨b, rfl⟩ : ∃ b : Nat, bk = (b : Int) := ⟨bk.toNat, by omega⟩
            have hbb : b < 65536 := by omega
            have g1 : ¬ ((b : Int) < 0) := by omega
            have g2 : ¬ ((65535 : Int) < (b : Int)) := by omega
            refine (seal_c HKL.out e b HE.out hbb pa pc P7 (HPR.out (by trivial)).1 wc (Nat.le_trans HMB.out (HB1'.out.size)) HBO.out.slr HB7.out).mono ?_
            rintro x w2 ⟨q2, M2, T2, rfl, hst, hq2, hx2, hS2, hb2, hk2⟩
            have hxl := slr_strlt HKL.out HBO.out.slr P7 (HPR.out (by trivial)).2 e b
            have hxn : (xorL P7 (strL key e b 256)).length = 256 := by rw [xorL_len]; exact (HPR.out (by trivial)).1
            have hX2 : BytesAt w2 (some ⟨q2, 0, none⟩) 256 (xorL P7 (strL key e b 256)) := by have := bytesAt_block hxl hx2; rw [hxn] at this; exact this
            have hR2 := rsl_keep HBO.out.rsl HBO.out.slr hb2.size hk2
            have hP2 := bytes_kept HBO.out.slr hb2.size hk2 HB7.out
            have hBP2 := op_kept HBO.out.slr hk2 HBP.out
            have hw2 : Below B w w2 := (HB1.out.mono HBW.out).trans hb2
            have hiv := step_inv HBO.out.inv (slr_pair HBO.out.slr) hst
            have k1' : w2.cell? ⟨w.heap.size, 1, none⟩ = some (.int .u64 (e : Int)) := (cells_at hBP2 1).trans rfl
            have k2' : w2.cell? ⟨w.heap.size, 2, none⟩ = some (.int .i64 (b : Int)) := (cells_at hBP2 2).trans rfl
            have k0' := cells_at hBP2 0
            simp only [List.getElem?_toArray, List.getElem?_cons_zero] at k0'
            have HBR : Hid (B ≤ r) := HBO.out.br
            have H2 := Lib.hid (And.intro hR2 (And.intro hP2 (And.intro hBP2 (And.intro hw2 (And.intro hX2 (And.intro hxl (And.intro hS2 hiv)))))))
            clear hx2 hb2 hR2 hP2 hBP2 hw2 hX2 hxl hxn hS2 hiv hq2 hst hk2 k0 k1 k2
            go_wp2_with fail
            refine regionG27 HKL.out e b HE.out hbb P7 (HPR.out (by trivial)).1 H2.out.2.2.2.2.2.1 w2 (by rw [HLL.out]; exact HL.out) H2.out.2.2.1 H2.out.2.1 H2.out.2.2.2.2.1 H2.out.1 ?_
            intro s5 c5 w3 hR3 hbt3
            have hfin : ∃ M' L' T', Bo w3 B s m r key M' L' T' ∧ L'.length ≤ NL + 1 ∧ Below B w w3 := ⟨M2, insL L (e, b) P7, T2, ⟨slr_btr H2.out.2.2.2.2.2.2.1 H2.out.1 hbt3, by have := hR3; rw [H2.out.2.2.2.2.2.2.2.2] at this; exact this, H2.out.2.2.2.2.2.2.2.1, HBR.out⟩, by have := insL_len L (e, b) P7; rw [HLL.out] at this; exact this, H2.out.2.2.2.1.trans (hbt3.1.mono HBR.out)⟩
            have HFIN := Lib.hid hfin
            clear hfin hR3 hbt3 H2
            go_wp2
            go_ret
            exact ⟨rfl, HFIN.out⟩
          · have r4 : ((n : Int) == 256) = false := by simp; omega
            have hbe : badE bk n = 1 := by unfold badE; rw [if_neg (by omega), if_pos (by omega)]
            have hcl := sealbad_c s e bk n pa pc wc (by rw [hbe]; decide)
            rw [hbe] at hcl
            have HCL := Lib.hid hcl
            clear hcl hbe
            refine HCL.out.mono ?_
            rintro x w2 ⟨rfl, rfl⟩
            go_wp2
            go_ret
            exact ⟨rfl, HFIN0.out⟩
    by_cases K3 : kd = 3
    · subst K3
      go_wp2_with fail
      refine (HFULL.out wc HB1.out).mono ?_
      rintro x wF ⟨qF, cF, rfl, hBF, hbF⟩
      have HBF := Lib.hid hBF
      have HBOF := Lib.hid (HBO.out.up hbF)
      have HBF1 : Hid (Below w.heap.size w wF) := HB1.out.trans (hbF.mono HB1.out.size)
      have HBF1' : Hid (Below wc.heap.size wc wF) := hbF
      have hBPF := (hbF.block _ (lt_of_block HBP.out)).trans HBP.out
      have HBPF := Lib.hid hBPF
      replace k0 := (hbF.cell (p := ⟨w.heap.size, 0, none⟩) (lt_of_block HBP.out)).trans k0
      replace k1 := (hbF.cell (p := ⟨w.heap.size, 1, none⟩) (lt_of_block HBP.out)).trans k1
      replace k2 := (hbF.cell (p := ⟨w.heap.size, 2, none⟩) (lt_of_block HBP.out)).trans k2
      have HFINF : Hid (∃ M' L' T', Bo wF B s m r key M' L' T' ∧ L'.length ≤ NL + 1 ∧ Below B w wF) := ⟨M, L, T, HBOF.out, by rw [HLL.out]; omega, HBF1.out.mono HBW.out⟩
      clear hBF hbF hBPF HFIN0 HFULL HBO HB1 HBP HB7
      go_wp2_with fail
      by_cases r1 : bk < 0
      · skip
        have hbe : badE bk 256 = 3 := by unfold badE; rw [if_pos (by omega)]
        have hcl := openbad_c s e bk 256 (some ⟨qF, 0, none⟩) cF wF (by rw [hbe]; decide)
        rw [hbe] at hcl
        have HCL := Lib.hid hcl
        clear hcl hbe
        refine HCL.out.mono ?_
        rintro x w2 ⟨rfl, rfl⟩
        go_wp2
        go_ret
        exact ⟨rfl, HFINF.out⟩
      · by_cases r2 : (65535 : Int) < bk
        · skip
          have hbe : badE bk 256 = 3 := by unfold badE; rw [if_pos (by omega)]
          have hcl := openbad_c s e bk 256 (some ⟨qF, 0, none⟩) cF wF (by rw [hbe]; decide)
          rw [hbe] at hcl
          have HCL := Lib.hid hcl
          clear hcl hbe
          refine HCL.out.mono ?_
          rintro x w2 ⟨rfl, rfl⟩
          go_wp2
          go_ret
          exact ⟨rfl, HFINF.out⟩
        · skip
          obtain ⟨b, rfl⟩ : ∃ b : Nat, bk = (b : Int) := ⟨bk.toNat, by omega⟩
          have hbb : b < 65536 := by omega
          have g1 : ¬ ((b : Int) < 0) := by omega
          have g2 : ¬ ((65535 : Int) < (b : Int)) := by omega
          refine (open_c HKL.out e b HE.out hbb (some ⟨qF, 0, none⟩) cF (fullL PF0) HPF.out.1 wF HBOF.out.slr HBF.out).mono ?_
          rintro x w2 ⟨q2, rfl, hq2, hx2, hb2⟩
          have hxl := slr_strlt HKL.out HBOF.out.slr (fullL PF0) HPF.out.2 e b
          have hxn : (xorL (fullL PF0) (strL key e b 256)).length = 256 := by rw [xorL_len]; exact HPF.out.1
          have hX2 : BytesAt w2 (some ⟨q2, 0, none⟩) 256 (xorL (fullL PF0) (strL key e b 256)) := by have := bytesAt_block hxl hx2; rw [hxn] at this; exact this
          have hbo2 := HBOF.out.up hb2
          have hR2 := hbo2.rsl
          have hS2 := hbo2.slr
          have hP2 := HBF.out.up hb2 (Nat.le_refl _)
          have hBP2 := (hb2.block _ (lt_of_block HBPF.out)).trans HBPF.out
          have hw2 : Below B w w2 := (HBF1.out.trans (hb2.mono HBF1.out.size)).mono HBW.out
          have hiv := HBOF.out.inv
          have k1' : w2.cell? ⟨w.heap.size, 1, none⟩ = some (.int .u64 (e : Int)) := (cells_at hBP2 1).trans rfl
          have k2' : w2.cell? ⟨w.heap.size, 2, none⟩ = some (.int .i64 (b : Int)) := (cells_at hBP2 2).trans rfl
          have k0' := cells_at hBP2 0
          simp only [List.getElem?_toArray, List.getElem?_cons_zero] at k0'
          have HBR : Hid (B ≤ r) := HBOF.out.br
          have H2 := Lib.hid (And.intro hR2 (And.intro hP2 (And.intro hBP2 (And.intro hw2 (And.intro hX2 (And.intro hxl (And.intro hS2 hiv)))))))
          clear hx2 hb2 hR2 hP2 hBP2 hw2 hX2 hxl hxn hS2 hiv hq2 hbo2 k0 k1 k2
          go_wp2_with fail
          refine regionG26 HKL.out e b HE.out hbb (fullL PF0) HPF.out.1 H2.out.2.2.2.2.2.1 w2 (by rw [HLL.out]; exact HL.out) H2.out.2.2.1 H2.out.2.1 H2.out.2.2.2.2.1 H2.out.1 ?_
          intro s5 c5 w3 hR3 hbt3
          have hfin : ∃ M' L' T', Bo w3 B s m r key M' L' T' ∧ L'.length ≤ NL + 1 ∧ Below B w w3 := ⟨M, L, T, ⟨slr_btr H2.out.2.2.2.2.2.2.1 H2.out.1 hbt3, hR3, H2.out.2.2.2.2.2.2.2, HBR.out⟩, by rw [HLL.out]; omega, H2.out.2.2.2.1.trans (hbt3.1.mono HBR.out)⟩
          have HFIN := Lib.hid hfin
          clear hfin hR3 hbt3 H2
          go_wp2
          go_ret
          exact ⟨rfl, HFIN.out⟩
    by_cases K4 : kd = 4
    · subst K4
      have HB1' : Hid (Below wc.heap.size wc wc) := Below.refl _ _
      have HPR : Hid (n = 256 → P7.length = 256 ∧ ∀ x ∈ P7, x < 256) := fun h => ⟨by rw [HN.out.2.1]; exact h, HB7.out.1⟩
      clear HFULL
      go_wp2_with fail
      by_cases r1 : bk < 0
      · skip
        have hbe : badE bk n = 3 := by unfold badE; rw [if_pos (by omega)]
        have hcl := openbad_c s e bk n pa pc wc (by rw [hbe]; decide)
        rw [hbe] at hcl
        have HCL := Lib.hid hcl
        clear hcl hbe
        refine HCL.out.mono ?_
        rintro x w2 ⟨rfl, rfl⟩
        go_wp2
        go_ret
        exact ⟨rfl, HFIN0.out⟩
      · by_cases r2 : (65535 : Int) < bk
        · skip
          have hbe : badE bk n = 3 := by unfold badE; rw [if_pos (by omega)]
          have hcl := openbad_c s e bk n pa pc wc (by rw [hbe]; decide)
          rw [hbe] at hcl
          have HCL := Lib.hid hcl
          clear hcl hbe
          refine HCL.out.mono ?_
          rintro x w2 ⟨rfl, rfl⟩
          go_wp2
          go_ret
          exact ⟨rfl, HFIN0.out⟩
        · by_cases r3 : n = 256
          · subst r3
            obtain ⟨b, rfl⟩ : ∃ b : Nat, bk = (b : Int) := ⟨bk.toNat, by omega⟩
            have hbb : b < 65536 := by omega
            have g1 : ¬ ((b : Int) < 0) := by omega
            have g2 : ¬ ((65535 : Int) < (b : Int)) := by omega
            refine (open_c HKL.out e b HE.out hbb pa pc P7 (HPR.out (by trivial)).1 wc HBO.out.slr HB7.out).mono ?_
            rintro x w2 ⟨q2, rfl, hq2, hx2, hb2⟩
            have hxl := slr_strlt HKL.out HBO.out.slr P7 (HPR.out (by trivial)).2 e b
            have hxn : (xorL P7 (strL key e b 256)).length = 256 := by rw [xorL_len]; exact (HPR.out (by trivial)).1
            have hX2 : BytesAt w2 (some ⟨q2, 0, none⟩) 256 (xorL P7 (strL key e b 256)) := by have := bytesAt_block hxl hx2; rw [hxn] at this; exact this
            have hbo2 := HBO.out.up hb2
            have hR2 := hbo2.rsl
            have hS2 := hbo2.slr
            have hP2 := HB7.out.up hb2 (Nat.le_refl _)
            have hBP2 := (hb2.block _ (lt_of_block HBP.out)).trans HBP.out
            have hw2 : Below B w w2 := (HB1.out.trans (hb2.mono HB1.out.size)).mono HBW.out
            have hiv := HBO.out.inv
            have k1' : w2.cell? ⟨w.heap.size, 1, none⟩ = some (.int .u64 (e : Int)) := (cells_at hBP2 1).trans rfl
            have k2' : w2.cell? ⟨w.heap.size, 2, none⟩ = some (.int .i64 (b : Int)) := (cells_at hBP2 2).trans rfl
            have k0' := cells_at hBP2 0
            simp only [List.getElem?_toArray, List.getElem?_cons_zero] at k0'
            have HBR : Hid (B ≤ r) := HBO.out.br
            have H2 := Lib.hid (And.intro hR2 (And.intro hP2 (And.intro hBP2 (And.intro hw2 (And.intro hX2 (And.intro hxl (And.intro hS2 hiv)))))))
            clear hx2 hb2 hR2 hP2 hBP2 hw2 hX2 hxl hxn hS2 hiv hq2 hbo2 k0 k1 k2
            go_wp2_with fail
            refine regionG26 HKL.out e b HE.out hbb P7 (HPR.out (by trivial)).1 H2.out.2.2.2.2.2.1 w2 (by rw [HLL.out]; exact HL.out) H2.out.2.2.1 H2.out.2.1 H2.out.2.2.2.2.1 H2.out.1 ?_
            intro s5 c5 w3 hR3 hbt3
            have hfin : ∃ M' L' T', Bo w3 B s m r key M' L' T' ∧ L'.length ≤ NL + 1 ∧ Below B w w3 := ⟨M, L, T, ⟨slr_btr H2.out.2.2.2.2.2.2.1 H2.out.1 hbt3, hR3, H2.out.2.2.2.2.2.2.2, HBR.out⟩, by rw [HLL.out]; omega, H2.out.2.2.2.1.trans (hbt3.1.mono HBR.out)⟩
            have HFIN := Lib.hid hfin
            clear hfin hR3 hbt3 H2
            go_wp2
            go_ret
            exact ⟨rfl, HFIN.out⟩
          · have r4 : ((n : Int) == 256) = false := by simp; omega
            have hbe : badE bk n = 1 := by unfold badE; rw [if_neg (by omega), if_pos (by omega)]
            have hcl := openbad_c s e bk n pa pc wc (by rw [hbe]; decide)
            rw [hbe] at hcl
            have HCL := Lib.hid hcl
            clear hcl hbe
            refine HCL.out.mono ?_
            rintro x w2 ⟨rfl, rfl⟩
            go_wp2
            go_ret
            exact ⟨rfl, HFIN0.out⟩
    by_cases K5 : kd = 5
    · subst K5
      obtain ⟨wF, hwF⟩ : ∃ wF, wF = wc.alloc (.cells (bA zB256) 5) := ⟨_, rfl⟩
      have hmk : (Instr.makeSlice 29 (.int .i64 256) (.int .i64 256)).run Try.prog wc = .ok (.slice (some ⟨wc.heap.size, 0, none⟩) 256 256) wF := by rw [hwF]; exact mk_bytes 256 (by omega) wc
      have hbF : Below wc.heap.size wc wF := by rw [hwF]; exact below_box1 _ _
      have HBF : Hid (BytesAt wF (some ⟨wc.heap.size, 0, none⟩) 256 zB256) := by have := bytesAt_block zB256_lt (show wF.heap[wc.heap.size]? = some (.cells (bA zB256) 5 (0, 0)) by rw [hwF]; exact heap_new' _ _); rw [zB256_len] at this; exact this
      have HPZ : Hid (zB256.length = 256 ∧ ∀ x ∈ zB256, x < 256) := ⟨zB256_len, zB256_lt⟩
      have HBOF := Lib.hid (HBO.out.up hbF)
      have HBF1 : Hid (Below w.heap.size w wF) := HB1.out.trans (hbF.mono HB1.out.size)
      have HBF1' : Hid (Below wc.heap.size wc wF) := hbF
      have HBF' : Hid (Below wc.heap.size wc wF) := hbF
      have hBPF := (hbF.block _ (lt_of_block HBP.out)).trans HBP.out
      have HBPF := Lib.hid hBPF
      have k0F := (hbF.cell (p := ⟨w.heap.size, 0, none⟩) (lt_of_block HBP.out)).trans k0
      have k1F := (hbF.cell (p := ⟨w.heap.size, 1, none⟩) (lt_of_block HBP.out)).trans k1
      have k2F := (hbF.cell (p := ⟨w.heap.size, 2, none⟩) (lt_of_block HBP.out)).trans k2
      have HFINF : Hid (∃ M' L' T', Bo wF B s m r key M' L' T' ∧ L'.length ≤ NL + 1 ∧ Below B w wF) := ⟨M, L, T, HBOF.out, by rw [HLL.out]; omega, HBF1.out.mono HBW.out⟩
      clear hbF hBPF hwF HFULL
      go_wp2_with fail
      clear k0 k1 k2 hmk
      have k0 := k0F
      have k1 := k1F
      have k2 := k2F
      clear k0F k1F k2F HFIN0 HBO HB1 HBP HB7
      by_cases r1 : bk < 0
      · skip
        have hbe : badE bk 256 = 3 := by unfold badE; rw [if_pos (by omega)]
        have hcl := blankbad_c s e bk wF (by rw [hbe]; decide)
        rw [hbe] at hcl
        have HCL := Lib.hid hcl
        clear hcl hbe
        refine HCL.out.mono ?_
        rintro x w2 ⟨rfl, hbl⟩
        have hfin2 : ∃ M' L' T', Bo w2 B s m r key M' L' T' ∧ L'.length ≤ NL + 1 ∧ Below B w w2 := by obtain ⟨M', L', T', h1, h2, h3⟩ := HFINF.out; exact ⟨M', L', T', h1.up hbl, h2, h3.trans (hbl.mono (Nat.le_trans HMB.out (by first | exact Nat.le_refl _ | exact HBF'.out.size)))⟩
        have HFIN2 := Lib.hid hfin2
        have k0' := (hbl.cell (p := ⟨w.heap.size, 0, none⟩) (lt_of_block HBPF.out)).trans k0
        have k2' := (hbl.cell (p := ⟨w.heap.size, 2, none⟩) (lt_of_block HBPF.out)).trans k2
        clear hfin2 hbl
        go_wp2
        go_ret
        exact ⟨rfl, HFIN2.out⟩
      · by_cases r2 : (65535 : Int) < bk
        · skip
          have hbe : badE bk 256 = 3 := by unfold badE; rw [if_pos (by omega)]
          have hcl := blankbad_c s e bk wF (by rw [hbe]; decide)
          rw [hbe] at hcl
          have HCL := Lib.hid hcl
          clear hcl hbe
          refine HCL.out.mono ?_
          rintro x w2 ⟨rfl, hbl⟩
          have hfin2 : ∃ M' L' T', Bo w2 B s m r key M' L' T' ∧ L'.length ≤ NL + 1 ∧ Below B w w2 := by obtain ⟨M', L', T', h1, h2, h3⟩ := HFINF.out; exact ⟨M', L', T', h1.up hbl, h2, h3.trans (hbl.mono (Nat.le_trans HMB.out (by first | exact Nat.le_refl _ | exact HBF'.out.size)))⟩
          have HFIN2 := Lib.hid hfin2
          have k0' := (hbl.cell (p := ⟨w.heap.size, 0, none⟩) (lt_of_block HBPF.out)).trans k0
          have k2' := (hbl.cell (p := ⟨w.heap.size, 2, none⟩) (lt_of_block HBPF.out)).trans k2
          clear hfin2 hbl
          go_wp2
          go_ret
          exact ⟨rfl, HFIN2.out⟩
        · skip
          obtain ⟨b, rfl⟩ : ∃ b : Nat, bk = (b : Int) := ⟨bk.toNat, by omega⟩
          have hbb : b < 65536 := by omega
          have g1 : ¬ ((b : Int) < 0) := by omega
          have g2 : ¬ ((65535 : Int) < (b : Int)) := by omega
          refine (sblank_c HKL.out e b HE.out hbb wF (Nat.le_trans HMB.out (HBF1'.out.size)) HBOF.out.slr).mono ?_
          rintro x w2 ⟨q2, M2, T2, rfl, hst, hq2, hx2, hS2, hb2, hk2⟩
          have hxl := slr_strlt HKL.out HBOF.out.slr zB256 HPZ.out.2 e b
          have hxn : (xorL zB256 (strL key e b 256)).length = 256 := by rw [xorL_len]; exact HPZ.out.1
          have hX2 : BytesAt w2 (some ⟨q2, 0, none⟩) 256 (xorL zB256 (strL key e b 256)) := by have := bytesAt_block hxl hx2; rw [hxn] at this; exact this
          have hR2 := rsl_keep HBOF.out.rsl HBOF.out.slr hb2.size hk2
          have hP2 := bytes_kept HBOF.out.slr hb2.size hk2 HBF.out
          have hBP2 := op_kept HBOF.out.slr hk2 HBPF.out
          have hw2 : Below B w w2 := (HBF1.out.mono HBW.out).trans hb2
          have hiv := step_inv HBOF.out.inv (slr_pair HBOF.out.slr) hst
          have k1' : w2.cell? ⟨w.heap.size, 1, none⟩ = some (.int .u64 (e : Int)) := (cells_at hBP2 1).trans rfl
          have k2' : w2.cell? ⟨w.heap.size, 2, none⟩ = some (.int .i64 (b : Int)) := (cells_at hBP2 2).trans rfl
          have k0' := cells_at hBP2 0
          simp only [List.getElem?_toArray, List.getElem?_cons_zero] at k0'
          have HBR : Hid (B ≤ r) := HBOF.out.br
          have H2 := Lib.hid (And.intro hR2 (And.intro hP2 (And.intro hBP2 (And.intro hw2 (And.intro hX2 (And.intro hxl (And.intro hS2 hiv)))))))
          clear hx2 hb2 hR2 hP2 hBP2 hw2 hX2 hxl hxn hS2 hiv hq2 hst hk2 k0 k1 k2
          go_wp2_with fail
          refine regionG27 HKL.out e b HE.out hbb zB256 HPZ.out.1 H2.out.2.2.2.2.2.1 w2 (by rw [HLL.out]; exact HL.out) H2.out.2.2.1 H2.out.2.1 H2.out.2.2.2.2.1 H2.out.1 ?_
          intro s5 c5 w3 hR3 hbt3
          have hfin : ∃ M' L' T', Bo w3 B s m r key M' L' T' ∧ L'.length ≤ NL + 1 ∧ Below B w w3 := ⟨M2, insL L (e, b) zB256, T2, ⟨slr_btr H2.out.2.2.2.2.2.2.1 H2.out.1 hbt3, by have := hR3; rw [H2.out.2.2.2.2.2.2.2.2] at this; exact this, H2.out.2.2.2.2.2.2.2.1, HBR.out⟩, by have := insL_len L (e, b) zB256; rw [HLL.out] at this; exact this, H2.out.2.2.2.1.trans (hbt3.1.mono HBR.out)⟩
          have HFIN := Lib.hid hfin
          clear hfin hR3 hbt3 H2
          go_wp2
          go_ret
          exact ⟨rfl, HFIN.out⟩
    have d0 : (kd == 0) = false := by simp; omega
    have d1 : (kd == 1) = false := by simp; omega
    have d2 : (kd == 2) = false := by simp; omega
    have d3 : (kd == 3) = false := by simp; omega
    have d4 : (kd == 4) = false := by simp; omega
    have d5 : (kd == 5) = false := by simp; omega
    clear K0 K1 K2 K3 K4 K5 HFULL
    go_wp2
    go_ret
    exact ⟨rfl, HFIN0.out⟩
end Go.Proofs.Ytinjafacnekkcaa
