/- Texts SealD, SpD, SpF, SealBW, SpB, put together by pack.py. -/
import Derived.Test.YtinjafacnekkcaaSPl
import Derived.Test.YtinjafacnekkcaaSPr
import Derived.Laws.IdiomCopy
import Derived.Test.YtinjafacnekkcaaSPv
set_option linter.unusedVariables false
set_option linter.unusedSimpArgs false
namespace Go.Proofs.Ytinjafacnekkcaa
open Go Go.RowKit GfM
set_option maxRecDepth 100000 in
/-- []byte(b) of one byte that lies in a block of its own -/
theorem run_same {w : World} {q x : Nat} (hx : x < 256) (h : w.heap[q]? = some (.cells #[.int .u8 (x : Int)] 5 (0, 0))) : ∃ w', (convert 29 29 (.slice (some ⟨q, 0, none⟩) 1 1)).run Try.prog w = .ok (.slice (some ⟨q, 0, none⟩) 1 1) w' ∧
    BytesAt w' (some ⟨q, 0, none⟩) 1 [x] ∧ ∀ B, B ≤ q → Below B w w' := by
  have hs : w.shape? q = some (5, 1) := by simp [World.shape?, h]
  have hq : (w.freeze ⟨q, 1, none⟩ 1).heap[q]? = some (.cells #[.int .u8 (x : Int)] 5 (1, 2)) := by
    simp [World.freeze, Array.getElem?_modify, h]
  refine ⟨w.freeze ⟨q, 1, none⟩ 1, ?_, ?_, ?_⟩
  · unfold convert
    simp [run_underlying Try.underlying29, run_underlying Try.underlying5, markStringish, hs, Result.andThen]
  · refine ⟨by simpa using hx, fun _ => ⟨q, 0, rfl, Nat.le_refl _, ?_, fun j hj => ?_⟩⟩
    · exact lt_of_block hq
    · have hj0 : j = 0 := by simpa using hj
      subst hj0
      rw [cells_at hq]
      rfl
  · intro B hB
    refine ⟨rfl, rfl, rfl, ?_, fun k hk => ?_⟩
    · simp [World.freeze]
    · have hne : q ≠ k := by omega
      simp [World.freeze, Array.getElem?_modify, hne]
theorem wpList_same {w : World} {ops : Array Oper} {rest : List Oper} {o : Oper} {A : Act} {Q : Exit → Act → World → Prop} (hgd : o.guard = none) (y : Operand) (ho : o.op = .convert 29 29 y) (q x : Nat) (hx : x < 256)
    (hy : A.eval y = .slice (some ⟨q, 0, none⟩) 1 1) (h : w.heap[q]? = some (.cells #[.int .u8 (x : Int)] 5 (0, 0)))
    (hK : ∀ w', BytesAt w' (some ⟨q, 0, none⟩) 1 [x] → (∀ B, B ≤ q → Below B w w') → wpList Try.prog ops Q rest (A.put o.dst (.slice (some ⟨q, 0, none⟩) 1 1)) w') : wpList Try.prog ops Q (o :: rest) A w :=
  wpList_plain hgd fun _ hk => by
    obtain ⟨w', h1, h2, h3⟩ := run_same hx h
    unfold Oper.wp execOp
    simp only [ho, hy, Sem.run_bind, h1, Result.andThen_ok]
    exact hk _ _ (hK w' h2 h3)
set_option maxRecDepth 100000 in
set_option maxHeartbeats 4000000 in
theorem stwice_c {B s m : Nat} {key : List Nat} {M : MapM} {T : Option (Nat × Nat)} (w : World) (hS : Slr w B s m key M T) :
    Calls Try.prog 8 #[.pointer (some ⟨s, 0, none⟩)] w fun r w' => r = .returned (.tuple #[nonV (T.getD (0, 0)), .bool T.isSome]) ∧ Below w.heap.size w w' := by
  have hS' := fun o => hS.up ((Below.refl _ w).alloc (Nat.le_refl _) o) (Nat.le_refl _)
  obtain ⟨cc, tv, hblk, htw⟩ := hS.cell
  have hsl := lt_of_block hblk
  have c2 : ∀ o, (w.alloc o).cell? ⟨s, 2, none⟩ = some tv := fun o => (cells_at ((heap_old' _ _ _ hsl).trans hblk) 2).trans rfl
  have hns : w.heap.size ≠ s := by omega
  have HBA : Hid (∀ o, Below w.heap.size w (w.alloc o)) := fun o => (Below.refl _ _).alloc (Nat.le_refl _) _
  cases T with
  | none =>
    have htv : tv = .slice none 0 0 := htw
    subst htv
    clear hS hS' htw hblk hsl
    go_enter Try.func8, Try.ntmps8
    go_wp2_with (first
      | (refine wpList_store_row rfl 42 (.tmp 2) (.tmp 14) rfl w.heap.size #[.int .u64 0, .int .i64 0] rfl rfl 42 _ (heap_new' _ _) (by rw [two85]; rfl) (by rfl) (by simp [Value.oneCell']) ?_; generalize hW5 : World.setRow _ _ _ = W5; have HN5 : Hid (W5.heap[w.heap.size]? = some (.cells #[.int .u64 0, .int .i64 0] 42 (0, 0))) := (by rw [← hW5]; exact setRow_heap _ _ _ _ _ _ (heap_new' _ _)); have HB5 : Hid (Below w.heap.size w W5) := (by rw [← hW5]; exact below_setRow (HBA.out _) (Nat.le_refl _) _); clear hW5)
      | fail)
    have hrow := run_loadVar_row (P := Try.prog) W5 w.heap.size 42 42 #[.int .u64 0, .int .i64 0] (0, 0) _ HN5.out Try.underlying42 rfl (by rw [two85]; rfl)
    refine bodyPost_ret (v := .tuple #[nonV (0, 0), .bool false]) ?_ rfl ⟨rfl, HB5.out⟩
    simp [results, Try.f8, asAddr, hrow]
    try rfl
  | some x =>
    obtain ⟨g, cp, htv, hg, h0, h1⟩ := htw
    subst htv
    have HR : Hid (∀ o, (w.alloc o).rangeAt g 0 (#[.int .u64 (x.1 : Int), .int .i64 (x.2 : Int)] : Array Value).toList) := by
      intro o j v hv
      have hc : (w.alloc o).cell? ⟨g, j, none⟩ = w.cell? ⟨g, j, none⟩ := (HBA.out o).cell (p := ⟨g, j, none⟩) hg
      rw [Nat.zero_add, hc]
      have hj : j < 2 := by have := (List.getElem?_eq_some_iff.1 hv).1; simpa using this
      rcases (by omega : j = 0 ∨ j = 1) with rfl | rfl
      · rw [h0]; exact hv
      · rw [h1]; exact hv
    clear hS hS' hblk hsl h0 h1 hg
    go_enter Try.func8, Try.ntmps8
    go_wp2_with (first
      | (refine wpList_load_mid rfl 42 (.tmp 19) rfl g 0 rfl _ _ (HR.out _) Try.underlying42 rfl (by rw [two85]; rfl) ?_)
      | (refine wpList_store_row rfl 42 (.tmp 2) (.tmp 20) rfl w.heap.size #[.int .u64 (x.1 : Int), .int .i64 (x.2 : Int)] rfl rfl 42 _ (heap_new' _ _) (by rw [two85]; rfl) (by rfl) (by simp [Value.oneCell']) ?_; generalize hW5 : World.setRow _ _ _ = W5; have HN5 : Hid (W5.heap[w.heap.size]? = some (.cells #[.int .u64 (x.1 : Int), .int .i64 (x.2 : Int)] 42 (0, 0))) := (by rw [← hW5]; exact setRow_heap _ _ _ _ _ _ (heap_new' _ _)); have HB5 : Hid (Below w.heap.size w W5) := (by rw [← hW5]; exact below_setRow (HBA.out _) (Nat.le_refl _) _); clear hW5)
      | fail)
    have hrow := run_loadVar_row (P := Try.prog) W5 w.heap.size 42 42 #[.int .u64 (x.1 : Int), .int .i64 (x.2 : Int)] (0, 0) _ HN5.out Try.underlying42 rfl (by rw [two85]; rfl)
    refine bodyPost_ret (v := .tuple #[nonV x, .bool true]) ?_ rfl ⟨rfl, HB5.out⟩
    simp [results, Try.f8, asAddr, hrow]
    try rfl
theorem key1_by : ∀ x ∈ ([1, 0, 0, 0, 0, 0, 0, 0, 0, 0, 0, 0, 0, 0, 0, 0] : List Nat), x < 256 := by decide
theorem full_ne : fullL [120] ≠ fullL [121] := by
  intro h
  have h2 : (120 :: List.replicate 255 120 : List Nat) = 121 :: List.replicate 255 121 := h
  exact absurd (List.cons.inj h2).1 (by decide)
theorem stp_first {n : Nat × Nat} {p : List Nat} {M' : MapM} {T' : Option (Nat × Nat)} (h : SStp [] none n p M' T') : M' = [(n, p)] ∧ T' = none := by
  rcases h with ⟨_, h1, h2⟩ | ⟨⟨x, hx, _⟩, _⟩
  · exact ⟨h1, h2⟩
  · cases hx
theorem stp_again {n : Nat × Nat} {p p' : List Nat} {M' : MapM} {T' : Option (Nat × Nat)} (h : SStp [(n, p)] none n p' M' T') : M' = [(n, p)] ∧ T' = if p = p' then none else some n := by
  rcases h with ⟨h0, _⟩ | ⟨⟨x, hx, hn, h1⟩, h2⟩
  · exact absurd rfl (h0 (n, p) (by simp))
  · refine ⟨h2, ?_⟩
    rw [List.mem_singleton] at hx
    subst hx
    rcases h1 with ⟨e, ht⟩ | ⟨e, ht⟩
    · rw [if_pos e]; exact ht
    · rw [if_neg e]; exact ht
theorem wpList_conv_g {w : World} {ops : Array Oper} {rest : List Oper} {o : Oper} {A : Act} {Q : Exit → Act → World → Prop} (hgd : Region.wanted o (yielded ops A.tmps) = true) (x : Operand) {s : Option Addr} {cap n : Nat} {l : List Nat} (hl : l.length = n) (h : BytesAt w s cap l) (ho : o.op = .convert 29 9 x)
    (hx : A.eval x = .slice s n cap) (hK : wpList Try.prog ops Q rest (A.put o.dst (strV l)) w) : wpList Try.prog ops Q (o :: rest) A w :=
  wpList_step fun _ hk => by rw [if_pos hgd]; exact wp_conv x hl h ho hx (hk _ _ hK)
theorem wpList_eqs_g {w : World} {ops : Array Oper} {rest : List Oper} {o : Oper} {A : Act} {Q : Exit → Act → World → Prop} (hgd : Region.wanted o (yielded ops A.tmps) = true) (x y : Operand) (t : TypeId) (l : List Nat) (hl : ∀ x ∈ l, x < 256) (ho : o.op = .binOp .eql 9 x y t)
    (hx : A.eval x = strV l) (hy : A.eval y = strV l) (hK : wpList Try.prog ops Q rest (A.put o.dst (.bool true)) w) : wpList Try.prog ops Q (o :: rest) A w :=
  wpList_step fun _ hk => by
    rw [if_pos hgd]
    unfold Oper.wp
    rw [run_eqs1 l hl A.eval x y t o ho hx hy w]
    exact hk _ _ hK
/-- bytes stay behind a call of Seal -/
theorem bytes_seal {w w' : World} {B s m q o cap : Nat} {key : List Nat} {M : MapM} {T : Option (Nat × Nat)} {l : List Nat} (hS : Slr w B s m key M T) (hB : BytesAt w (some ⟨q, o, none⟩) cap l) (hl : 4 < l.length) (hk : ∀ k, k < w.heap.size → k ≠ s → k ≠ m → w'.heap[k]? = w.heap[k]?) : BytesAt w' (some ⟨q, o, none⟩) cap l := by
  obtain ⟨c, tv, h1, _⟩ := hS.cell
  obtain ⟨es, clock, h2, _⟩ := hS.map
  refine bytes_keepo hB (hk q ?_ (bytes_apart hB hl h1 (.inr ⟨_, _, _, rfl, rfl⟩)) (bytes_apart hB hl h2 (.inl ⟨_, _, rfl⟩)))
  obtain ⟨g, o', h3, _, h4, _⟩ := hB.2 (by omega)
  cases h3; exact h4
set_option maxRecDepth 100000 in
set_option maxHeartbeats 8000000 in
theorem awake10_c (w : World) : Calls Try.prog 9 #[] w fun e w' => e = .returned (.bool true) ∧ Below w.heap.size w w' := by
  obtain ⟨k1, hk1⟩ : ∃ k : List Nat, k = [1, 0, 0, 0, 0, 0, 0, 0, 0, 0, 0, 0, 0, 0, 0, 0] := ⟨_, rfl⟩
  have HK : Hid (k1.length = 16 ∧ ∀ x ∈ k1, x < 256) := ⟨by rw [hk1]; rfl, by rw [hk1]; exact key1_by⟩
  have hm : Calls Try.prog 4 #[.agg (bA [1, 0, 0, 0, 0, 0, 0, 0, 0, 0, 0, 0, 0, 0, 0, 0])] w fun e w' => ∃ s m, e = .returned (.pointer (some ⟨s, 0, none⟩)) ∧ Slr w' w.heap.size s m k1 [] none ∧ Below w.heap.size w w' := by
    have := made_c k1 HK.out.1 HK.out.2 w
    rw [hk1] at this ⊢
    exact this
  have HM := Lib.hid hm
  clear hm
  have HX : Hid ((fullL [120]).length = 256 ∧ (fullL [121]).length = 256) := ⟨fullL_len _ (by decide), fullL_len _ (by decide)⟩
  have HN := Lib.hid full_ne
  obtain ⟨px, hpx⟩ : ∃ p, p = fullL [120] := ⟨_, rfl⟩
  obtain ⟨py, hpy⟩ : ∃ p, p = fullL [121] := ⟨_, rfl⟩
  have hfull : ∀ (x : Nat) (q : Nat) (w' : World), BytesAt w' (some ⟨q, 0, none⟩) 1 [x] → Calls Try.prog 15 #[.slice (some ⟨q, 0, none⟩) 1 1] w' fun e w'' => ∃ q' cp, e = .returned (.slice (some ⟨q', 0, none⟩) 256 cp) ∧ 256 ≤ cp ∧ w'.heap.size ≤ q' ∧ BytesAt w'' (some ⟨q', 0, none⟩) cp (fullL [x]) ∧ Below w'.heap.size w' w'' :=
    fun x q w' h => full_c _ 1 1 (by omega) (by omega) (by simp) [x] rfl w' h
  have HFX : Hid (∀ (q : Nat) (w' : World), BytesAt w' (some ⟨q, 0, none⟩) 1 [120] → Calls Try.prog 15 #[.slice (some ⟨q, 0, none⟩) 1 1] w' fun e w'' => ∃ q' cp, e = .returned (.slice (some ⟨q', 0, none⟩) 256 cp) ∧ 256 ≤ cp ∧ w'.heap.size ≤ q' ∧ BytesAt w'' (some ⟨q', 0, none⟩) cp px ∧ Below w'.heap.size w' w'') := by rw [hpx]; exact hfull 120
  have HFY : Hid (∀ (q : Nat) (w' : World), BytesAt w' (some ⟨q, 0, none⟩) 1 [121] → Calls Try.prog 15 #[.slice (some ⟨q, 0, none⟩) 1 1] w' fun e w'' => ∃ q' cp, e = .returned (.slice (some ⟨q', 0, none⟩) 256 cp) ∧ 256 ≤ cp ∧ w'.heap.size ≤ q' ∧ BytesAt w'' (some ⟨q', 0, none⟩) cp py ∧ Below w'.heap.size w' w'') := by rw [hpy]; exact hfull 121
  rw [← hpx, ← hpy] at HX
  rw [← hpx, ← hpy] at HN
  have HSE : Hid (∀ (B s m : Nat) (M : MapM) (T : Option (Nat × Nat)) (a : Option Addr) (cap : Nat) (p : List Nat) (w' : World), p.length = 256 → B ≤ w'.heap.size → Slr w' B s m k1 M T → BytesAt w' a cap p → Calls Try.prog 16 #[.pointer (some ⟨s, 0, none⟩), .int .u64 1, .int .i64 5, .slice a 256 cap] w' fun r w'' =>
      ∃ q M' T', r = .returned (.tuple #[.slice (some ⟨q, 0, none⟩) 256 256, .int .i64 0]) ∧ SStp M T (1, 5) p M' T' ∧ w'.heap.size ≤ q ∧ w''.heap[q]? = some (.cells (bA (xorL p (strL k1 1 5 256))) 5 (0, 0)) ∧ Slr w'' B s m k1 M' T' ∧ Below B w' w'' ∧ (∀ k, k < w'.heap.size → k ≠ s → k ≠ m → w''.heap[k]? = w'.heap[k]?)) :=
    fun B s m M T a cap p w' hp hB hS hBA => seal_c (Or.inl HK.out.1) 1 5 (by omega) (by omega) a cap p hp w' hB hS hBA
  have HPX := Lib.hid hpx
  clear hk1 hpx hpy hfull
  go_enter Try.func9, Try.ntmps9
  go_wp2_with fail
  refine HM.out.mono ?_
  rintro e w1 ⟨s, m, rfl, hS1, hb1⟩
  have HS1 := Lib.hid hS1
  have HB1 := Lib.hid hb1
  clear hS1 hb1 HM
  go_wp2_with (first | (refine wpList_same rfl (.tmp 14) rfl w1.heap.size 120 (by omega) rfl (heap_new' _ _) ?_; intro wA2 hbA2 hlA2) | fail)
  have hA2 : Below w1.heap.size w1 wA2 := ((Below.refl _ _).alloc (Nat.le_refl _) _).trans (hlA2 _ (Nat.le_refl _))
  refine (HFX.out _ wA2 hbA2).mono ?_
  rintro e wB2 ⟨qB2, cB2, rfl, hcB2, hqB2, hBB2, hlB2⟩
  have hAB2 : Below w1.heap.size w1 wB2 := hA2.trans (hlB2.mono hA2.size)
  have HSB2 := Lib.hid (HS1.out.up hAB2 (Nat.le_refl _))
  have HBB2 : Hid (Below w.heap.size w wB2) := HB1.out.trans (hAB2.mono HB1.out.size)
  have HIN2 := Lib.hid hBB2
  clear hA2 hAB2 hbA2 hlA2 hcB2 hqB2 hBB2 hlB2
  go_wp2_with fail
  refine (HSE.out w.heap.size s m _ _ _ cB2 px wB2 HX.out.1 HBB2.out.size HSB2.out HIN2.out).mono ?_
  rintro r wC2 ⟨qC2, M2, T2, rfl, hst2, hqC2, hxC2, hSC2, hlC2, hkC2⟩
  obtain ⟨rfl, hT2⟩ := stp_first hst2
  subst hT2
  have HWB : Hid (∀ x ∈ wordsK k1, x < 256) := by obtain ⟨⟨_, _, _, ⟨_, _, _, _, h⟩, _⟩, _⟩ := HS1.out; exact h.fbyte
  have HS2 := Lib.hid hSC2
  have HB2 : Hid (Below w.heap.size w wC2) := HBB2.out.trans hlC2
  have hxl : ∀ x ∈ xorL px (strL k1 1 5 256), x < 256 := xorL_lt (by rw [HPX.out]; exact fullL_lt (by decide)) (strL_lt (Or.inl HK.out.1) HWB.out 1 5 256)
  have HX2 : Hid (BytesAt wC2 (some ⟨qC2, 0, none⟩) 256 (xorL px (strL k1 1 5 256))) := by have := bytesAt_block hxl hxC2; rw [xorL_len, HX.out.1] at this; exact this
  have HXL := Lib.hid hxl
  have HXN : Hid ((xorL px (strL k1 1 5 256)).length = 256) := by show _ = _; rw [xorL_len]; exact HX.out.1
  obtain ⟨XS, hXS⟩ : ∃ XS, XS = xorL px (strL k1 1 5 256) := ⟨_, rfl⟩
  have HXS := Lib.hid hXS
  rw [← hXS] at HX2 HXL HXN
  clear hxl hXS hst2 hqC2 hxC2 hSC2 hlC2 hkC2 HS1 HB1 HBB2 HSB2 HIN2
  go_wp2_with (first | (refine wpList_same rfl (.tmp 22) rfl wC2.heap.size 120 (by omega) rfl (heap_new' _ _) ?_; intro wA3 hbA3 hlA3) | fail)
  have hA3 : Below wC2.heap.size wC2 wA3 := ((Below.refl _ _).alloc (Nat.le_refl _) _).trans (hlA3 _ (Nat.le_refl _))
  refine (HFX.out _ wA3 hbA3).mono ?_
  rintro e wB3 ⟨qB3, cB3, rfl, hcB3, hqB3, hBB3, hlB3⟩
  have hAB3 : Below wC2.heap.size wC2 wB3 := hA3.trans (hlB3.mono hA3.size)
  have HSB3 := Lib.hid (HS2.out.up hAB3 (Nat.le_refl _))
  have HBB3 : Hid (Below w.heap.size w wB3) := HB2.out.trans (hAB3.mono HB2.out.size)
  have HX2B3 := Lib.hid (HX2.out.up hAB3 (Nat.le_refl _))
  have HIN3 := Lib.hid hBB3
  clear hA3 hAB3 hbA3 hlA3 hcB3 hqB3 hBB3 hlB3
  go_wp2_with fail
  refine (HSE.out w.heap.size s m _ _ _ cB3 px wB3 HX.out.1 HBB3.out.size HSB3.out HIN3.out).mono ?_
  rintro r wC3 ⟨qC3, M3, T3, rfl, hst3, hqC3, hxC3, hSC3, hlC3, hkC3⟩
  obtain ⟨rfl, hT3⟩ := stp_again hst3
  rw [if_pos rfl] at hT3
  subst hT3
  rw [← HXS.out] at hxC3
  have HS3 := Lib.hid hSC3
  have HB3 : Hid (Below w.heap.size w wC3) := HBB3.out.trans hlC3
  have HX3 : Hid (BytesAt wC3 (some ⟨qC2, 0, none⟩) 256 XS) := bytes_seal HSB3.out HX2B3.out (by rw [HXN.out]; omega) hkC3
  have HY3 : Hid (BytesAt wC3 (some ⟨qC3, 0, none⟩) 256 XS) := by have := bytesAt_block HXL.out hxC3; rw [HXN.out] at this; exact this
  clear hst3 hqC3 hxC3 hSC3 hlC3 hkC3 HS2 HB2 HX2 HBB3 HSB3 HIN3 HX2B3
  go_wp2_with fail
  refine (stwice_c wC3 HS3.out).mono ?_
  rintro r wT4 ⟨rfl, hbT4⟩
  have HST4 := Lib.hid (HS3.out.up hbT4 (Nat.le_refl _))
  have HBT4 : Hid (Below w.heap.size w wT4) := HB3.out.trans (hbT4.mono HB3.out.size)
  have HX3T4 := Lib.hid (HX3.out.up hbT4 (Nat.le_refl _))
  have HY3T4 := Lib.hid (HY3.out.up hbT4 (Nat.le_refl _))
  clear hbT4 HS3 HB3 HX3 HY3
  go_wp2_with (first | (refine wpList_store_row rfl 42 (.tmp 6) (.tmp 31) rfl wT4.heap.size #[.int .u64 0, .int .i64 0] rfl rfl 42 _ (heap_new' _ _) (by rw [two85]; rfl) (by rfl) (by simp [Value.oneCell']) ?_; generalize hW : World.setRow _ _ _ = w4; have HN4 : Hid (w4.heap[wT4.heap.size]? = some (.cells #[.int .u64 0, .int .i64 0] 42 (0, 0))) := (by rw [← hW]; exact setRow_heap _ _ _ _ _ _ (heap_new' _ _)); have hl4 : Below wT4.heap.size wT4 w4 := (by rw [← hW]; exact below_setRow ((Below.refl _ _).alloc (Nat.le_refl _) _) (Nat.le_refl _) _); clear hW; have HS4 := Lib.hid (HST4.out.up hl4 (Nat.le_refl _)); have HB4 : Hid (Below w.heap.size w w4) := HBT4.out.trans (hl4.mono HBT4.out.size); have HX3_4 := Lib.hid (HX3T4.out.up hl4 (Nat.le_refl _)); have HY3_4 := Lib.hid (HY3T4.out.up hl4 (Nat.le_refl _)); clear hl4 HST4 HBT4 HX3T4 HY3T4) | (refine wpList_same rfl (.tmp 34) rfl w4.heap.size 121 (by omega) rfl (heap_new' _ _) ?_; intro wA5 hbA5 hlA5) | fail)
  have hA5 : Below w4.heap.size w4 wA5 := ((Below.refl _ _).alloc (Nat.le_refl _) _).trans (hlA5 _ (Nat.le_refl _))
  refine (HFY.out _ wA5 hbA5).mono ?_
  rintro e wB5 ⟨qB5, cB5, rfl, hcB5, hqB5, hBB5, hlB5⟩
  have hAB5 : Below w4.heap.size w4 wB5 := hA5.trans (hlB5.mono hA5.size)
  have HSB5 := Lib.hid (HS4.out.up hAB5 (Nat.le_refl _))
  have HBB5 : Hid (Below w.heap.size w wB5) := HB4.out.trans (hAB5.mono HB4.out.size)
  have HX3B5 := Lib.hid (HX3_4.out.up hAB5 (Nat.le_refl _))
  have HY3B5 := Lib.hid (HY3_4.out.up hAB5 (Nat.le_refl _))
  have HIN5 := Lib.hid hBB5
  clear hA5 hAB5 hbA5 hlA5 hcB5 hqB5 hBB5 hlB5
  go_wp2_with fail
  refine (HSE.out w.heap.size s m _ _ _ cB5 py wB5 HX.out.2 HBB5.out.size HSB5.out HIN5.out).mono ?_
  rintro r wC5 ⟨qC5, M5, T5, rfl, hst5, hqC5, hxC5, hSC5, hlC5, hkC5⟩
  obtain ⟨rfl, hT5⟩ := stp_again hst5
  rw [if_neg HN.out] at hT5
  subst hT5
  have HS5 := Lib.hid hSC5
  have HB5 : Hid (Below w.heap.size w wC5) := HBB5.out.trans hlC5
  have HX5 : Hid (BytesAt wC5 (some ⟨qC2, 0, none⟩) 256 XS) := bytes_seal HSB5.out HX3B5.out (by rw [HXN.out]; omega) hkC5
  have HY5 : Hid (BytesAt wC5 (some ⟨qC3, 0, none⟩) 256 XS) := bytes_seal HSB5.out HY3B5.out (by rw [HXN.out]; omega) hkC5
  clear hst5 hqC5 hxC5 hSC5 hlC5 hkC5 HS4 HB4 HX3_4 HY3_4 HBB5 HSB5 HIN5 HX3B5 HY3B5 HN4
  go_wp2_with fail
  refine (stwice_c wC5 HS5.out).mono ?_
  rintro r wT6 ⟨rfl, hbT6⟩
  have HST6 := Lib.hid (HS5.out.up hbT6 (Nat.le_refl _))
  have HBT6 : Hid (Below w.heap.size w wT6) := HB5.out.trans (hbT6.mono HB5.out.size)
  have HX5T6 := Lib.hid (HX5.out.up hbT6 (Nat.le_refl _))
  have HY5T6 := Lib.hid (HY5.out.up hbT6 (Nat.le_refl _))
  clear hbT6 HS5 HB5 HX5 HY5
  go_wp2_with (first
    | (refine wpList_store_row rfl 42 (.tmp 8) (.tmp 41) rfl wT6.heap.size #[.int .u64 1, .int .i64 5] rfl rfl 42 _ (heap_new' _ _) (by rw [two85]; rfl) (by rfl) (by simp [Value.oneCell']) ?_; generalize hW : World.setRow _ _ _ = w6; have HN6 : Hid (w6.heap[wT6.heap.size]? = some (.cells #[.int .u64 1, .int .i64 5] 42 (0, 0))) := (by rw [← hW]; exact setRow_heap _ _ _ _ _ _ (heap_new' _ _)); have hl6 : Below wT6.heap.size wT6 w6 := (by rw [← hW]; exact below_setRow ((Below.refl _ _).alloc (Nat.le_refl _) _) (Nat.le_refl _) _); clear hW; have HS6 := Lib.hid (HST6.out.up hl6 (Nat.le_refl _)); have HB6 : Hid (Below w.heap.size w w6) := HBT6.out.trans (hl6.mono HBT6.out.size); have HX5_6 := Lib.hid (HX5T6.out.up hl6 (Nat.le_refl _)); have HY5_6 := Lib.hid (HY5T6.out.up hl6 (Nat.le_refl _)); clear hl6 HST6 HBT6 HX5T6 HY5T6; have n0 : w6.cell? ⟨wT6.heap.size, 0, none⟩ = some (.int .u64 1) := (by rw [cells_at HN6.out 0]; rfl); have n1 : w6.cell? ⟨wT6.heap.size, 1, none⟩ = some (.int .i64 5) := (by rw [cells_at HN6.out 1]; rfl))
    | (refine wpList_conv_g (by rfl) (.tmp 55) HXN.out HX5_6.out rfl rfl ?_)
    | (refine wpList_conv_g (by rfl) (.tmp 57) HXN.out HY5_6.out rfl rfl ?_)
    | (refine wpList_eqs_g (by rfl) (.tmp 56) (.tmp 58) 9 XS HXL.out rfl rfl rfl ?_)
    | fail)
  go_ret
  exact ⟨rfl, HB6.out⟩
end Go.Proofs.Ytinjafacnekkcaa
namespace Go.Proofs.Ytinjafacnekkcaa
open Go Go.RowKit GfM
/-- why a block may not be: its number, its length -/
def badE (b : Int) (n : Nat) : Int := if b < 0 ∨ 65536 ≤ b then 3 else if n ≠ 256 then 1 else 0
set_option maxRecDepth 100000 in
theorem maybad_c (s : Nat) (b : Int) (n : Nat) (a : Option Addr) (cap : Nat) (w : World) :
    Calls Try.prog 30 #[.pointer (some ⟨s, 0, none⟩), .int .i64 b, .slice a n cap] w fun e w' => e = .returned (.int .i64 (badE b n)) ∧ w' = w := by
  unfold badE
  by_cases h1 : b < 0
  · rw [if_pos (.inl h1)]
    go_enter Try.func30, Try.ntmps30
    go_wp2
    go_ret
    exact ⟨rfl, rfl⟩
  · by_cases h2 : (65536 : Int) ≤ b
    · rw [if_pos (.inr h2)]
      go_enter Try.func30, Try.ntmps30
      go_wp2
      go_ret
      exact ⟨rfl, rfl⟩
    · rw [if_neg (by omega)]
      by_cases h3 : n = 256
      · subst h3
        rw [if_neg (by simp)]
        go_enter Try.func30, Try.ntmps30
        go_wp2
        go_ret
        exact ⟨rfl, rfl⟩
      · rw [if_pos h3]
        have h4 : ((n : Int) == 256) = false := by simp; omega
        go_enter Try.func30, Try.ntmps30
        go_wp2
        go_ret
        exact ⟨rfl, rfl⟩
set_option maxRecDepth 100000 in
theorem sealbad_c (s : Nat) (e : Nat) (b : Int) (n : Nat) (a : Option Addr) (cap : Nat) (w : World) (h : badE b n ≠ 0) :
    Calls Try.prog 16 #[.pointer (some ⟨s, 0, none⟩), .int .u64 (e : Int), .int .i64 b, .slice a n cap] w fun r w' => r = .returned (.tuple #[.slice none 0 0, .int .i64 (badE b n)]) ∧ w' = w := by
  have hm := maybad_c s b n a cap w
  generalize badE b n = x at hm h ⊢
  have h0 : (x == 0) = false := by simp [h]
  go_enter Try.func16, Try.ntmps16
  go_wp2_with fail
  refine hm.mono ?_
  rintro r w' ⟨rfl, rfl⟩
  go_wp2
  go_ret2
  exact ⟨rfl, rfl⟩
set_option maxRecDepth 100000 in
theorem openbad_c (s : Nat) (e : Nat) (b : Int) (n : Nat) (a : Option Addr) (cap : Nat) (w : World) (h : badE b n ≠ 0) :
    Calls Try.prog 17 #[.pointer (some ⟨s, 0, none⟩), .int .u64 (e : Int), .int .i64 b, .slice a n cap] w fun r w' => r = .returned (.tuple #[.slice none 0 0, .int .i64 (badE b n)]) ∧ w' = w := by
  have hm := maybad_c s b n a cap w
  generalize badE b n = x at hm h ⊢
  have h0 : (x == 0) = false := by simp [h]
  go_enter Try.func17, Try.ntmps17
  go_wp2_with fail
  refine hm.mono ?_
  rintro r w' ⟨rfl, rfl⟩
  go_wp2
  go_ret2
  exact ⟨rfl, rfl⟩
def zB256 : List Nat := List.replicate 256 0
theorem zB256_len : zB256.length = 256 := by unfold zB256; rw [List.length_replicate]
theorem zB256_lt : ∀ x ∈ zB256, x < 256 := by intro x hx; unfold zB256 at hx; rw [List.mem_replicate] at hx; omega
set_option maxRecDepth 100000 in
theorem pad0_c (w : World) : Calls Try.prog 34 #[.slice none 0 0, .int .i64 256] w fun e w' => e = .returned (.slice (some ⟨w.heap.size, 0, none⟩) 256 256) ∧ w' = w.alloc (.cells (bA zB256) 5) := by
  have hmk : (Instr.makeSlice 29 (.int .i64 256) (.int .i64 256)).run Try.prog w = .ok (.slice (some ⟨w.heap.size, 0, none⟩) 256 256) (w.alloc (.cells (bA zB256) 5)) := mk_bytes 256 (by omega) w
  have hsz : (Try.prog.info? 5).map (·.size) = some 1 := by kernel_rfl
  have hcp := run_copy_none (P := Try.prog) (w.alloc (.cells (bA zB256) 5)) 29 29 3 5 (some ⟨w.heap.size, 0, none⟩) none 256 256 0 0 Try.underlying29 hsz rfl
  go_enter Try.func34, Try.ntmps34
  go_wp2
  go_ret
  exact ⟨rfl, rfl⟩
set_option maxRecDepth 100000 in
set_option maxHeartbeats 1000000 in
theorem sblank_c {B s m : Nat} {key : List Nat} {M : MapM} {T : Option (Nat × Nat)} (hkl : key.length = 16 ∨ key.length = 32) (e b : Nat) (he : e < 18446744073709551616) (hb : b < 65536) (w : World) (hBs : B ≤ w.heap.size) (hS : Slr w B s m key M T) :
    Calls Try.prog 18 #[.pointer (some ⟨s, 0, none⟩), .int .u64 (e : Int), .int .i64 (b : Int)] w fun r w' =>
      ∃ q M' T', r = .returned (.tuple #[.slice (some ⟨q, 0, none⟩) 256 256, .int .i64 0]) ∧ SStp M T (e, b) zB256 M' T' ∧ w.heap.size ≤ q ∧ w'.heap[q]? = some (.cells (bA (xorL zB256 (strL key e b 256))) 5 (0, 0)) ∧ Slr w' B s m key M' T' ∧ Below B w w' ∧ (∀ k, k < w.heap.size → k ≠ s → k ≠ m → w'.heap[k]? = w.heap[k]?) := by
  have hb1 := (Below.refl w.heap.size w).alloc (Nat.le_refl _) (.cells (bA zB256) 5)
  have hs := seal_c hkl e b he hb (some ⟨w.heap.size, 0, none⟩) 256 zB256 zB256_len (w.alloc (.cells (bA zB256) 5)) (by rw [World.size_alloc]; omega) (hS.up hb1 (Nat.le_refl _)) (by have := bytesAt_block (w := w.alloc (.cells (bA zB256) 5)) zB256_lt (heap_new' _ _); rw [zB256_len] at this; exact this)
  have HS := Lib.hid hs
  have HB1 := Lib.hid hb1
  have HBS := Lib.hid hBs
  clear hs hb1 hS he hb hBs
  go_enter Try.func18, Try.ntmps18
  go_wp2_with (first | (refine (pad0_c _).mono ?_; rintro e w' ⟨rfl, rfl⟩) | fail)
  refine HS.out.mono ?_
  rintro r w2 ⟨q, M', T', rfl, h1, h2, h3, h4, h5, h6⟩
  have H := Lib.hid (And.intro h1 (And.intro h2 (And.intro h3 (And.intro h4 (And.intro h5 h6)))))
  clear h1 h2 h3 h4 h5 h6 HS
  go_wp2
  go_ret2
  obtain ⟨h1, h2, h3, h4, h5, h6⟩ := H.out
  rw [World.size_alloc] at h2 h6
  exact ⟨q, M', T', rfl, h1, by omega, h3, h4, (HB1.out.mono HBS.out).trans h5, fun k hk hk1 hk2 => (h6 k (by omega) hk1 hk2).trans (HB1.out.block k hk)⟩
set_option maxRecDepth 100000 in
theorem blankbad_c (s : Nat) (e : Nat) (b : Int) (w : World) (h : badE b 256 ≠ 0) :
    Calls Try.prog 18 #[.pointer (some ⟨s, 0, none⟩), .int .u64 (e : Int), .int .i64 b] w fun r w' => r = .returned (.tuple #[.slice none 0 0, .int .i64 (badE b 256)]) ∧ Below w.heap.size w w' := by
  have hb1 := (Below.refl w.heap.size w).alloc (Nat.le_refl _) (.cells (bA zB256) 5)
  have hs := fun (w : World) => sealbad_c s e b 256 (some ⟨w.heap.size, 0, none⟩) 256 (w.alloc (.cells (bA zB256) 5)) h
  generalize badE b 256 = x at hs h ⊢
  have HB1 := Lib.hid hb1
  clear hb1
  go_enter Try.func18, Try.ntmps18
  go_wp2_with (first | (refine (pad0_c _).mono ?_; rintro e w' ⟨rfl, rfl⟩) | fail)
  refine (hs w).mono ?_
  rintro r w2 ⟨rfl, rfl⟩
  go_wp2
  go_ret2
  exact ⟨rfl, HB1.out⟩
end Go.Proofs.Ytinjafacnekkcaa
namespace Go.Proofs.Ytinjafacnekkcaa
open Go Go.RowKit GfM
/-- a block whose cells, if it has any, are no numbers -/
def NoInt (w : World) (k : Nat) : Prop := ∀ o i a, w.cell? ⟨k, o, none⟩ ≠ some (.int i a)
theorem noint_map {w : World} {k : Nat} {es : Array MapEntry} {c : Nat} (h : w.heap[k]? = some (.map es c)) : NoInt w k := by
  intro o i a hc
  simp [World.cell?, h] at hc
theorem noint_slr {w : World} {B s m : Nat} {key : List Nat} {M : MapM} {T : Option (Nat × Nat)} (h : Slr w B s m key M T) : NoInt w s ∧ NoInt w m := by
  constructor
  · obtain ⟨c, tv, hb, ht⟩ := h.cell
    have htv : ∃ a n c, tv = .slice a n c := by
      cases T with
      | none => exact ⟨_, _, _, ht⟩
      | some x => obtain ⟨g, cp, e, _⟩ := ht; exact ⟨_, _, _, e⟩
    obtain ⟨a, n, c', rfl⟩ := htv
    intro o i x hc
    rw [cells_at hb o] at hc
    rcases o with _ | _ | _ | o
    · simp at hc
    · simp at hc
    · simp at hc
    · simp at hc
  · obtain ⟨es, c, hb, _⟩ := h.map
    exact noint_map hb
theorem rsl_keep {w w' : World} {B s m r : Nat} {key key' : List Nat} {M L : MapM} {T T0 : Option (Nat × Nat)} (h : RSlr w r key L T) (hS : Slr w B s m key' M T0) (hsz : w.heap.size ≤ w'.heap.size)
    (hk : ∀ k, k < w.heap.size → k ≠ s → k ≠ m → w'.heap[k]? = w.heap[k]?) : RSlr w' r key L T := by
  obtain ⟨n1, n2⟩ := noint_slr hS
  obtain ⟨cs, tv, hbs, _⟩ := hS.cell
  obtain ⟨es, clk, hbm, _⟩ := hS.map
  have hblk : ∀ (k : Nat) A t z, w.heap[k]? = some (.cells A t z) → t ≠ 73 → w'.heap[k]? = w.heap[k]? := by
    intro k A t z hb ht
    refine hk k (lt_of_block hb) ?_ ?_
    · rintro rfl; rw [hb] at hbs; cases hbs; exact ht rfl
    · rintro rfl; rw [hb] at hbm; cases hbm
  have hint : ∀ (k o : Nat) i a, w.cell? ⟨k, o, none⟩ = some (.int i a) → k < w.heap.size → w'.heap[k]? = w.heap[k]? := by
    intro k o i a hc hl
    refine hk k hl ?_ ?_
    · rintro rfl; exact n1 _ _ _ hc
    · rintro rfl; exact n2 _ _ _ hc
  obtain ⟨c, g, nw, cp, a, cl, X, h⟩ := h
  refine ⟨c, g, nw, cp, a, cl, X, (hblk r _ _ _ h.blk (by decide)).trans h.blk, ?_, h.cap, h.nil, h.ap, ?_, ?_⟩
  · obtain ⟨⟨A, h1, hr⟩, h2, h3, h3b, ⟨A', h4, h5⟩, h6⟩ := h.cip
    exact ⟨⟨A, (hblk c _ _ _ h1 (by decide)).trans h1, hr⟩, h2, h3, h3b, ⟨A', (hblk g _ _ _ h4 (by decide)).trans h4, h5⟩, h6⟩
  · intro i x hx
    obtain ⟨g, o, rfl, hg, hc⟩ := h.row i x hx
    have h0 := hc 0 _ rfl
    have he := hint g _ _ _ h0 hg
    exact ⟨g, o, rfl, Nat.lt_of_lt_of_le hg hsz, fun j u hu => by rw [← hc j u hu]; simp [World.cell?, he]⟩
  · refine ⟨h.ones.1, fun i x y hx hy => ?_⟩
    obtain ⟨h1, h2, h3, h4, h5, h6⟩ := h.ones.2 i x y hx hy
    refine ⟨h1, h2, h3, h4, ⟨h5.1, fun h0 => ?_⟩, h6⟩
    obtain ⟨g, o, e1, e2, e3, e4⟩ := h5.2 h0
    have hc := e4 0 h0
    have he := hint g _ _ _ hc e3
    exact ⟨g, o, e1, e2, Nat.lt_of_lt_of_le e3 hsz, fun j hj => by rw [← e4 j hj]; simp [World.cell?, he]⟩
theorem slr_btr {w w' : World} {B s m r : Nat} {key key' : List Nat} {M L : MapM} {T T0 : Option (Nat × Nat)} (h : Slr w B s m key M T) (hR : RSlr w r key' L T0) (hb : BtR r w w') : Slr w' B s m key M T := by
  obtain ⟨cr, gr, nwr, cpr, ar, clr, Xr, hR⟩ := hR
  have hbr := hR.blk
  have hne : ∀ (k : Nat) A t z, w.heap[k]? = some (.cells A t z) → t ≠ 35 → w'.heap[k]? = w.heap[k]? := by
    intro k A t z hk ht
    refine hb.2 k (lt_of_block hk) ?_
    rintro rfl; rw [hk] at hbr; cases hbr; exact ht rfl
  have hc0 : ∀ (k : Nat) i a, w.cell? ⟨k, 0, none⟩ = some (.int i a) → k < w.heap.size → w'.heap[k]? = w.heap[k]? := by
    intro k i a hc hl
    refine hb.2 k hl ?_
    rintro rfl
    rw [cells_at hbr 0] at hc
    simp at hc
  obtain ⟨⟨c, tv, h1, ⟨b, g, n, cp, hC⟩, hT⟩, h4, h5, h6⟩ := h
  refine ⟨⟨c, tv, (hne s _ _ _ h1 (by decide)).trans h1, ⟨b, g, n, cp, ?_⟩, ?_⟩, ?_, h5, h6⟩
  · refine hC.keep (fun k A t z hk hor => hne k A t z hk ?_)
    rintro rfl
    rcases hor with rfl | rfl | rfl
    · have := hC.fcells; rw [hk] at this; cases this
    · have := hC.fbox; unfold IsBox at this; rw [hk] at this; injection this with this; injection this with _ ht _; exact absurd ht (by decide)
    · obtain ⟨A', hA', _⟩ := hC.fwords; rw [hk] at hA'; cases hA'
  · cases T with
    | none => exact hT
    | some x =>
      obtain ⟨g', cp', e1, e2, e3, e4⟩ := hT
      have e5 := hc0 g' _ _ e3 e2
      exact ⟨g', cp', e1, Nat.lt_of_lt_of_le e2 hb.1.size, by rw [← e3]; simp [World.cell?, e5], by rw [← e4]; simp [World.cell?, e5]⟩
  · obtain ⟨es, clock, e1, e2, e3, e4⟩ := h4
    have hm : m ≠ r := by rintro rfl; rw [e1] at hbr; cases hbr
    refine ⟨es, clock, (hb.2 m (Array.getElem?_eq_some_iff.1 e1).1 hm).trans e1, e2, fun i e x he hx => ?_, e4⟩
    have hE := e3 i e x he hx
    obtain ⟨q, cq, hv, hB⟩ := hE.val
    refine ⟨hE.key, hE.rng, ⟨q, cq, hv, ?_⟩, hE.len⟩
    obtain ⟨g, o, h1', h2', h3', h4'⟩ := hB.2 (by have := hE.len; omega)
    cases h1'
    have := h4' 0 (by have := hE.len; omega)
    exact bytes_keep hB (hc0 q _ _ this h3')
/-- both, alike -/
structure Bo (w : World) (B s m r : Nat) (key : List Nat) (M L : MapM) (T : Option (Nat × Nat)) : Prop where
  slr : Slr w B s m key M T
  rsl : RSlr w r key L T
  inv : PlInv M L
  br : B ≤ r
theorem Bo.up {w w' : World} {B s m r : Nat} {key : List Nat} {M L : MapM} {T : Option (Nat × Nat)} (h : Bo w B s m r key M L T) (hb : Below w.heap.size w w') : Bo w' B s m r key M L T := by
  refine ⟨h.slr.up hb (Nat.le_refl _), ?_, h.inv, h.br⟩
  obtain ⟨c, g, nw, cp, a, cl, X, hR⟩ := h.rsl
  exact ⟨_, _, _, _, _, _, _, hR.up hb⟩
/-- p's bytes lie apart from block r -/
theorem bytes_ner {w : World} {r : Nat} {key : List Nat} {L : MapM} {T : Option (Nat × Nat)} (hR : RSlr w r key L T) {a : Option Addr} {cap : Nat} {p : List Nat} (hp : p.length = 256) (hB : BytesAt w a cap p) : ∀ q, a = some q → q.block ≠ r := by
  obtain ⟨cr, gr, nwr, cpr, ar, clr, Xr, hR⟩ := hR
  obtain ⟨g, o, rfl, h2, h3, h4⟩ := hB.2 (by omega)
  rintro _ ⟨⟩
  show g ≠ r
  rintro rfl
  have := h4 10 (by omega)
  rw [cells_at hR.blk (o + 10)] at this
  have h5 := (Array.getElem?_eq_some_iff.1 this).1
  simp at h5
  omega
end Go.Proofs.Ytinjafacnekkcaa
namespace Go.Proofs.Ytinjafacnekkcaa
open Go Go.RowKit GfM
theorem row_nil {w : World} {a : Option Addr} {len cap : Nat} {zs : List Int} {k : IntKind} (hrow : IsRow k w a len cap zs) : a = none → cap = 0 := by
  intro ha
  rcases hrow with ⟨_, _, h, _⟩ | ⟨_, h, _⟩
  · exact h
  · rw [ha] at h; cases h
end Go.Proofs.Ytinjafacnekkcaa

