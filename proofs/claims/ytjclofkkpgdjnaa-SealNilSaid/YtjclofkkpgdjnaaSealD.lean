/- Contracts of Twice and the law's awake. Printed by gen_seald.py. -/
import Derived.Test.YtjclofkkpgdjnaaSealC
set_option linter.unusedVariables false
set_option linter.unusedSimpArgs false
namespace Go.Proofs.Ytjclofkkpgdjnaa
open Go Go.RowKit GfM
set_option maxRecDepth 100000 in
/-- []byte(b) of one byte that lies in a block of its own -/
theorem run_same {w : World} {q x : Nat} (hx : x < 256) (h : w.heap[q]? = some (.cells #[.int .u8 (x : Int)] 5 (0, 0))) : ∃ w', (convert 32 32 (.slice (some ⟨q, 0, none⟩) 1 1)).run Try.prog w = .ok (.slice (some ⟨q, 0, none⟩) 1 1) w' ∧
    BytesAt w' (some ⟨q, 0, none⟩) 1 [x] ∧ ∀ B, B ≤ q → Below B w w' := by
  have hs : w.shape? q = some (5, 1) := by simp [World.shape?, h]
  have hq : (w.freeze ⟨q, 1, none⟩ 1).heap[q]? = some (.cells #[.int .u8 (x : Int)] 5 (1, 2)) := by
    simp [World.freeze, Array.getElem?_modify, h]
  refine ⟨w.freeze ⟨q, 1, none⟩ 1, ?_, ?_, ?_⟩
  · unfold convert
    simp [run_underlying Try.underlying32, run_underlying Try.underlying5, markStringish, hs, Result.andThen]
  · refine ⟨by simpa using hx, fun _ => ⟨q, 0, rfl, Nat.le_refl _, ?_, fun j hj => ?_⟩⟩
    · exact lt_of_block hq
    · have hj0 : j = 0 := by simpa using hj
      subst hj0
      rw [cells_at hq]
      rfl
  · intro B hB
    refine ⟨rfl, rfl, rfl, ?_, fun k hk => ?_⟩
    · simp [World.freeze]
    · have hne : q ≠ k := by omega
      simp [World.freeze, Array.getElem?_modify, hne]
theorem wpList_same {w : World} {ops : Array Oper} {rest : List Oper} {o : Oper} {A : Act} {Q : Exit → Act → World → Prop} (hgd : o.guard = none) (y : Operand) (ho : o.op = .convert 32 32 y) (q x : Nat) (hx : x < 256)
    (hy : A.eval y = .slice (some ⟨q, 0, none⟩) 1 1) (h : w.heap[q]? = some (.cells #[.int .u8 (x : Int)] 5 (0, 0)))
    (hK : ∀ w', BytesAt w' (some ⟨q, 0, none⟩) 1 [x] → (∀ B, B ≤ q → Below B w w') → wpList Try.prog ops Q rest (A.put o.dst (.slice (some ⟨q, 0, none⟩) 1 1)) w') : wpList Try.prog ops Q (o :: rest) A w :=
  wpList_plain hgd fun _ hk => by
    obtain ⟨w', h1, h2, h3⟩ := run_same hx h
    unfold Oper.wp execOp
    simp only [ho, hy, Sem.run_bind, h1, Result.andThen_ok]
    exact hk _ _ (hK w' h2 h3)
set_option maxRecDepth 100000 in
set_option maxHeartbeats 4000000 in
theorem stwice_c {B s m : Nat} {key : List Nat} {M : MapM} {T : Option (Nat × Nat)} (w : World) (hS : Slr w B s m key M T) :
    Calls Try.prog 12 #[.pointer (some ⟨s, 0, none⟩)] w fun r w' => r = .returned (.tuple #[nonV (T.getD (0, 0)), .bool T.isSome]) ∧ Below w.heap.size w w' := by
  have hS' := fun o => hS.up ((Below.refl _ w).alloc (Nat.le_refl _) o) (Nat.le_refl _)
  obtain ⟨cc, tv, hblk, htw⟩ := hS.cell
  have hsl := lt_of_block hblk
  have c2 : ∀ o, (w.alloc o).cell? ⟨s, 2, none⟩ = some tv := fun o => (cells_at ((heap_old' _ _ _ hsl).trans hblk) 2).trans rfl
  have hns : w.heap.size ≠ s := by omega
  have HBA : Hid (∀ o, Below w.heap.size w (w.alloc o)) := fun o => (Below.refl _ _).alloc (Nat.le_refl _) _
  cases T with
  | none =>
    have htv : tv = .slice none 0 0 := htw
    subst htv
    clear hS hS' htw hblk hsl
    go_enter Try.func12, Try.ntmps12
    go_wp2_with (first
      | (refine wpList_store_row rfl 38 (.tmp 2) (.tmp 14) rfl w.heap.size #[.int .u64 0, .int .i64 0] rfl rfl 38 _ (heap_new' _ _) (by rw [two85]; rfl) (by rfl) (by simp [Value.oneCell']) ?_; generalize hW5 : World.setRow _ _ _ = W5; have HN5 : Hid (W5.heap[w.heap.size]? = some (.cells #[.int .u64 0, .int .i64 0] 38 (0, 0))) := (by rw [← hW5]; exact setRow_heap _ _ _ _ _ _ (heap_new' _ _)); have HB5 : Hid (Below w.heap.size w W5) := (by rw [← hW5]; exact below_setRow (HBA.out _) (Nat.le_refl _) _); clear hW5)
      | fail)
    have hrow := run_loadVar_row (P := Try.prog) W5 w.heap.size 38 38 #[.int .u64 0, .int .i64 0] (0, 0) _ HN5.out Try.underlying38 rfl (by rw [two85]; rfl)
    refine bodyPost_ret (v := .tuple #[nonV (0, 0), .bool false]) ?_ rfl ⟨rfl, HB5.out⟩
    simp [results, Try.f12, asAddr, hrow]
    try rfl
  | some x =>
    obtain ⟨g, cp, htv, hg, h0, h1⟩ := htw
    subst htv
    have HR : Hid (∀ o, (w.alloc o).rangeAt g 0 (#[.int .u64 (x.1 : Int), .int .i64 (x.2 : Int)] : Array Value).toList) := by
      intro o j v hv
      have hc : (w.alloc o).cell? ⟨g, j, none⟩ = w.cell? ⟨g, j, none⟩ := (HBA.out o).cell (p := ⟨g, j, none⟩) hg
      rw [Nat.zero_add, hc]
      have hj : j < 2 := by have := (List.getElem?_eq_some_iff.1 hv).1; simpa using this
      rcases (by omega : j = 0 ∨ j = 1) with rfl | rfl
      · rw [h0]; exact hv
      · rw [h1]; exact hv
    clear hS hS' hblk hsl h0 h1 hg
    go_enter Try.func12, Try.ntmps12
    go_wp2_with (first
      | (refine wpList_load_mid rfl 38 (.tmp 19) rfl g 0 rfl _ _ (HR.out _) Try.underlying38 rfl (by rw [two85]; rfl) ?_)
      | (refine wpList_store_row rfl 38 (.tmp 2) (.tmp 20) rfl w.heap.size #[.int .u64 (x.1 : Int), .int .i64 (x.2 : Int)] rfl rfl 38 _ (heap_new' _ _) (by rw [two85]; rfl) (by rfl) (by simp [Value.oneCell']) ?_; generalize hW5 : World.setRow _ _ _ = W5; have HN5 : Hid (W5.heap[w.heap.size]? = some (.cells #[.int .u64 (x.1 : Int), .int .i64 (x.2 : Int)] 38 (0, 0))) := (by rw [← hW5]; exact setRow_heap _ _ _ _ _ _ (heap_new' _ _)); have HB5 : Hid (Below w.heap.size w W5) := (by rw [← hW5]; exact below_setRow (HBA.out _) (Nat.le_refl _) _); clear hW5)
      | fail)
    have hrow := run_loadVar_row (P := Try.prog) W5 w.heap.size 38 38 #[.int .u64 (x.1 : Int), .int .i64 (x.2 : Int)] (0, 0) _ HN5.out Try.underlying38 rfl (by rw [two85]; rfl)
    refine bodyPost_ret (v := .tuple #[nonV x, .bool true]) ?_ rfl ⟨rfl, HB5.out⟩
    simp [results, Try.f12, asAddr, hrow]
    try rfl
theorem key1_by : ∀ x ∈ ([1, 0, 0, 0, 0, 0, 0, 0, 0, 0, 0, 0, 0, 0, 0, 0] : List Nat), x < 256 := by decide
theorem full_ne : fullL [120] ≠ fullL [121] := by
  intro h
  have h2 : (120 :: List.replicate 255 120 : List Nat) = 121 :: List.replicate 255 121 := h
  exact absurd (List.cons.inj h2).1 (by decide)
theorem stp_first {n : Nat × Nat} {p : List Nat} {M' : MapM} {T' : Option (Nat × Nat)} (h : SStp [] none n p M' T') : M' = [(n, p)] ∧ T' = none := by
  rcases h with ⟨_, h1, h2⟩ | ⟨⟨x, hx, _⟩, _⟩
  · exact ⟨h1, h2⟩
  · cases hx
theorem stp_again {n : Nat × Nat} {p p' : List Nat} {M' : MapM} {T' : Option (Nat × Nat)} (h : SStp [(n, p)] none n p' M' T') : M' = [(n, p)] ∧ T' = if p = p' then none else some n := by
  rcases h with ⟨h0, _⟩ | ⟨⟨x, hx, hn, h1⟩, h2⟩
  · exact absurd rfl (h0 (n, p) (by simp))
  · refine ⟨h2, ?_⟩
    rw [List.mem_singleton] at hx
    subst hx
    rcases h1 with ⟨e, ht⟩ | ⟨e, ht⟩
    · rw [if_pos e]; exact ht
    · rw [if_neg e]; exact ht
theorem wpList_conv_g {w : World} {ops : Array Oper} {rest : List Oper} {o : Oper} {A : Act} {Q : Exit → Act → World → Prop} (hgd : Region.wanted o (yielded ops A.tmps) = true) (x : Operand) {s : Option Addr} {cap n : Nat} {l : List Nat} (hl : l.length = n) (h : BytesAt w s cap l) (ho : o.op = .convert 32 9 x)
    (hx : A.eval x = .slice s n cap) (hK : wpList Try.prog ops Q rest (A.put o.dst (strV l)) w) : wpList Try.prog ops Q (o :: rest) A w :=
  wpList_step fun _ hk => by rw [if_pos hgd]; exact wp_conv x hl h ho hx (hk _ _ hK)
theorem wpList_eqs_g {w : World} {ops : Array Oper} {rest : List Oper} {o : Oper} {A : Act} {Q : Exit → Act → World → Prop} (hgd : Region.wanted o (yielded ops A.tmps) = true) (x y : Operand) (t : TypeId) (l : List Nat) (hl : ∀ x ∈ l, x < 256) (ho : o.op = .binOp .eql 9 x y t)
    (hx : A.eval x = strV l) (hy : A.eval y = strV l) (hK : wpList Try.prog ops Q rest (A.put o.dst (.bool true)) w) : wpList Try.prog ops Q (o :: rest) A w :=
  wpList_step fun _ hk => by
    rw [if_pos hgd]
    unfold Oper.wp
    rw [run_eqs1 l hl A.eval x y t o ho hx hy w]
    exact hk _ _ hK
/-- bytes stay behind a call of Seal -/
theorem bytes_seal {w w' : World} {B s m q o cap : Nat} {key : List Nat} {M : MapM} {T : Option (Nat × Nat)} {l : List Nat} (hS : Slr w B s m key M T) (hB : BytesAt w (some ⟨q, o, none⟩) cap l) (hl : 4 < l.length) (hk : ∀ k, k < w.heap.size → k ≠ s → k ≠ m → w'.heap[k]? = w.heap[k]?) : BytesAt w' (some ⟨q, o, none⟩) cap l := by
  obtain ⟨c, tv, h1, _⟩ := hS.cell
  obtain ⟨es, clock, h2, _⟩ := hS.map
  refine bytes_keepo hB (hk q ?_ (bytes_apart hB hl h1 (.inr ⟨_, _, _, rfl, rfl⟩)) (bytes_apart hB hl h2 (.inl ⟨_, _, rfl⟩)))
  obtain ⟨g, o', h3, _, h4, _⟩ := hB.2 (by omega)
  cases h3; exact h4
set_option maxRecDepth 100000 in
set_option maxHeartbeats 8000000 in
theorem awake10_c (w : World) : Calls Try.prog 15 #[] w fun e w' => e = .returned (.bool true) ∧ Below w.heap.size w w' := by
  obtain ⟨k1, hk1⟩ : ∃ k : List Nat, k = [1, 0, 0, 0, 0, 0, 0, 0, 0, 0, 0, 0, 0, 0, 0, 0] := ⟨_, rfl⟩
  have HK : Hid (k1.length = 16 ∧ ∀ x ∈ k1, x < 256) := ⟨by rw [hk1]; rfl, by rw [hk1]; exact key1_by⟩
  have hm : Calls Try.prog 32 #[.agg (bA [1, 0, 0, 0, 0, 0, 0, 0, 0, 0, 0, 0, 0, 0, 0, 0])] w fun e w' => ∃ s m, e = .returned (.pointer (some ⟨s, 0, none⟩)) ∧ Slr w' w.heap.size s m k1 [] none ∧ Below w.heap.size w w' := by
    have := made_c k1 HK.out.1 HK.out.2 w
    rw [hk1] at this ⊢
    exact this
  have HM := Lib.hid hm
  clear hm
  have HX : Hid ((fullL [120]).length = 256 ∧ (fullL [121]).length = 256) := ⟨fullL_len _ (by decide), fullL_len _ (by decide)⟩
  have HN := Lib.hid full_ne
  obtain ⟨px, hpx⟩ : ∃ p, p = fullL [120] := ⟨_, rfl⟩
  obtain ⟨py, hpy⟩ : ∃ p, p = fullL [121] := ⟨_, rfl⟩
  have hfull : ∀ (x : Nat) (q : Nat) (w' : World), BytesAt w' (some ⟨q, 0, none⟩) 1 [x] → Calls Try.prog 33 #[.slice (some ⟨q, 0, none⟩) 1 1] w' fun e w'' => ∃ q' cp, e = .returned (.slice (some ⟨q', 0, none⟩) 256 cp) ∧ 256 ≤ cp ∧ w'.heap.size ≤ q' ∧ BytesAt w'' (some ⟨q', 0, none⟩) cp (fullL [x]) ∧ Below w'.heap.size w' w'' :=
    fun x q w' h => full_c _ 1 1 (by omega) (by omega) (by simp) [x] rfl w' h
  have HFX : Hid (∀ (q : Nat) (w' : World), BytesAt w' (some ⟨q, 0, none⟩) 1 [120] → Calls Try.prog 33 #[.slice (some ⟨q, 0, none⟩) 1 1] w' fun e w'' => ∃ q' cp, e = .returned (.slice (some ⟨q', 0, none⟩) 256 cp) ∧ 256 ≤ cp ∧ w'.heap.size ≤ q' ∧ BytesAt w'' (some ⟨q', 0, none⟩) cp px ∧ Below w'.heap.size w' w'') := by rw [hpx]; exact hfull 120
  have HFY : Hid (∀ (q : Nat) (w' : World), BytesAt w' (some ⟨q, 0, none⟩) 1 [121] → Calls Try.prog 33 #[.slice (some ⟨q, 0, none⟩) 1 1] w' fun e w'' => ∃ q' cp, e = .returned (.slice (some ⟨q', 0, none⟩) 256 cp) ∧ 256 ≤ cp ∧ w'.heap.size ≤ q' ∧ BytesAt w'' (some ⟨q', 0, none⟩) cp py ∧ Below w'.heap.size w' w'') := by rw [hpy]; exact hfull 121
  rw [← hpx, ← hpy] at HX
  rw [← hpx, ← hpy] at HN
  have HSE : Hid (∀ (B s m : Nat) (M : MapM) (T : Option (Nat × Nat)) (a : Option Addr) (cap : Nat) (p : List Nat) (w' : World), p.length = 256 → B ≤ w'.heap.size → Slr w' B s m k1 M T → BytesAt w' a cap p → Calls Try.prog 9 #[.pointer (some ⟨s, 0, none⟩), .int .u64 1, .int .i64 5, .slice a 256 cap] w' fun r w'' =>
      ∃ q M' T', r = .returned (.tuple #[.slice (some ⟨q, 0, none⟩) 256 256, .int .i64 0]) ∧ SStp M T (1, 5) p M' T' ∧ w'.heap.size ≤ q ∧ w''.heap[q]? = some (.cells (bA (xorL p (strL k1 1 5 256))) 5 (0, 0)) ∧ Slr w'' B s m k1 M' T' ∧ Below B w' w'' ∧ (∀ k, k < w'.heap.size → k ≠ s → k ≠ m → w''.heap[k]? = w'.heap[k]?)) :=
    fun B s m M T a cap p w' hp hB hS hBA => seal_c (Or.inl HK.out.1) 1 5 (by omega) (by omega) a cap p hp w' hB hS hBA
  have HPX := Lib.hid hpx
  clear hk1 hpx hpy hfull
  go_enter Try.func15, Try.ntmps15
  go_wp2_with fail
  refine HM.out.mono ?_
  rintro e w1 ⟨s, m, rfl, hS1, hb1⟩
  have HS1 := Lib.hid hS1
  have HB1 := Lib.hid hb1
  clear hS1 hb1 HM
  go_wp2_with (first | (refine wpList_same rfl (.tmp 14) rfl w1.heap.size 120 (by omega) rfl (heap_new' _ _) ?_; intro wA2 hbA2 hlA2) | fail)
  have hA2 : Below w1.heap.size w1 wA2 := ((Below.refl _ _).alloc (Nat.le_refl _) _).trans (hlA2 _ (Nat.le_refl _))
  refine (HFX.out _ wA2 hbA2).mono ?_
  rintro e wB2 ⟨qB2, cB2, rfl, hcB2, hqB2, hBB2, hlB2⟩
  have hAB2 : Below w1.heap.size w1 wB2 := hA2.trans (hlB2.mono hA2.size)
  have HSB2 := Lib.hid (HS1.out.up hAB2 (Nat.le_refl _))
  have HBB2 : Hid (Below w.heap.size w wB2) := HB1.out.trans (hAB2.mono HB1.out.size)
  have HIN2 := Lib.hid hBB2
  clear hA2 hAB2 hbA2 hlA2 hcB2 hqB2 hBB2 hlB2
  go_wp2_with fail
  refine (HSE.out w.heap.size s m _ _ _ cB2 px wB2 HX.out.1 HBB2.out.size HSB2.out HIN2.out).mono ?_
  rintro r wC2 ⟨qC2, M2, T2, rfl, hst2, hqC2, hxC2, hSC2, hlC2, hkC2⟩
  obtain ⟨rfl, hT2⟩ := stp_first hst2
  subst hT2
  have HWB : Hid (∀ x ∈ wordsK k1, x < 256) := by obtain ⟨⟨_, _, _, ⟨_, _, _, _, h⟩, _⟩, _⟩ := HS1.out; exact h.fbyte
  have HS2 := Lib.hid hSC2
  have HB2 : Hid (Below w.heap.size w wC2) := HBB2.out.trans hlC2
  have hxl : ∀ x ∈ xorL px (strL k1 1 5 256), x < 256 := xorL_lt (by rw [HPX.out]; exact fullL_lt (by decide)) (strL_lt (Or.inl HK.out.1) HWB.out 1 5 256)
  have HX2 : Hid (BytesAt wC2 (some ⟨qC2, 0, none⟩) 256 (xorL px (strL k1 1 5 256))) := by have := bytesAt_block hxl hxC2; rw [xorL_len, HX.out.1] at this; exact this
  have HXL := Lib.hid hxl
  have HXN : Hid ((xorL px (strL k1 1 5 256)).length = 256) := by show _ = _; rw [xorL_len]; exact HX.out.1
  obtain ⟨XS, hXS⟩ : ∃ XS, XS = xorL px (strL k1 1 5 256) := ⟨_, rfl⟩
  have HXS := Lib.hid hXS
  rw [← hXS] at HX2 HXL HXN
  clear hxl hXS hst2 hqC2 hxC2 hSC2 hlC2 hkC2 HS1 HB1 HBB2 HSB2 HIN2
  go_wp2_with (first | (refine wpList_same rfl (.tmp 22) rfl wC2.heap.size 120 (by omega) rfl (heap_new' _ _) ?_; intro wA3 hbA3 hlA3) | fail)
  have hA3 : Below wC2.heap.size wC2 wA3 := ((Below.refl _ _).alloc (Nat.le_refl _) _).trans (hlA3 _ (Nat.le_refl _))
  refine (HFX.out _ wA3 hbA3).mono ?_
  rintro e wB3 ⟨qB3, cB3, rfl, hcB3, hqB3, hBB3, hlB3⟩
  have hAB3 : Below wC2.heap.size wC2 wB3 := hA3.trans (hlB3.mono hA3.size)
  have HSB3 := Lib.hid (HS2.out.up hAB3 (Nat.le_refl _))
  have HBB3 : Hid (Below w.heap.size w wB3) := HB2.out.trans (hAB3.mono HB2.out.size)
  have HX2B3 := Lib.hid (HX2.out.up hAB3 (Nat.le_refl _))
  have HIN3 := Lib.hid hBB3
  clear hA3 hAB3 hbA3 hlA3 hcB3 hqB3 hBB3 hlB3
  go_wp2_with fail
  refine (HSE.out w.heap.size s m _ _ _ cB3 px wB3 HX.out.1 HBB3.out.size HSB3.out HIN3.out).mono ?_
  rintro r wC3 ⟨qC3, M3, T3, rfl, hst3, hqC3, hxC3, hSC3, hlC3, hkC3⟩
  obtain ⟨rfl, hT3⟩ := stp_again hst3
  rw [if_pos rfl] at hT3
  subst hT3
  rw [← HXS.out] at hxC3
  have HS3 := Lib.hid hSC3
  have HB3 : Hid (Below w.heap.size w wC3) := HBB3.out.trans hlC3
  have HX3 : Hid (BytesAt wC3 (some ⟨qC2, 0, none⟩) 256 XS) := bytes_seal HSB3.out HX2B3.out (by rw [HXN.out]; omega) hkC3
  have HY3 : Hid (BytesAt wC3 (some ⟨qC3, 0, none⟩) 256 XS) := by have := bytesAt_block HXL.out hxC3; rw [HXN.out] at this; exact this
  clear hst3 hqC3 hxC3 hSC3 hlC3 hkC3 HS2 HB2 HX2 HBB3 HSB3 HIN3 HX2B3
  go_wp2_with fail
  refine (stwice_c wC3 HS3.out).mono ?_
  rintro r wT4 ⟨rfl, hbT4⟩
  have HST4 := Lib.hid (HS3.out.up hbT4 (Nat.le_refl _))
  have HBT4 : Hid (Below w.heap.size w wT4) := HB3.out.trans (hbT4.mono HB3.out.size)
  have HX3T4 := Lib.hid (HX3.out.up hbT4 (Nat.le_refl _))
  have HY3T4 := Lib.hid (HY3.out.up hbT4 (Nat.le_refl _))
  clear hbT4 HS3 HB3 HX3 HY3
  go_wp2_with (first | (refine wpList_store_row rfl 38 (.tmp 6) (.tmp 31) rfl wT4.heap.size #[.int .u64 0, .int .i64 0] rfl rfl 38 _ (heap_new' _ _) (by rw [two85]; rfl) (by rfl) (by simp [Value.oneCell']) ?_; generalize hW : World.setRow _ _ _ = w4; have HN4 : Hid (w4.heap[wT4.heap.size]? = some (.cells #[.int .u64 0, .int .i64 0] 38 (0, 0))) := (by rw [← hW]; exact setRow_heap _ _ _ _ _ _ (heap_new' _ _)); have hl4 : Below wT4.heap.size wT4 w4 := (by rw [← hW]; exact below_setRow ((Below.refl _ _).alloc (Nat.le_refl _) _) (Nat.le_refl _) _); clear hW; have HS4 := Lib.hid (HST4.out.up hl4 (Nat.le_refl _)); have HB4 : Hid (Below w.heap.size w w4) := HBT4.out.trans (hl4.mono HBT4.out.size); have HX3_4 := Lib.hid (HX3T4.out.up hl4 (Nat.le_refl _)); have HY3_4 := Lib.hid (HY3T4.out.up hl4 (Nat.le_refl _)); clear hl4 HST4 HBT4 HX3T4 HY3T4) | (refine wpList_same rfl (.tmp 34) rfl w4.heap.size 121 (by omega) rfl (heap_new' _ _) ?_; intro wA5 hbA5 hlA5) | fail)
  have hA5 : Below w4.heap.size w4 wA5 := ((Below.refl _ _).alloc (Nat.le_refl _) _).trans (hlA5 _ (Nat.le_refl _))
  refine (HFY.out _ wA5 hbA5).mono ?_
  rintro e wB5 ⟨qB5, cB5, rfl, hcB5, hqB5, hBB5, hlB5⟩
  have hAB5 : Below w4.heap.size w4 wB5 := hA5.trans (hlB5.mono hA5.size)
  have HSB5 := Lib.hid (HS4.out.up hAB5 (Nat.le_refl _))
  have HBB5 : Hid (Below w.heap.size w wB5) := HB4.out.trans (hAB5.mono HB4.out.size)
  have HX3B5 := Lib.hid (HX3_4.out.up hAB5 (Nat.le_refl _))
  have HY3B5 := Lib.hid (HY3_4.out.up hAB5 (Nat.le_refl _))
  have HIN5 := Lib.hid hBB5
  clear hA5 hAB5 hbA5 hlA5 hcB5 hqB5 hBB5 hlB5
  go_wp2_with fail
  refine (HSE.out w.heap.size s m _ _ _ cB5 py wB5 HX.out.2 HBB5.out.size HSB5.out HIN5.out).mono ?_
  rintro r wC5 ⟨qC5, M5, T5, rfl, hst5, hqC5, hxC5, hSC5, hlC5, hkC5⟩
  obtain ⟨rfl, hT5⟩ := stp_again hst5
  rw [if_neg HN.out] at hT5
  subst hT5
  have HS5 := Lib.hid hSC5
  have HB5 : Hid (Below w.heap.size w wC5) := HBB5.out.trans hlC5
  have HX5 : Hid (BytesAt wC5 (some ⟨qC2, 0, none⟩) 256 XS) := bytes_seal HSB5.out HX3B5.out (by rw [HXN.out]; omega) hkC5
  have HY5 : Hid (BytesAt wC5 (some ⟨qC3, 0, none⟩) 256 XS) := bytes_seal HSB5.out HY3B5.out (by rw [HXN.out]; omega) hkC5
  clear hst5 hqC5 hxC5 hSC5 hlC5 hkC5 HS4 HB4 HX3_4 HY3_4 HBB5 HSB5 HIN5 HX3B5 HY3B5 HN4
  go_wp2_with fail
  refine (stwice_c wC5 HS5.out).mono ?_
  rintro r wT6 ⟨rfl, hbT6⟩
  have HST6 := Lib.hid (HS5.out.up hbT6 (Nat.le_refl _))
  have HBT6 : Hid (Below w.heap.size w wT6) := HB5.out.trans (hbT6.mono HB5.out.size)
  have HX5T6 := Lib.hid (HX5.out.up hbT6 (Nat.le_refl _))
  have HY5T6 := Lib.hid (HY5.out.up hbT6 (Nat.le_refl _))
  clear hbT6 HS5 HB5 HX5 HY5
  go_wp2_with (first
    | (refine wpList_store_row rfl 38 (.tmp 8) (.tmp 41) rfl wT6.heap.size #[.int .u64 1, .int .i64 5] rfl rfl 38 _ (heap_new' _ _) (by rw [two85]; rfl) (by rfl) (by simp [Value.oneCell']) ?_; generalize hW : World.setRow _ _ _ = w6; have HN6 : Hid (w6.heap[wT6.heap.size]? = some (.cells #[.int .u64 1, .int .i64 5] 38 (0, 0))) := (by rw [← hW]; exact setRow_heap _ _ _ _ _ _ (heap_new' _ _)); have hl6 : Below wT6.heap.size wT6 w6 := (by rw [← hW]; exact below_setRow ((Below.refl _ _).alloc (Nat.le_refl _) _) (Nat.le_refl _) _); clear hW; have HS6 := Lib.hid (HST6.out.up hl6 (Nat.le_refl _)); have HB6 : Hid (Below w.heap.size w w6) := HBT6.out.trans (hl6.mono HBT6.out.size); have HX5_6 := Lib.hid (HX5T6.out.up hl6 (Nat.le_refl _)); have HY5_6 := Lib.hid (HY5T6.out.up hl6 (Nat.le_refl _)); clear hl6 HST6 HBT6 HX5T6 HY5T6; have n0 : w6.cell? ⟨wT6.heap.size, 0, none⟩ = some (.int .u64 1) := (by rw [cells_at HN6.out 0]; rfl); have n1 : w6.cell? ⟨wT6.heap.size, 1, none⟩ = some (.int .i64 5) := (by rw [cells_at HN6.out 1]; rfl))
    | (refine wpList_conv_g (by rfl) (.tmp 55) HXN.out HX5_6.out rfl rfl ?_)
    | (refine wpList_conv_g (by rfl) (.tmp 57) HXN.out HY5_6.out rfl rfl ?_)
    | (refine wpList_eqs_g (by rfl) (.tmp 56) (.tmp 58) 9 XS HXL.out rfl rfl rfl ?_)
    | fail)
  go_ret
  exact ⟨rfl, HB6.out⟩
end Go.Proofs.Ytjclofkkpgdjnaa
