/- Texts SealC, put together by pack.py. -/
import Derived.Test.YtinjafacnekkcaaSPk
import Derived.Test.YtinjafacnekkcaaSPi
import Derived.Test.YtinjafacnekkcaaSPf
set_option linter.unusedVariables false
set_option linter.unusedSimpArgs false
namespace Go.Proofs.Ytinjafacnekkcaa
open Go Go.RowKit GfM
abbrev MapM := List ((Nat × Nat) × List Nat)
/-- what a call of Seal makes of what is known -/
def SStp (M : MapM) (T : Option (Nat × Nat)) (n : Nat × Nat) (p : List Nat) (M' : MapM) (T' : Option (Nat × Nat)) : Prop :=
  ((∀ x ∈ M, x.1 ≠ n) ∧ M' = M ++ [(n, p)] ∧ T' = T) ∨ ((∃ x ∈ M, x.1 = n ∧ ((x.2 = p ∧ T' = T) ∨ (x.2 ≠ p ∧ T' = (T.or (some n))))) ∧ M' = M)
theorem info85 : (Try.prog.info? 42).map (fun i => (i.zero, i.size, i.bytes)) = some (some (.agg #[.int .u64 0, .int .i64 0]), 2, 16) := by kernel_rfl
theorem two85 : (Try.prog.info? 42).map (·.size) = some 2 := by kernel_rfl
theorem wp_mapput {o : Oper} {a : Act} {w w' : World} {K : Act → World → Prop} {Q : Exit → Act → World → Prop} (mo x v : Operand) (m : Nat) (n : Nat × Nat) (q cp : Nat) (ho : o.op = .mapUpdate 71 mo x v)
    (hm : a.eval mo = .map (some m)) (hx : a.eval x = nonV n) (hv : a.eval v = entV q cp) (hrun : (Instr.mapUpdate 71 (.map (some m)) (nonV n) (entV q cp)).run Try.prog w = .ok () w') (hK : K (a.put o.dst undef) w') : o.wp Try.prog a w K Q := by
  unfold Oper.wp
  simp [execOp, ho, hm, hx, hv, hrun, Result.andThen]
  exact hK
theorem quiet_look {ops : Array Oper} {C : World → Prop} {Q : Act → Prop} {rest : List Oper} {o : Oper} {a : Act} (hgd : Region.wanted o (yielded ops a.tmps) = true) (mo x : Operand) (ho : o.op = .lookup 71 mo x true)
    (m : Nat) (n : Nat × Nat) (r : Value) (hm : a.eval mo = .map (some m)) (hx : a.eval x = nonV n) (hrun : ∀ w, C w → (Instr.lookup 71 (.map (some m)) (nonV n) true).run Try.prog w = .ok r w)
    (h : wpQuiet Try.prog ops C Q rest (a.put o.dst r)) : wpQuiet Try.prog ops C Q (o :: rest) a :=
  wpQuiet_step fun K hK => by
    rw [if_pos hgd]
    refine ⟨r, fun w hw => ?_, hK _ h⟩
    unfold Oper.quietAt execOp
    simp only [ho, hm, hx, Sem.run_bind, hrun w hw, Result.andThen_ok]
    exact ⟨rfl, rfl⟩
/-- but for one block -/
def But (B m : Nat) (w w' : World) : Prop := Below B w w' ∧ ∀ k, k < w.heap.size → k ≠ m → w'.heap[k]? = w.heap[k]?
theorem But.refl (B m : Nat) (w : World) : But B m w w := ⟨Below.refl _ _, fun _ _ _ => rfl⟩
theorem But.trans {B m : Nat} {a b c : World} (h : But B m a b) (k : But B m b c) : But B m a c :=
  ⟨h.1.trans k.1, fun i hi hne => (k.2 i (Nat.lt_of_lt_of_le hi h.1.size) hne).trans (h.2 i hi hne)⟩
theorem But.of_below {B m : Nat} {a b : World} (h : Below a.heap.size a b) (hB : B ≤ a.heap.size) : But B m a b := ⟨h.mono hB, fun k hk _ => h.block k hk⟩
theorem But.of_grown {B m : Nat} {a b : World} (h : a.grownBy b (some m)) (hB : B ≤ a.heap.size) (hm : B ≤ m) : But B m a b :=
  ⟨(Below.refl B a).grown h hB (fun k e => by cases e; exact hm), fun k hk hne => h.block k hk (fun e => hne (by simpa using e))⟩
theorem Slr.cell {w : World} {B s m : Nat} {key : List Nat} {M : MapM} {T : Option (Nat × Nat)} (h : Slr w B s m key M T) : ∃ c tv, w.heap[s]? = some (.cells #[.pointer (some ⟨c, 0, none⟩), .map (some m), tv] 73 (0, 0)) ∧ TwIs w tv T := by
  obtain ⟨⟨c, tv, h1, _, h3⟩, _⟩ := h
  exact ⟨c, tv, h1, h3⟩
theorem Cip.keep {w w' : World} {c b g n cap r : Nat} {W : List Nat} (h : Cip w c b g n cap r W) (hk : ∀ k A t z, w.heap[k]? = some (.cells A t z) → k = c ∨ k = b ∨ k = g → w'.heap[k]? = w.heap[k]?) : Cip w' c b g n cap r W := by
  obtain ⟨h1, h2, h3, h3a, h3b, ⟨A, h4, h4b, h5⟩, h6⟩ := h
  exact ⟨(hk _ _ _ _ h1 (by simp)).trans h1, (hk _ _ _ _ h2 (by simp)).trans h2, h3, h3a, h3b, ⟨A, (hk _ _ _ _ h4 (by simp)).trans h4, h4b, h5⟩, h6⟩
theorem range_row {w : World} {g : Nat} {A : Array Value} {t : TypeId} (h : w.heap[g]? = some (.cells A t (0, 0))) : w.rangeAt g 0 A.toList := by
  intro j v hv
  rw [Nat.zero_add, cells_at h j]
  rw [Array.getElem?_toList] at hv
  exact hv
theorem bytes_keepo {w w' : World} {q o cap : Nat} {l : List Nat} (hB : BytesAt w (some ⟨q, o, none⟩) cap l) (he : w'.heap[q]? = w.heap[q]?) : BytesAt w' (some ⟨q, o, none⟩) cap l := by
  refine ⟨hB.1, fun h0 => ?_⟩
  obtain ⟨g, o, h1, h2, h3, h4⟩ := hB.2 h0
  cases h1
  refine ⟨_, _, rfl, h2, ?_, fun j hj => ?_⟩
  · have := he.trans (Array.getElem?_eq_getElem h3)
    exact (Array.getElem?_eq_some_iff.1 this).1
  · rw [← h4 j hj]; simp [World.cell?, he]
/-- bytes lie neither in a map nor in a sealer -/
theorem bytes_apart {w : World} {q o cap : Nat} {l : List Nat} (hB : BytesAt w (some ⟨q, o, none⟩) cap l) (hl : 4 < l.length) {k : Nat} {ob : Obj} (hk : w.heap[k]? = some ob) (h : (∃ es c, ob = .map es c) ∨ ∃ A t z, ob = .cells A t z ∧ A.size = 3) : q ≠ k := by
  rintro rfl
  obtain ⟨g, o, h1, h2, h3, h4⟩ := hB.2 (by omega)
  cases h1
  have := h4 4 hl
  rcases h with ⟨es, c, rfl⟩ | ⟨A, t, z, rfl, hA⟩
  · simp [World.cell?, hk] at this
  · rw [cells_at hk (o + 4)] at this
    have := (Array.getElem?_eq_some_iff.1 this).1
    omega
/-- another map -/
theorem Slr.setMap {w w' : World} {B s m : Nat} {key : List Nat} {M M' : MapM} {T : Option (Nat × Nat)} (h : Slr w B s m key M T) (hb : w.grownBy w' (some m)) (hm : MapIs w' m M') : Slr w' B s m key M' T := by
  obtain ⟨⟨c, tv, h1, ⟨b, g, n, cp, hC⟩, h3⟩, h4, h5, h6⟩ := h
  obtain ⟨es, clock, hbm, _⟩ := h4
  have hne : ∀ (k : Nat) o, w.heap[k]? = some o → (∀ es c, o ≠ .map es c) → w'.heap[k]? = w.heap[k]? := fun k o hk ho => by
    refine hb.block k (Array.getElem?_eq_some_iff.1 hk).1 (fun e => ?_)
    have : k = m := by simpa using e
    subst this
    rw [hbm] at hk
    cases hk
    exact ho _ _ rfl
  refine ⟨⟨c, tv, (hne s _ h1 (by intro _ _ h; cases h)).trans h1, ⟨b, g, n, cp, ?_⟩, ?_⟩, hm, h5, h6⟩
  · exact hC.keep (fun k A t z hk _ => hne k _ hk (by intro _ _ h; cases h))
  · cases T with
    | none => exact h3
    | some x =>
      obtain ⟨g', cp', e1, e2, e3, e4⟩ := h3
      have e5 : w'.heap[g']? = w.heap[g']? := by
        obtain ⟨o, ho⟩ : ∃ o, w.heap[g']? = some o := ⟨_, Array.getElem?_eq_getElem e2⟩
        refine hne g' o ho (fun es c he => ?_)
        subst he
        simp [World.cell?, ho] at e3
      refine ⟨g', cp', e1, Nat.lt_of_lt_of_le e2 hb.size, ?_, ?_⟩
      · rw [← e3]; simp [World.cell?, e5]
      · rw [← e4]; simp [World.cell?, e5]
/-- another slice of what was told -/
theorem Slr.setTw {w : World} {B s m : Nat} {key : List Nat} {M : MapM} {T : Option (Nat × Nat)} (h : Slr w B s m key M T) {g cp : Nat} {n : Nat × Nat} (hg : g < w.heap.size) (hgs : g ≠ s)
    (h0 : w.cell? ⟨g, 0, none⟩ = some (.int .u64 (n.1 : Int))) (h1' : w.cell? ⟨g, 1, none⟩ = some (.int .i64 (n.2 : Int))) : Slr (w.setCell ⟨s, 2, none⟩ (.slice (some ⟨g, 0, none⟩) 1 cp)) B s m key M (some n) := by
  obtain ⟨⟨c, tv, h1, ⟨b, g', n', cp', hC⟩, h3⟩, h4, h5, h6⟩ := h
  have hoth : ∀ k, k ≠ s → (w.setCell ⟨s, 2, none⟩ (.slice (some ⟨g, 0, none⟩) 1 cp)).heap[k]? = w.heap[k]? := fun k hk => Below.heap_setCell _ _ _ _ hk
  have hsz : (w.setCell ⟨s, 2, none⟩ (.slice (some ⟨g, 0, none⟩) 1 cp)).heap.size = w.heap.size := by simp [World.setCell]
  have hb := block_at h1 2 (.slice (some ⟨g, 0, none⟩) 1 cp)
  refine ⟨⟨c, .slice (some ⟨g, 0, none⟩) 1 cp, hb, ⟨b, g', n', cp', ?_⟩, g, cp, rfl, by rw [hsz]; exact hg, ?_, ?_⟩, ?_, h5, h6⟩
  · refine hC.keep (fun k A t z hk hor => hoth k ?_)
    rintro rfl
    rcases hor with rfl | rfl | rfl
    · have := hC.fcells; rw [h1] at this; cases this
    · have := hC.fbox; unfold IsBox at this; rw [h1] at this; injection this with this; injection this with _ ht _; exact absurd ht (by decide)
    · obtain ⟨A', hA', _⟩ := hC.fwords; rw [h1] at hA'; cases hA'
  · rw [← h0]; simp [World.cell?, hoth g hgs]
  · rw [← h1']; simp [World.cell?, hoth g hgs]
  · obtain ⟨es, clock, e1, e2, e3, e4⟩ := h4
    refine ⟨es, clock, (hoth m ?_).trans e1, e2, fun i e x he hx => ?_, e4⟩
    · rintro rfl; rw [h1] at e1; cases e1
    · have hE := e3 i e x he hx
      obtain ⟨q, cq, hv, hB⟩ := hE.val
      exact ⟨hE.key, hE.rng, ⟨q, cq, hv, bytes_keepo hB (hoth q (bytes_apart hB (by have := hE.len; omega) h1 (.inr ⟨_, _, _, rfl, rfl⟩)))⟩, hE.len⟩
set_option maxRecDepth 100000 in
set_option maxHeartbeats 8000000 in
theorem seal_c {B s m : Nat} {key : List Nat} {M : MapM} {T : Option (Nat × Nat)} (hkl : key.length = 16 ∨ key.length = 32) (e b : Nat) (he : e < 18446744073709551616) (hb : b < 65536) (a : Option Addr) (cap : Nat) (p : List Nat) (hp : p.length = 256) (w : World) (hBs : B ≤ w.heap.size)
    (hS : Slr w B s m key M T) (hB : BytesAt w a cap p) :
    Calls Try.prog 16 #[.pointer (some ⟨s, 0, none⟩), .int .u64 (e : Int), .int .i64 (b : Int), .slice a 256 cap] w fun r w' =>
      ∃ q M' T', r = .returned (.tuple #[.slice (some ⟨q, 0, none⟩) 256 256, .int .i64 0]) ∧ SStp M T (e, b) p M' T' ∧ w.heap.size ≤ q ∧ w'.heap[q]? = some (.cells (bA (xorL p (strL key e b 256))) 5 (0, 0)) ∧ Slr w' B s m key M' T' ∧ Below B w w' ∧ (∀ k, k < w.heap.size → k ≠ s → k ≠ m → w'.heap[k]? = w.heap[k]?) := by
  obtain ⟨qa, oa, rfl⟩ : ∃ qa oa, a = some ⟨qa, oa, none⟩ := by
    obtain ⟨g, o, h, _⟩ := hB.2 (by omega)
    exact ⟨g, o, h⟩
  have hend : ∀ (Wz : World) (M' : MapM) (T' : Option (Nat × Nat)), Slr Wz B s m key M' T' → BytesAt Wz (some ⟨qa, oa, none⟩) cap p → ∃ c', Wz.cell? ⟨s, 0, none⟩ = some (.pointer (some ⟨c', 0, none⟩)) ∧
      Hid (Calls Try.prog 33 #[.pointer (some ⟨c', 0, none⟩), .int .u64 (e : Int), .int .u32 (b : Int), .slice (some ⟨qa, oa, none⟩) 256 cap] Wz fun r w' =>
        ∃ q, r = .returned (.slice (some ⟨q, 0, none⟩) 256 256) ∧ Wz.heap.size ≤ q ∧ w'.heap[q]? = some (.cells (bA (xorL p (strL key e b 256))) 5 (0, 0)) ∧ Below Wz.heap.size Wz w') := by
    intro Wz M' T' h hB'
    obtain ⟨⟨c', tv, h1, ⟨bx, g, n, cp, hC⟩, hT⟩, _⟩ := h
    exact ⟨c', (cells_at h1 0).trans rfl, apply_c hkl e b he (by omega) _ cap p 256 hp (by omega) Wz hC hB'⟩
  have e1 : IntKind.u32.wrap (b : Int) = (b : Int) := by rw [IntKind.wrap_u32]; omega
  have HEND := Lib.hid hend
  have HBS := Lib.hid hBs
  have HS := Lib.hid hS
  have HB := Lib.hid hB
  have HP := Lib.hid hp
  have HBB := Lib.hid hb
  have HE := Lib.hid he
  clear hend hkl hBs hS hB hp he hb
  go_enter Try.func16, Try.ntmps16
  go_wp2_with fail
  refine (may_c s b HBB.out _ cap w).mono ?_
  rintro r w' ⟨rfl, rfl⟩
  go_wp2_with (first
    | (refine wpList_store_row rfl 42 (.tmp 11) (.tmp 23) rfl w.heap.size #[.int .u64 (e : Int), .int .i64 (b : Int)] rfl rfl 42 _ (heap_new' _ _) (by rw [two85]; rfl) (by rfl) (by simp [Value.oneCell']) ?_; generalize hW5 : World.setRow _ _ _ = W5; have HN5 : Hid (W5.heap[w.heap.size]? = some (.cells #[.int .u64 (e : Int), .int .i64 (b : Int)] 42 (0, 0))) := (by rw [← hW5]; exact setRow_heap _ _ _ _ _ _ (heap_new' _ _)); have HB5 : Hid (Below w.heap.size w W5) := (by rw [← hW5]; exact below_setRow ((Below.refl _ _).alloc (Nat.le_refl _) _) (Nat.le_refl _) _); clear hW5)
    | fail)
  obtain ⟨WD, hWD⟩ : ∃ WD, WD = W5.drew := ⟨_, rfl⟩
  have HBD : Hid (Below w.heap.size w WD) := by rw [hWD]; exact HB5.out.drew
  have HND : Hid (WD.heap[w.heap.size]? = some (.cells #[.int .u64 (e : Int), .int .i64 (b : Int)] 42 (0, 0))) := by rw [hWD]; exact HN5.out
  have HSD : Hid (Slr WD B s m key M T) := HS.out.up HBD.out (Nat.le_refl _)
  have HPD : Hid (BytesAt WD (some ⟨qa, oa, none⟩) cap p) := HB.out.up HBD.out (Nat.le_refl _)
  obtain ⟨f, hf⟩ : ∃ f : Unit → World, ∀ u, f u = WD := ⟨fun _ => WD, fun _ => rfl⟩
  obtain ⟨cc, tv, hblk, htw⟩ := HSD.out.cell
  have HBLK := Lib.hid hblk
  have HTW := Lib.hid htw
  have c1 : ∀ u, (f u).cell? ⟨s, 1, none⟩ = some (.map (some m)) := fun u => by rw [hf]; exact (cells_at HBLK.out 1).trans rfl
  have HKN : Hid (∀ u, (f u).heap[w.heap.size]? = some (.cells #[.int .u64 (e : Int), .int .i64 (b : Int)] 42 (0, 0))) := fun u => by rw [hf]; exact HND.out
  have HF := Lib.hid hf
  have HF0 : Hid (∃ u, W5.drew = f u) := ⟨(), by rw [hf, hWD]⟩
  clear hblk htw hf hWD HN5 HB5
  rcases run_look HSD.out.map (e, b) HE.out (by have := HBB.out; simp only []; omega) with ⟨hrun, hno⟩ | ⟨x, hx, hxn, hxl, qx, cpx, hBx, hrun⟩
  · have HRUN : Hid (∀ w', (∃ u, w' = f u) → (Instr.lookup 71 (.map (some m)) (nonV (e, b)) true).run Try.prog w' = .ok (.tuple #[.slice none 0 0, .bool false]) w') := by
      rintro _ ⟨u, rfl⟩; rw [HF.out]; exact hrun
    have HNO := Lib.hid hno
    clear hrun hno
    refine wp_region_quiet (C := fun w' => ∃ u, w' = f u) (by kernel_rfl) (by kernel_rfl) HF0.out ?_
    try simp only [Act.put, List.setIfInBounds_toArray, List.set_cons_succ, List.set_cons_zero]
    repeat first
      | (refine quiet_row rfl 42 (.tmp 11) rfl w.heap.size rfl 42 #[.int .u64 (e : Int), .int .i64 (b : Int)] (0, 0) _ (by rintro _ ⟨x, rfl⟩; exact HKN.out x) Try.underlying42 rfl (by rw [two85]; rfl) ?_; simp only [Act.put, List.setIfInBounds_toArray, List.set_cons_succ, List.set_cons_zero])
      | (refine quiet_look rfl (.tmp 28) (.tmp 29) rfl m (e, b) (.tuple #[.slice none 0 0, .bool false]) rfl rfl HRUN.out ?_; simp only [Act.put, List.setIfInBounds_toArray, List.set_cons_succ, List.set_cons_zero])
      | go_big_quiet_step (fail)
    refine wpQuiet_nil ?_
    rintro _ ⟨u0, rfl⟩
    rw [HF.out]
    clear HKN c1 HF0 HRUN HF
    go_wp2
    have hSE : Slr WD.drew B s m key M T := HSD.out.up (Below.refl _ _).drew (Nat.le_refl _)
    have hPE : BytesAt WD.drew (some ⟨qa, oa, none⟩) cap p := HPD.out
    have hne : s ≠ m := by rintro rfl; obtain ⟨es, clock, h, _⟩ := HSD.out.map; rw [HBLK.out] at h; cases h
    have HC1 : Hid (∀ w', But B m WD w' → w'.cell? ⟨s, 1, none⟩ = some (.map (some m))) := fun w' h => (cells_at ((h.2 s (lt_of_block HBLK.out) hne).trans HBLK.out) 1).trans rfl
    have hnm : w.heap.size ≠ m := by have := HS.out.map.lt; omega
    have HCN : Hid (∀ w', But B m WD w' → w'.rangeAt w.heap.size 0 (#[.int .u64 (e : Int), .int .i64 (b : Int)] : Array Value).toList) := fun w' h => range_row ((h.2 _ (lt_of_block HND.out) hnm).trans HND.out)
    have hS0 : But B m WD WD.drew := ⟨(Below.refl _ _).drew, fun _ _ _ => rfl⟩
    have hle0 : B ≤ WD.drew.heap.size := Nat.le_trans HBS.out HBD.out.size
    refine wp_region_held_drew (S := fun w' => But B m WD w') (by kernel_rfl) hS0 ?_
    intro hS
    clear hS0 hS
    have hS : But B m WD WD.drew := ⟨(Below.refl _ _).drew, fun _ _ _ => rfl⟩
    generalize WD.drew = WE at hS hSE hPE hle0 ⊢
    change wpAnyH _ _ _ _ _ 8 #[false, false, false, false, false, false, false, false] _ _
    refine wpAnyH_take (i := 0) (v := ?_) rfl (by kernel_rfl) (by kernel_rfl) (by kernel_rfl) (fun _ _ _ h => h) (Or.inl ⟨by rfl, ?hy⟩) hS ?_
    case hy => intro w' hSw; go_simp; try with_reducible rfl
    simp only [List.getElem_toArray, List.getElem_cons_succ, List.getElem_cons_zero, Act.put, List.setIfInBounds_toArray, List.set_cons_zero, List.set_cons_succ]
    change wpAnyH _ _ _ _ _ 7 #[true, false, false, false, false, false, false, false] _ _
    refine wpAnyH_take (i := 1) (v := ?_) rfl (by kernel_rfl) (by kernel_rfl) (by kernel_rfl) (fun _ _ _ h => h) (Or.inl ⟨by rfl, ?hy⟩) hS ?_
    case hy => intro w' hSw; go_simp; try with_reducible rfl
    simp only [List.getElem_toArray, List.getElem_cons_succ, List.getElem_cons_zero, Act.put, List.setIfInBounds_toArray, List.set_cons_zero, List.set_cons_succ]
    change wpAnyH _ _ _ _ _ 6 #[true, true, false, false, false, false, false, false] _ _
    refine wpAnyH_take (i := 2) (v := ?_) rfl (by kernel_rfl) (by kernel_rfl) (by kernel_rfl) (fun _ _ _ h => h) (Or.inl ⟨by rfl, ?hy⟩) hS ?_
    case hy => intro w' hSw; go_simp; try with_reducible rfl
    simp only [List.getElem_toArray, List.getElem_cons_succ, List.getElem_cons_zero, Act.put, List.setIfInBounds_toArray, List.set_cons_zero, List.set_cons_succ]
    change wpAnyH _ _ _ _ _ 5 #[true, true, true, false, false, false, false, false] _ _
    refine wpAnyH_take (i := 3) (v := ?_) rfl (by kernel_rfl) (by kernel_rfl) (by kernel_rfl) (fun _ _ _ h => h) (Or.inl ⟨by rfl, ?hy⟩) hS ?_
    case hy => intro w' hSw; have hq := HC1.out _ hSw; go_simp; try with_reducible rfl
    simp only [List.getElem_toArray, List.getElem_cons_succ, List.getElem_cons_zero, Act.put, List.setIfInBounds_toArray, List.set_cons_zero, List.set_cons_succ]
    change wpAnyH _ _ _ _ _ 4 #[true, true, true, true, false, false, false, false] _ _
    refine wpAnyH_take (i := 4) rfl (by kernel_rfl) (by kernel_rfl) (by kernel_rfl) (fun _ _ _ h => h) (yieldsIf_load_mid (by rfl) _ _ rfl (w.heap.size) 0 rfl _ _ (fun w' h => HCN.out w' h) Try.underlying42 rfl (by rw [two85]; rfl)) hS ?_
    simp only [List.getElem_toArray, List.getElem_cons_succ, List.getElem_cons_zero, Act.put, List.setIfInBounds_toArray, List.set_cons_zero, List.set_cons_succ]
    change wpAnyH _ _ _ _ _ 3 #[true, true, true, true, true, false, false, false] _ _
    refine wpAnyH_take (i := 5) (v := ?_) rfl (by kernel_rfl) (by kernel_rfl) (by kernel_rfl) (fun _ _ _ h => h) (Or.inl ⟨by rfl, ?hy⟩) hS ?_
    case hy => intro w' hSw; go_simp; try with_reducible rfl
    simp only [List.getElem_toArray, List.getElem_cons_succ, List.getElem_cons_zero, Act.put, List.setIfInBounds_toArray, List.set_cons_zero, List.set_cons_succ]
    change wpAnyH _ _ _ _ _ 2 #[true, true, true, true, true, true, false, false] _ _
    refine wpAnyH_ready (rs := [6]) (by kernel_rfl) (by simp) ?_
    refine AllReadyH.cons rfl (fun K hK => ?_) AllReadyH.nil
    rw [if_pos (by rfl)]
    go_simp
    refine (clone_c qa oa cap 256 p HP.out (by omega) WE hPE (by omega)).mono ?_
    rintro r w6 ⟨g6, cp6, rfl, hg6, hB6, hb6⟩
    refine hK.out _ _ (hS.trans (But.of_below hb6 hle0)) (fun hS6 => ?_)
    clear hK K
    simp only [List.getElem_toArray, List.getElem_cons_succ, List.getElem_cons_zero, Act.put, List.setIfInBounds_toArray, List.set_cons_zero, List.set_cons_succ]
    change wpAnyH _ _ _ _ _ 1 #[true, true, true, true, true, true, true, false] _ _
    obtain ⟨w7, hrun7, hM7, hgr7⟩ := run_put (hSE.map.up hb6 (Nat.le_refl _)) (e, b) HE.out (by have := HBB.out; simp only []; omega) HNO.out g6 cp6 p HP.out hB6 (by have := hSE.map.lt; omega)
    refine wpAnyH_ready (rs := [7]) (by kernel_rfl) (by simp) ?_
    refine AllReadyH.cons rfl (fun K hK => ?_) AllReadyH.nil
    rw [if_pos (by rfl)]
    refine wp_mapput (.tmp 39) (.tmp 40) (.tmp 42) m (e, b) g6 cp6 rfl rfl rfl rfl hrun7 ?_
    refine hK.out _ _ (hS6.trans (But.of_grown hgr7 (Nat.le_trans hle0 hb6.size) hSE.mm)) (fun hS7 => ?_)
    clear hK K
    simp only [List.getElem_toArray, List.getElem_cons_succ, List.getElem_cons_zero, Act.put, List.setIfInBounds_toArray, List.set_cons_zero, List.set_cons_succ]
    change wpAnyH _ _ _ _ _ 0 #[true, true, true, true, true, true, true, true] _ _
    refine wpAnyH_done (by kernel_rfl) ?_ _
    have HSL : Hid (Slr w7 B s m key (M ++ [((e, b), p)]) T) := (hSE.up hb6 (Nat.le_refl _)).setMap hgr7 hM7
    have hqm : qa ≠ m := by obtain ⟨es, clock, h, _⟩ := HSD.out.map; exact bytes_apart HPD.out (by rw [HP.out]; omega) h (.inl ⟨_, _, rfl⟩)
    have HPZ : Hid (BytesAt w7 (some ⟨qa, oa, none⟩) cap p) := bytes_keepo HPD.out (hS7.2 qa (by obtain ⟨g, o, h1, _, h3, _⟩ := HPD.out.2 (by rw [HP.out]; omega); cases h1; exact h3) hqm)
    have HFZ : Hid (Below B w w7) := (HBD.out.mono HBS.out).trans hS7.1
    have HKZ : Hid (∀ k, k < w.heap.size → k ≠ s → k ≠ m → w7.heap[k]? = w.heap[k]?) := fun k hk _ h2 => (hS7.2 k (Nat.lt_of_lt_of_le hk HBD.out.size) h2).trans (HBD.out.block k hk)
    have HSZ7 : Hid (w.heap.size ≤ w7.heap.size) := Nat.le_trans HBD.out.size hS7.1.size
    clear hS7 hgr7 hM7 hrun7 hS6 hb6 hB6 hg6 hPE hSE hS hle0
    obtain ⟨c', hc', hap⟩ := HEND.out w7 _ _ HSL.out HPZ.out
    go_wp2_with fail
    refine hap.out.mono ?_
    rintro r w9 ⟨q, rfl, hq, hq2, hb9⟩
    have HQ := Lib.hid (And.intro hq (And.intro hq2 hb9))
    clear hq hq2 hb9
    go_wp2
    go_ret2
    exact ⟨q, _, _, rfl, .inl ⟨HNO.out, rfl, rfl⟩, Nat.le_trans HSZ7.out HQ.out.1, HQ.out.2.1, HSL.out.up HQ.out.2.2 (Nat.le_refl _), HFZ.out.trans (HQ.out.2.2.mono (Nat.le_trans HBS.out HSZ7.out)), fun k hk h1 h2 => (HQ.out.2.2.block k (Nat.lt_of_lt_of_le hk HSZ7.out)).trans (HKZ.out k hk h1 h2)⟩
  · have HRUN : Hid (∀ w', (∃ u, w' = f u) → (Instr.lookup 71 (.map (some m)) (nonV (e, b)) true).run Try.prog w' = .ok (.tuple #[entV qx cpx, .bool true]) w') := by
      rintro _ ⟨u, rfl⟩; rw [HF.out]; exact hrun
    have HX := Lib.hid (And.intro hx (And.intro hxn hxl))
    have HBX := Lib.hid hBx
    clear hrun hx hxn hxl hBx
    refine wp_region_quiet (C := fun w' => ∃ u, w' = f u) (by kernel_rfl) (by kernel_rfl) HF0.out ?_
    try simp only [Act.put, List.setIfInBounds_toArray, List.set_cons_succ, List.set_cons_zero]
    repeat first
      | (refine quiet_row rfl 42 (.tmp 11) rfl w.heap.size rfl 42 #[.int .u64 (e : Int), .int .i64 (b : Int)] (0, 0) _ (by rintro _ ⟨x, rfl⟩; exact HKN.out x) Try.underlying42 rfl (by rw [two85]; rfl) ?_; simp only [Act.put, List.setIfInBounds_toArray, List.set_cons_succ, List.set_cons_zero])
      | (refine quiet_look rfl (.tmp 28) (.tmp 29) rfl m (e, b) (.tuple #[entV qx cpx, .bool true]) rfl rfl HRUN.out ?_; simp only [Act.put, List.setIfInBounds_toArray, List.set_cons_succ, List.set_cons_zero])
      | go_big_quiet_step (fail)
    refine wpQuiet_nil ?_
    rintro _ ⟨u0, rfl⟩
    rw [HF.out]
    clear HKN c1 HF0 HRUN HF
    have hc2 : WD.cell? ⟨s, 2, none⟩ = some tv := (cells_at HBLK.out 2).trans rfl
    obtain ⟨c', hc', hap⟩ := HEND.out WD _ _ HSD.out HPD.out
    by_cases heq : x.2 = p
    · have hde : decide (x.2 = p) = true := by simp [heq]
      have HEQ := Lib.hid heq
      clear heq
      go_wp2_with fail
      refine (equal_c (some ⟨qx, 0, none⟩) (some ⟨qa, oa, none⟩) cpx cap 256 x.2 p HX.out.2.2 HP.out WD HBX.out HPD.out).mono ?_
      rintro r w' ⟨rfl, rfl⟩
      go_wp2_with fail
      refine hap.out.mono ?_
      rintro r w9 ⟨q, rfl, hq, hq2, hb9⟩
      have HQ := Lib.hid (And.intro hq (And.intro hq2 hb9))
      clear hq hq2 hb9
      go_wp2
      go_ret2
      exact ⟨q, _, _, rfl, .inr ⟨⟨x, HX.out.1, HX.out.2.1, .inl ⟨HEQ.out, rfl⟩⟩, rfl⟩, Nat.le_trans HBD.out.size HQ.out.1, HQ.out.2.1, HSD.out.up HQ.out.2.2 (Nat.le_refl _), (HBD.out.trans (HQ.out.2.2.mono HBD.out.size)).mono HBS.out, fun k hk h1 h2 => (HQ.out.2.2.block k (Nat.lt_of_lt_of_le hk HBD.out.size)).trans (HBD.out.block k hk)⟩
    · have hde : decide (x.2 = p) = false := by simp [heq]
      have HEQ := Lib.hid heq
      clear heq
      cases T with
      | some y =>
        obtain ⟨gt, cpt, htv, _⟩ := HTW.out
        subst htv
        go_wp2_with fail
        refine (equal_c (some ⟨qx, 0, none⟩) (some ⟨qa, oa, none⟩) cpx cap 256 x.2 p HX.out.2.2 HP.out WD HBX.out HPD.out).mono ?_
        rintro r w' ⟨rfl, rfl⟩
        go_wp2_with fail
        refine hap.out.mono ?_
        rintro r w9 ⟨q, rfl, hq, hq2, hb9⟩
        have HQ := Lib.hid (And.intro hq (And.intro hq2 hb9))
        clear hq hq2 hb9
        go_wp2
        go_ret2
        exact ⟨q, _, _, rfl, .inr ⟨⟨x, HX.out.1, HX.out.2.1, .inr ⟨HEQ.out, rfl⟩⟩, rfl⟩, Nat.le_trans HBD.out.size HQ.out.1, HQ.out.2.1, HSD.out.up HQ.out.2.2 (Nat.le_refl _), (HBD.out.trans (HQ.out.2.2.mono HBD.out.size)).mono HBS.out, fun k hk h1 h2 => (HQ.out.2.2.block k (Nat.lt_of_lt_of_le hk HBD.out.size)).trans (HBD.out.block k hk)⟩
      | none =>
        have htv : tv = .slice none 0 0 := HTW.out
        subst htv
        go_wp2_with fail
        refine (equal_c (some ⟨qx, 0, none⟩) (some ⟨qa, oa, none⟩) cpx cap 256 x.2 p HX.out.2.2 HP.out WD HBX.out HPD.out).mono ?_
        rintro r w' ⟨rfl, rfl⟩
        go_wp2
        obtain ⟨i0, hi0, hz0, hz1, hz2⟩ := info_parts info85
        have HNR : Hid (∀ w' : World, w'.heap[w.heap.size]? = WD.heap[w.heap.size]? → w'.rangeAt w.heap.size 0 (#[.int .u64 (e : Int), .int .i64 (b : Int)] : Array Value).toList) := fun w' h2 => range_row (h2.trans HND.out)
        have HCB : Hid (∀ w' : World, w'.heap[s]? = WD.heap[s]? → w'.cell? ⟨s, 2, none⟩ = some (.slice none 0 0)) := fun w' h1 => (cells_at (h1.trans HBLK.out) 2).trans rfl
        have hsl : s < WD.heap.size := lt_of_block HBLK.out
        have hnl : w.heap.size < WD.heap.size := lt_of_block HND.out
        have hns : w.heap.size ≠ s := by have := lt_of_block HS.out.cell.choose_spec.choose_spec.1; omega
        clear hc2 hc' hap
        refine wp_region_held_drew (S := fun w' => w'.rangeAt w.heap.size 0 (#[.int .u64 (e : Int), .int .i64 (b : Int)] : Array Value).toList) (by kernel_rfl) (HNR.out WD.drew rfl) ?_
        intro hS
        have hSE : Slr WD.drew B s m key M none := HSD.out.up (Below.refl _ _).drew (Nat.le_refl _)
        have hsz : WD.drew.heap.size = WD.heap.size := rfl
        have hhp : WD.drew.heap = WD.heap := rfl
        have hown0 : WD.drew.ownsRow WD.heap.size 42 2 (.slice none 0 0) 0 [] := ⟨rfl, .inl ⟨rfl, rfl⟩⟩
        have hbD : Below WD.heap.size WD WD.drew := (Below.refl _ _).drew
        generalize WD.drew = WE at *
        have HSZ := Lib.hid hsz
        have HHP := Lib.hid hhp
        clear hsz hhp
        change wpAnyH _ _ _ _ _ 11 #[false, false, false, false, false, false, false, false, false, false, false] _ _
        refine wpAnyH_take (i := 0) (v := ?_) rfl (by kernel_rfl) (by kernel_rfl) (by kernel_rfl) (fun _ _ _ h => h) (Or.inl ⟨by rfl, ?hy⟩) hS ?_
        case hy => intro w' hSw; go_simp; try with_reducible rfl
        simp only [List.getElem_toArray, List.getElem_cons_succ, List.getElem_cons_zero, Act.put, List.setIfInBounds_toArray, List.set_cons_zero, List.set_cons_succ]
        change wpAnyH _ _ _ _ _ 10 #[true, false, false, false, false, false, false, false, false, false, false] _ _
        refine wpAnyH_take (i := 1) (v := ?_) rfl (by kernel_rfl) (by kernel_rfl) (by kernel_rfl) (fun _ _ _ h => h) (Or.inl ⟨by rfl, ?hy⟩) hS ?_
        case hy => intro w' hSw; go_simp; try with_reducible rfl
        simp only [List.getElem_toArray, List.getElem_cons_succ, List.getElem_cons_zero, Act.put, List.setIfInBounds_toArray, List.set_cons_zero, List.set_cons_succ]
        change wpAnyH _ _ _ _ _ 9 #[true, true, false, false, false, false, false, false, false, false, false] _ _
        refine wpAnyH_take (i := 2) (v := ?_) rfl (by kernel_rfl) (by kernel_rfl) (by kernel_rfl) (fun _ _ _ h => h) (Or.inl ⟨by rfl, ?hy⟩) hS ?_
        case hy => intro w' hSw; go_simp; try with_reducible rfl
        simp only [List.getElem_toArray, List.getElem_cons_succ, List.getElem_cons_zero, Act.put, List.setIfInBounds_toArray, List.set_cons_zero, List.set_cons_succ]
        change wpAnyH _ _ _ _ _ 8 #[true, true, true, false, false, false, false, false, false, false, false] _ _
        refine wpAnyH_take (i := 3) (v := ?_) rfl (by kernel_rfl) (by kernel_rfl) (by kernel_rfl) (fun _ _ _ h => h) (Or.inl ⟨by rfl, ?hy⟩) hS ?_
        case hy => intro w' hSw; go_simp; try with_reducible rfl
        simp only [List.getElem_toArray, List.getElem_cons_succ, List.getElem_cons_zero, Act.put, List.setIfInBounds_toArray, List.set_cons_zero, List.set_cons_succ]
        change wpAnyH _ _ _ _ _ 7 #[true, true, true, true, false, false, false, false, false, false, false] _ _
        refine wpAnyH_take (i := 5) rfl (by kernel_rfl) (by kernel_rfl) (by kernel_rfl) (fun _ _ _ h => h) (yieldsIf_load_mid (by rfl) _ _ rfl (w.heap.size) 0 rfl _ _ (fun w' h => h) Try.underlying42 rfl (by rw [two85]; rfl)) hS ?_
        simp only [List.getElem_toArray, List.getElem_cons_succ, List.getElem_cons_zero, Act.put, List.setIfInBounds_toArray, List.set_cons_zero, List.set_cons_succ]
        change wpAnyH _ _ _ _ _ 6 #[true, true, true, true, false, true, false, false, false, false, false] _ _
        refine wpAnyH_ready (rs := [4, 6]) (by kernel_rfl) (by simp) ?_
        refine AllReadyH.cons rfl (fun K hK => ?_) (AllReadyH.cons rfl (fun K hK => ?_) AllReadyH.nil)
        · have q4 := HCB.out WE (by rw [HHP.out])
          rw [if_pos (by rfl)]
          go_simp
          refine hK.out _ _ (hS) (fun hSa => ?_)
          clear hK K
          simp only [List.getElem_toArray, List.getElem_cons_succ, List.getElem_cons_zero, Act.put, List.setIfInBounds_toArray, List.set_cons_zero, List.set_cons_succ]
          change wpAnyH _ _ _ _ _ 5 #[true, true, true, true, true, true, false, false, false, false, false] _ _
          refine wpAnyH_ready (rs := [6]) (by kernel_rfl) (by simp) ?_
          refine AllReadyH.cons rfl (fun K hK => ?_) AllReadyH.nil
          rw [if_pos (by rfl)]
          go_simp
          have hoa : ∀ q, q < WE.heap.size → (World.alloc WE (.cells #[.int .u64 (e : Int), .int .i64 (b : Int)] 42)).heap[q]? = WE.heap[q]? := fun q hq => heap_old' WE _ q hq
          refine hK.out _ (World.alloc WE (.cells #[.int .u64 (e : Int), .int .i64 (b : Int)] 42)) (HNR.out _ ((hoa _ (by have := HSZ.out; omega)).trans (by rw [HHP.out]))) (fun hSb => ?_)
          clear hK K
          simp only [List.getElem_toArray, List.getElem_cons_succ, List.getElem_cons_zero, Act.put, List.setIfInBounds_toArray, List.set_cons_zero, List.set_cons_succ]
          change wpAnyH _ _ _ _ _ 4 #[true, true, true, true, true, true, true, false, false, false, false] _ _
          refine wpAnyH_ready (rs := [7]) (by kernel_rfl) (by simp) ?_
          refine AllReadyH.cons rfl (fun K hK => ?_) AllReadyH.nil
          have hown1 := World.ownsRow.alloc hown0 (.cells #[.int .u64 (e : Int), .int .i64 (b : Int)] 42)
          have hnew := heap_new' WE (.cells #[.int .u64 (e : Int), .int .i64 (b : Int)] 42)
          refine step_append_lies _ (by rfl) (.tmp 60) (.tmp 62) 39 (by rfl) WD.heap.size 42 i0 _ 2 16 Try.underlying39 hi0 hz0 hz1 hz2 rfl (by have := HSZ.out; omega) (.slice none 0 0) 0 [] (by rfl) hown1 ⟨WE.heap.size, 0, none⟩ 1 1 (#[.int .u64 (e : Int), .int .i64 (b : Int)] : Array Value).toList (by rfl) (by simp) (World.news_of_block hnew) (by simp [Value.oneCell']) (by have := HSZ.out; omega) (by unfold maxLen; omega) (by have := HSZ.out; omega) (by rw [World.size_alloc]; have := HSZ.out; omega) _ rfl ?_
          intro g2 cp2 w3 hown3 hgrow3 hat hlt3
          have hb3 : Below WE.heap.size WE w3 := ((Below.refl _ _).alloc (Nat.le_refl _) _).grown hgrow3 (by rw [World.size_alloc]; have := HSZ.out; omega) (fun q e => by simp [Value.ownBlock] at e)
          have hblk3 : w3.heap[s]? = WD.heap[s]? := (hb3.block s (by have := HSZ.out; omega)).trans (by rw [HHP.out])
          have hnon3 : w3.heap[w.heap.size]? = WD.heap[w.heap.size]? := (hb3.block _ (by have := HSZ.out; omega)).trans (by rw [HHP.out])
          refine hK.out _ _ (HNR.out w3 hnon3) (fun hS7 => ?_)
          clear hK K
          simp only [List.getElem_toArray, List.getElem_cons_succ, List.getElem_cons_zero, Act.put, List.setIfInBounds_toArray, List.set_cons_zero, List.set_cons_succ]
          change wpAnyH _ _ _ _ _ 3 #[true, true, true, true, true, true, true, true, false, false, false] _ _
          refine wpAnyH_take (i := 8) (v := ?_) rfl (by kernel_rfl) (by kernel_rfl) (by kernel_rfl) (fun _ _ _ h => h) (Or.inl ⟨by rfl, ?hy⟩) hS7 ?_
          case hy => intro w' hSw; go_simp; try with_reducible rfl
          simp only [List.getElem_toArray, List.getElem_cons_succ, List.getElem_cons_zero, Act.put, List.setIfInBounds_toArray, List.set_cons_zero, List.set_cons_succ]
          change wpAnyH _ _ _ _ _ 2 #[true, true, true, true, true, true, true, true, true, false, false] _ _
          refine wpAnyH_take (i := 9) (v := ?_) rfl (by kernel_rfl) (by kernel_rfl) (by kernel_rfl) (fun _ _ _ h => h) (Or.inl ⟨by rfl, ?hy⟩) hS7 ?_
          case hy => intro w' hSw; go_simp; try with_reducible rfl
          simp only [List.getElem_toArray, List.getElem_cons_succ, List.getElem_cons_zero, Act.put, List.setIfInBounds_toArray, List.set_cons_zero, List.set_cons_succ]
          change wpAnyH _ _ _ _ _ 1 #[true, true, true, true, true, true, true, true, true, true, false] _ _
          have f3 := free_at (hblk3.trans HBLK.out) 2
          have q3 := HCB.out w3 hblk3
          refine wpAnyH_ready (rs := [10]) (by kernel_rfl) (by simp) ?_
          refine AllReadyH.cons rfl (fun K hK => ?_) AllReadyH.nil
          rw [if_pos (by rfl)]
          go_simp
          try simp only [Nat.zero_add] at hown3 ⊢
          refine hK.out _ _ (HNR.out _ ((Below.heap_setCell _ _ _ _ hns).trans hnon3)) (fun hS10 => ?_)
          clear hK K
          simp only [List.getElem_toArray, List.getElem_cons_succ, List.getElem_cons_zero, Act.put, List.setIfInBounds_toArray, List.set_cons_zero, List.set_cons_succ]
          change wpAnyH _ _ _ _ _ 0 #[true, true, true, true, true, true, true, true, true, true, true] _ _
          refine wpAnyH_done (by kernel_rfl) ?_ _
          obtain ⟨cur, e3, hcur, e2⟩ : ∃ cur, w3.heap[g2]? = some (.cells cur 42 (0, 0)) ∧ cur.toList.take 2 = (#[.int .u64 (e : Int), .int .i64 (b : Int)] : Array Value).toList ∧ WD.heap.size ≤ g2 := by
            rcases hown3.2 with ⟨h, _⟩ | ⟨g', cap', cur, h, e2, e3, e4, e5, e6, e7⟩
            · cases h
            · cases h; exact ⟨cur, e3, by simpa using e7, e2⟩
          have hcc : ∀ j v, (#[.int .u64 (e : Int), .int .i64 (b : Int)] : Array Value).toList[j]? = some v → j < 2 → w3.cell? ⟨g2, j, none⟩ = some v := fun j v hv hj => by
            rw [cells_at e3 j, ← Array.getElem?_toList, ← List.getElem?_take_of_lt hj, hcur]; exact hv
          have hsl3 := (hSE.up hb3 (Nat.le_refl _)).setTw (g := g2) (cp := cp2) (n := (e, b)) (lt_of_block e3) (by have := HSZ.out; omega) (hcc 0 _ rfl (by have := HSZ.out; omega)) (hcc 1 _ rfl (by have := HSZ.out; omega))
          have hbs : Below B w (w3.setCell ⟨s, 2, none⟩ (.slice (some ⟨g2, 0, none⟩) 1 cp2)) := ((HBD.out.mono HBS.out).trans ((hbD.mono (Nat.le_trans HBS.out HBD.out.size)).trans (hb3.mono (by have := HBS.out; have := HBD.out.size; have := HSZ.out; omega)))).setCell (p := ⟨s, 2, none⟩) hSE.ms _
          have hks : ∀ k, k < w.heap.size → k ≠ s → k ≠ m → (w3.setCell ⟨s, 2, none⟩ (.slice (some ⟨g2, 0, none⟩) 1 cp2)).heap[k]? = w.heap[k]? := fun k hk h1 _ => (Below.heap_setCell _ _ _ _ h1).trans ((hb3.block k (by have := HSZ.out; omega)).trans ((by rw [HHP.out] : WE.heap[k]? = WD.heap[k]?).trans (HBD.out.block k hk)))
          have hqs : qa ≠ s := bytes_apart HPD.out (by rw [HP.out]; omega) HBLK.out (.inr ⟨_, _, _, rfl, rfl⟩)
          have hql : qa < WD.heap.size := by obtain ⟨g, o, h1, _, h3, _⟩ := HPD.out.2 (by rw [HP.out]; omega); cases h1; exact h3
          have hpz : BytesAt (w3.setCell ⟨s, 2, none⟩ (.slice (some ⟨g2, 0, none⟩) 1 cp2)) (some ⟨qa, oa, none⟩) cap p := bytes_keepo HPD.out ((Below.heap_setCell _ _ _ _ hqs).trans ((hb3.block qa (by have := HSZ.out; omega)).trans (by rw [HHP.out])))
          have hsz8 : w.heap.size ≤ (w3.setCell ⟨s, 2, none⟩ (.slice (some ⟨g2, 0, none⟩) 1 cp2)).heap.size := hbs.size
          clear hS10 hS7 hcc hcur e3 e2 q3 f3 hnon3 hblk3 hb3 hgrow3 hown3 hown1 hown0 hnew hoa hSE hbD hsl hnl hi0 hz0 hz1 hz2 hqs hql hS q4
          generalize (w3.setCell ⟨s, 2, none⟩ (.slice (some ⟨g2, 0, none⟩) 1 cp2)) = w8 at *
          have HSL := Lib.hid hsl3
          have HFZ := Lib.hid hbs
          have HKZ := Lib.hid hks
          have HPZ := Lib.hid hpz
          have HSZ8 := Lib.hid hsz8
          clear hsl3 hbs hks hpz hsz8
          obtain ⟨c', hc', hap⟩ := HEND.out w8 _ _ HSL.out HPZ.out
          go_wp2_with fail
          refine hap.out.mono ?_
          rintro r w9 ⟨q, rfl, hq, hq2, hb9⟩
          have HQ := Lib.hid (And.intro hq (And.intro hq2 hb9))
          clear hq hq2 hb9
          go_wp2
          go_ret2
          exact ⟨q, _, _, rfl, .inr ⟨⟨x, HX.out.1, HX.out.2.1, .inr ⟨HEQ.out, rfl⟩⟩, rfl⟩, Nat.le_trans HSZ8.out HQ.out.1, HQ.out.2.1, HSL.out.up HQ.out.2.2 (Nat.le_refl _), HFZ.out.trans (HQ.out.2.2.mono (Nat.le_trans HBS.out HSZ8.out)), fun k hk h1 h2 => (HQ.out.2.2.block k (Nat.lt_of_lt_of_le hk HSZ8.out)).trans (HKZ.out k hk h1 h2)⟩
        · rw [if_pos (by rfl)]
          go_simp
          have hoa : ∀ q, q < WE.heap.size → (World.alloc WE (.cells #[.int .u64 (e : Int), .int .i64 (b : Int)] 42)).heap[q]? = WE.heap[q]? := fun q hq => heap_old' WE _ q hq
          refine hK.out _ (World.alloc WE (.cells #[.int .u64 (e : Int), .int .i64 (b : Int)] 42)) (HNR.out _ ((hoa _ (by have := HSZ.out; omega)).trans (by rw [HHP.out]))) (fun hSa => ?_)
          clear hK K
          simp only [List.getElem_toArray, List.getElem_cons_succ, List.getElem_cons_zero, Act.put, List.setIfInBounds_toArray, List.set_cons_zero, List.set_cons_succ]
          change wpAnyH _ _ _ _ _ 5 #[true, true, true, true, false, true, true, false, false, false, false] _ _
          refine wpAnyH_ready (rs := [4]) (by kernel_rfl) (by simp) ?_
          refine AllReadyH.cons rfl (fun K hK => ?_) AllReadyH.nil
          have q4 := HCB.out (World.alloc WE (.cells #[.int .u64 (e : Int), .int .i64 (b : Int)] 42)) ((hoa _ (by have := HSZ.out; omega)).trans (by rw [HHP.out]))
          rw [if_pos (by rfl)]
          go_simp
          refine hK.out _ _ (hSa) (fun hSb => ?_)
          clear hK K
          simp only [List.getElem_toArray, List.getElem_cons_succ, List.getElem_cons_zero, Act.put, List.setIfInBounds_toArray, List.set_cons_zero, List.set_cons_succ]
          change wpAnyH _ _ _ _ _ 4 #[true, true, true, true, true, true, true, false, false, false, false] _ _
          refine wpAnyH_ready (rs := [7]) (by kernel_rfl) (by simp) ?_
          refine AllReadyH.cons rfl (fun K hK => ?_) AllReadyH.nil
          have hown1 := World.ownsRow.alloc hown0 (.cells #[.int .u64 (e : Int), .int .i64 (b : Int)] 42)
          have hnew := heap_new' WE (.cells #[.int .u64 (e : Int), .int .i64 (b : Int)] 42)
          refine step_append_lies _ (by rfl) (.tmp 60) (.tmp 62) 39 (by rfl) WD.heap.size 42 i0 _ 2 16 Try.underlying39 hi0 hz0 hz1 hz2 rfl (by have := HSZ.out; omega) (.slice none 0 0) 0 [] (by rfl) hown1 ⟨WE.heap.size, 0, none⟩ 1 1 (#[.int .u64 (e : Int), .int .i64 (b : Int)] : Array Value).toList (by rfl) (by simp) (World.news_of_block hnew) (by simp [Value.oneCell']) (by have := HSZ.out; omega) (by unfold maxLen; omega) (by have := HSZ.out; omega) (by rw [World.size_alloc]; have := HSZ.out; omega) _ rfl ?_
          intro g2 cp2 w3 hown3 hgrow3 hat hlt3
          have hb3 : Below WE.heap.size WE w3 := ((Below.refl _ _).alloc (Nat.le_refl _) _).grown hgrow3 (by rw [World.size_alloc]; have := HSZ.out; omega) (fun q e => by simp [Value.ownBlock] at e)
          have hblk3 : w3.heap[s]? = WD.heap[s]? := (hb3.block s (by have := HSZ.out; omega)).trans (by rw [HHP.out])
          have hnon3 : w3.heap[w.heap.size]? = WD.heap[w.heap.size]? := (hb3.block _ (by have := HSZ.out; omega)).trans (by rw [HHP.out])
          refine hK.out _ _ (HNR.out w3 hnon3) (fun hS7 => ?_)
          clear hK K
          simp only [List.getElem_toArray, List.getElem_cons_succ, List.getElem_cons_zero, Act.put, List.setIfInBounds_toArray, List.set_cons_zero, List.set_cons_succ]
          change wpAnyH _ _ _ _ _ 3 #[true, true, true, true, true, true, true, true, false, false, false] _ _
          refine wpAnyH_take (i := 8) (v := ?_) rfl (by kernel_rfl) (by kernel_rfl) (by kernel_rfl) (fun _ _ _ h => h) (Or.inl ⟨by rfl, ?hy⟩) hS7 ?_
          case hy => intro w' hSw; go_simp; try with_reducible rfl
          simp only [List.getElem_toArray, List.getElem_cons_succ, List.getElem_cons_zero, Act.put, List.setIfInBounds_toArray, List.set_cons_zero, List.set_cons_succ]
          change wpAnyH _ _ _ _ _ 2 #[true, true, true, true, true, true, true, true, true, false, false] _ _
          refine wpAnyH_take (i := 9) (v := ?_) rfl (by kernel_rfl) (by kernel_rfl) (by kernel_rfl) (fun _ _ _ h => h) (Or.inl ⟨by rfl, ?hy⟩) hS7 ?_
          case hy => intro w' hSw; go_simp; try with_reducible rfl
          simp only [List.getElem_toArray, List.getElem_cons_succ, List.getElem_cons_zero, Act.put, List.setIfInBounds_toArray, List.set_cons_zero, List.set_cons_succ]
          change wpAnyH _ _ _ _ _ 1 #[true, true, true, true, true, true, true, true, true, true, false] _ _
          have f3 := free_at (hblk3.trans HBLK.out) 2
          have q3 := HCB.out w3 hblk3
          refine wpAnyH_ready (rs := [10]) (by kernel_rfl) (by simp) ?_
          refine AllReadyH.cons rfl (fun K hK => ?_) AllReadyH.nil
          rw [if_pos (by rfl)]
          go_simp
          try simp only [Nat.zero_add] at hown3 ⊢
          refine hK.out _ _ (HNR.out _ ((Below.heap_setCell _ _ _ _ hns).trans hnon3)) (fun hS10 => ?_)
          clear hK K
          simp only [List.getElem_toArray, List.getElem_cons_succ, List.getElem_cons_zero, Act.put, List.setIfInBounds_toArray, List.set_cons_zero, List.set_cons_succ]
          change wpAnyH _ _ _ _ _ 0 #[true, true, true, true, true, true, true, true, true, true, true] _ _
          refine wpAnyH_done (by kernel_rfl) ?_ _
          obtain ⟨cur, e3, hcur, e2⟩ : ∃ cur, w3.heap[g2]? = some (.cells cur 42 (0, 0)) ∧ cur.toList.take 2 = (#[.int .u64 (e : Int), .int .i64 (b : Int)] : Array Value).toList ∧ WD.heap.size ≤ g2 := by
            rcases hown3.2 with ⟨h, _⟩ | ⟨g', cap', cur, h, e2, e3, e4, e5, e6, e7⟩
            · cases h
            · cases h; exact ⟨cur, e3, by simpa using e7, e2⟩
          have hcc : ∀ j v, (#[.int .u64 (e : Int), .int .i64 (b : Int)] : Array Value).toList[j]? = some v → j < 2 → w3.cell? ⟨g2, j, none⟩ = some v := fun j v hv hj => by
            rw [cells_at e3 j, ← Array.getElem?_toList, ← List.getElem?_take_of_lt hj, hcur]; exact hv
          have hsl3 := (hSE.up hb3 (Nat.le_refl _)).setTw (g := g2) (cp := cp2) (n := (e, b)) (lt_of_block e3) (by have := HSZ.out; omega) (hcc 0 _ rfl (by have := HSZ.out; omega)) (hcc 1 _ rfl (by have := HSZ.out; omega))
          have hbs : Below B w (w3.setCell ⟨s, 2, none⟩ (.slice (some ⟨g2, 0, none⟩) 1 cp2)) := ((HBD.out.mono HBS.out).trans ((hbD.mono (Nat.le_trans HBS.out HBD.out.size)).trans (hb3.mono (by have := HBS.out; have := HBD.out.size; have := HSZ.out; omega)))).setCell (p := ⟨s, 2, none⟩) hSE.ms _
          have hks : ∀ k, k < w.heap.size → k ≠ s → k ≠ m → (w3.setCell ⟨s, 2, none⟩ (.slice (some ⟨g2, 0, none⟩) 1 cp2)).heap[k]? = w.heap[k]? := fun k hk h1 _ => (Below.heap_setCell _ _ _ _ h1).trans ((hb3.block k (by have := HSZ.out; omega)).trans ((by rw [HHP.out] : WE.heap[k]? = WD.heap[k]?).trans (HBD.out.block k hk)))
          have hqs : qa ≠ s := bytes_apart HPD.out (by rw [HP.out]; omega) HBLK.out (.inr ⟨_, _, _, rfl, rfl⟩)
          have hql : qa < WD.heap.size := by obtain ⟨g, o, h1, _, h3, _⟩ := HPD.out.2 (by rw [HP.out]; omega); cases h1; exact h3
          have hpz : BytesAt (w3.setCell ⟨s, 2, none⟩ (.slice (some ⟨g2, 0, none⟩) 1 cp2)) (some ⟨qa, oa, none⟩) cap p := bytes_keepo HPD.out ((Below.heap_setCell _ _ _ _ hqs).trans ((hb3.block qa (by have := HSZ.out; omega)).trans (by rw [HHP.out])))
          have hsz8 : w.heap.size ≤ (w3.setCell ⟨s, 2, none⟩ (.slice (some ⟨g2, 0, none⟩) 1 cp2)).heap.size := hbs.size
          clear hS10 hS7 hcc hcur e3 e2 q3 f3 hnon3 hblk3 hb3 hgrow3 hown3 hown1 hown0 hnew hoa hSE hbD hsl hnl hi0 hz0 hz1 hz2 hqs hql hS q4
          generalize (w3.setCell ⟨s, 2, none⟩ (.slice (some ⟨g2, 0, none⟩) 1 cp2)) = w8 at *
          have HSL := Lib.hid hsl3
          have HFZ := Lib.hid hbs
          have HKZ := Lib.hid hks
          have HPZ := Lib.hid hpz
          have HSZ8 := Lib.hid hsz8
          clear hsl3 hbs hks hpz hsz8
          obtain ⟨c', hc', hap⟩ := HEND.out w8 _ _ HSL.out HPZ.out
          go_wp2_with fail
          refine hap.out.mono ?_
          rintro r w9 ⟨q, rfl, hq, hq2, hb9⟩
          have HQ := Lib.hid (And.intro hq (And.intro hq2 hb9))
          clear hq hq2 hb9
          go_wp2
          go_ret2
          exact ⟨q, _, _, rfl, .inr ⟨⟨x, HX.out.1, HX.out.2.1, .inr ⟨HEQ.out, rfl⟩⟩, rfl⟩, Nat.le_trans HSZ8.out HQ.out.1, HQ.out.2.1, HSL.out.up HQ.out.2.2 (Nat.le_refl _), HFZ.out.trans (HQ.out.2.2.mono (Nat.le_trans HBS.out HSZ8.out)), fun k hk h1 h2 => (HQ.out.2.2.block k (Nat.lt_of_lt_of_le hk HSZ8.out)).trans (HKZ.out k hk h1 h2)⟩
end Go.Proofs.Ytinjafacnekkcaa
