/- Texts SealB, put together by pack.py. -/
import Derived.Test.YtinjafacnekkcaaSPj
import Derived.Carry
set_option linter.unusedVariables false
set_option linter.unusedSimpArgs false
namespace Go.Proofs.Ytinjafacnekkcaa
open Go Go.RowKit GfM
/-- the slice of what was told as used twice -/
def TwIs (w : World) (tv : Value) : Option (Nat × Nat) → Prop
  | none => tv = .slice none 0 0
  | some x => ∃ g cp, tv = .slice (some ⟨g, 0, none⟩) 1 cp ∧ g < w.heap.size ∧ w.cell? ⟨g, 0, none⟩ = some (.int .u64 (x.1 : Int)) ∧ w.cell? ⟨g, 1, none⟩ = some (.int .i64 (x.2 : Int))
/-- a sealer of a key: its block s, its map's block m, both at or above B -/
structure Slr (w : World) (B s m : Nat) (key : List Nat) (M : List ((Nat × Nat) × List Nat)) (T : Option (Nat × Nat)) : Prop where
  blk : ∃ c tv, w.heap[s]? = some (.cells #[.pointer (some ⟨c, 0, none⟩), .map (some m), tv] 73 (0, 0)) ∧ (∃ b g n cp, Cip w c b g n cp (roundsK key) (wordsK key)) ∧ TwIs w tv T
  map : MapIs w m M
  ms : B ≤ s
  mm : B ≤ m
theorem MapIs.lt {w : World} {m : Nat} {M : List ((Nat × Nat) × List Nat)} (h : MapIs w m M) : m < w.heap.size := by
  obtain ⟨es, clock, hb, _⟩ := h
  exact (Array.getElem?_eq_some_iff.1 hb).1
theorem MapIs.up {w w' : World} {m : Nat} {M : List ((Nat × Nat) × List Nat)} (h : MapIs w m M) {B : Nat} (hb : Below B w w') (hB : w.heap.size ≤ B) : MapIs w' m M := by
  have hlt := h.lt
  obtain ⟨es, clock, h1, h2, h3, h4⟩ := h
  exact ⟨es, clock, (hb.block m (Nat.lt_of_lt_of_le hlt hB)).trans h1, h2, fun i e x he hx => (h3 i e x he hx).up hb hB, h4⟩
theorem TwIs.up {w w' : World} {tv : Value} {T : Option (Nat × Nat)} (h : TwIs w tv T) {B : Nat} (hb : Below B w w') (hB : w.heap.size ≤ B) : TwIs w' tv T := by
  cases T with
  | none => exact h
  | some x =>
    obtain ⟨g, cp, h1, h2, h3, h4⟩ := h
    exact ⟨g, cp, h1, Nat.lt_of_lt_of_le h2 hb.size, (hb.cell (p := ⟨g, 0, none⟩) (Nat.lt_of_lt_of_le h2 hB)).trans h3, (hb.cell (p := ⟨g, 1, none⟩) (Nat.lt_of_lt_of_le h2 hB)).trans h4⟩
theorem Slr.up {w w' : World} {C s m : Nat} {key : List Nat} {M : List ((Nat × Nat) × List Nat)} {T : Option (Nat × Nat)} (h : Slr w C s m key M T) {B : Nat} (hb : Below B w w') (hB : w.heap.size ≤ B) : Slr w' C s m key M T := by
  obtain ⟨⟨c, tv, h1, ⟨b, g, n, cp, h2⟩, h3⟩, h4, h5, h6⟩ := h
  exact ⟨⟨c, tv, (hb.block s (Nat.lt_of_lt_of_le (lt_of_block h1) hB)).trans h1, ⟨b, g, n, cp, h2.up hb hB⟩, h3.up hb hB⟩, h4.up hb hB, h5, h6⟩
theorem map_made (w : World) : MapIs (w.alloc (.map #[] 0)) w.heap.size [] :=
  ⟨#[], 0, heap_new' _ _, rfl, by simp, List.Pairwise.nil, rfl, by simp⟩
theorem wpList_makeMap {P : Program} {w : World} {ops : Array Oper} {rest : List Oper} {o : Oper} {A : Act} {Q : Exit → Act → World → Prop} (hgd : o.guard = none) (t : TypeId) (ho : o.op = .makeMap t none)
    (hK : wpList P ops Q rest (A.put o.dst (.map (some w.heap.size))) (w.alloc (.map #[] 0))) : wpList P ops Q (o :: rest) A w :=
  wpList_plain hgd fun _ hk => by
    unfold Oper.wp execOp
    simp only [ho]
    exact hk _ _ hK
set_option maxRecDepth 100000 in
theorem snew_c (c : Nat) (w : World) :
    Calls Try.prog 12 #[.pointer (some ⟨c, 0, none⟩)] w fun e w' => e = .returned (.pointer (some ⟨w.heap.size + 1, 0, none⟩)) ∧ w' = (w.alloc (.map #[] 0)).alloc (.cells #[.pointer (some ⟨c, 0, none⟩), .map (some w.heap.size), .slice none 0 0] 73) := by
  go_enter Try.func12, Try.ntmps12
  go_wp2_with (first
    | (refine wpList_makeMap rfl 71 rfl ?_)
    | fail)
  go_ret
  exact ⟨by simp, rfl⟩
set_option maxRecDepth 100000 in
set_option maxHeartbeats 4000000 in
theorem made_c (k : List Nat) (hk : k.length = 16) (hkb : ∀ x ∈ k, x < 256) (w : World) :
    Calls Try.prog 4 #[.agg (bA k)] w fun e w' => ∃ s m, e = .returned (.pointer (some ⟨s, 0, none⟩)) ∧ Slr w' w.heap.size s m k [] none ∧ Below w.heap.size w w' := by
  have h0 := heap_new' w (.cells (bA k) 22)
  have hbl : Below w.heap.size w (w.alloc (.cells (bA k) 22)) := (Below.refl _ _).alloc (Nat.le_refl _) _
  have HK := Lib.hid (And.intro hk hkb)
  have H0 := Lib.hid h0
  have HBL := Lib.hid hbl
  clear hk hkb h0 hbl
  generalize hW0 : (w.alloc (.cells (bA k) 22)) = W0 at *
  go_enter Try.func4, Try.ntmps4
  go_wp2
  try rw [hW0]
  clear hW0
  go_cut [3, 4] from 5 to 10 (fun s3 s4 wx => ∃ c b' g n cp, s3 = .pointer (some ⟨c, 0, none⟩) ∧ s4 = .int .i64 0 ∧ Cip wx c b' g n cp (roundsK k) (wordsK k) ∧ Below W0.heap.size W0 wx)
  case first =>
    refine wp_region_held_drew (S := fun w' => Below W0.heap.size W0 w') (by kernel_rfl) (Below.refl _ _).drew ?_
    intro hS
    generalize W0.drew = WD at hS ⊢
    change wpAnyH _ _ _ _ _ 8 #[false, false, false, false, false, false, false, false] _ _
    refine wpAnyH_take (i := 1) (v := ?_) rfl (by kernel_rfl) (by kernel_rfl) (by kernel_rfl) (fun _ _ _ h => h) (Or.inl ⟨by rfl, ?hy⟩) hS ?_
    case hy => intro w' hSw; go_simp; try with_reducible rfl
    simp only [List.getElem_toArray, List.getElem_cons_succ, List.getElem_cons_zero, Act.put, List.setIfInBounds_toArray, List.set_cons_zero, List.set_cons_succ]
    change wpAnyH _ _ _ _ _ 7 #[false, true, false, false, false, false, false, false] _ _
    refine wpAnyH_ready (rs := [0]) (by kernel_rfl) (by simp) ?_
    refine AllReadyH.cons rfl (fun K hK => ?_) AllReadyH.nil
    rw [if_pos (by rfl)]
    go_simp
    refine (newbox_c WD).mono ?_
    rintro e w1 ⟨rfl, hbx, hlt1, hb1⟩
    refine hK.out _ _ (hS.trans (hb1.mono hS.size)) (fun hS1 => ?_)
    clear hK K
    simp only [List.getElem_toArray, List.getElem_cons_succ, List.getElem_cons_zero, Act.put, List.setIfInBounds_toArray, List.set_cons_zero, List.set_cons_succ]
    change wpAnyH _ _ _ _ _ 6 #[true, true, false, false, false, false, false, false] _ _
    refine wpAnyH_ready (rs := [2]) (by kernel_rfl) (by simp) ?_
    refine AllReadyH.cons rfl (fun K hK => ?_) AllReadyH.nil
    rw [if_pos (by rfl)]
    go_simp
    refine (new_as16 WD.heap.size w.heap.size k HK.out.1 HK.out.2 w1 hbx ((hS1.block _ (lt_of_block H0.out)).trans H0.out)).mono ?_
    rintro e w3 ⟨c, g, n, cp, rfl, hC, hb3⟩
    refine hK.out _ _ (hS1.trans (hb3.mono hS1.size)) (fun hS3 => ?_)
    clear hK K
    simp only [List.getElem_toArray, List.getElem_cons_succ, List.getElem_cons_zero, Act.put, List.setIfInBounds_toArray, List.set_cons_zero, List.set_cons_succ]
    change wpAnyH _ _ _ _ _ 5 #[true, true, true, false, false, false, false, false] _ _
    refine wpAnyH_take (i := 3) (v := ?_) rfl (by kernel_rfl) (by kernel_rfl) (by kernel_rfl) (fun _ _ _ h => h) (Or.inl ⟨by rfl, ?hy⟩) hS3 ?_
    case hy => intro w' hSw; go_simp; try with_reducible rfl
    simp only [List.getElem_toArray, List.getElem_cons_succ, List.getElem_cons_zero, Act.put, List.setIfInBounds_toArray, List.set_cons_zero, List.set_cons_succ]
    change wpAnyH _ _ _ _ _ 4 #[true, true, true, true, false, false, false, false] _ _
    refine wpAnyH_take (i := 4) (v := ?_) rfl (by kernel_rfl) (by kernel_rfl) (by kernel_rfl) (fun _ _ _ h => h) (Or.inl ⟨by rfl, ?hy⟩) hS3 ?_
    case hy => intro w' hSw; go_simp; try with_reducible rfl
    simp only [List.getElem_toArray, List.getElem_cons_succ, List.getElem_cons_zero, Act.put, List.setIfInBounds_toArray, List.set_cons_zero, List.set_cons_succ]
    change wpAnyH _ _ _ _ _ 3 #[true, true, true, true, true, false, false, false] _ _
    refine wpAnyH_take (i := 5) (v := ?_) rfl (by kernel_rfl) (by kernel_rfl) (by kernel_rfl) (fun _ _ _ h => h) (Or.inl ⟨by rfl, ?hy⟩) hS3 ?_
    case hy => intro w' hSw; go_simp; try with_reducible rfl
    simp only [List.getElem_toArray, List.getElem_cons_succ, List.getElem_cons_zero, Act.put, List.setIfInBounds_toArray, List.set_cons_zero, List.set_cons_succ]
    change wpAnyH _ _ _ _ _ 2 #[true, true, true, true, true, true, false, false] _ _
    refine wpAnyH_take (i := 6) (v := ?_) rfl (by kernel_rfl) (by kernel_rfl) (by kernel_rfl) (fun _ _ _ h => h) (Or.inl ⟨by rfl, ?hy⟩) hS3 ?_
    case hy => intro w' hSw; go_simp; try with_reducible rfl
    simp only [List.getElem_toArray, List.getElem_cons_succ, List.getElem_cons_zero, Act.put, List.setIfInBounds_toArray, List.set_cons_zero, List.set_cons_succ]
    change wpAnyH _ _ _ _ _ 1 #[true, true, true, true, true, true, true, false] _ _
    refine wpAnyH_take (i := 7) (v := ?_) rfl (by kernel_rfl) (by kernel_rfl) (by kernel_rfl) (fun _ _ _ h => h) (Or.inl ⟨by rfl, ?hy⟩) hS3 ?_
    case hy => intro w' hSw; go_simp; try with_reducible rfl
    simp only [List.getElem_toArray, List.getElem_cons_succ, List.getElem_cons_zero, Act.put, List.setIfInBounds_toArray, List.set_cons_zero, List.set_cons_succ]
    change wpAnyH _ _ _ _ _ 0 #[true, true, true, true, true, true, true, true] _ _
    refine wpAnyH_done (by kernel_rfl) ?_ _
    go_wp2_with fail
    go_meet
    exact ⟨c, _, g, n, cp, rfl, rfl, hC, hS3⟩
  case rest =>
    obtain ⟨c, b', g, n0, cp, rfl, rfl, hC, hb0⟩ := hcut
    have hbw : Below w.heap.size w wc := HBL.out.trans (hb0.mono HBL.out.size)
    have HBW := Lib.hid hbw
    have HC := Lib.hid hC
    clear hC hb0 hbw
    go_wp2_with fail
    refine (snew_c c wc).mono ?_
    rintro e w1 ⟨rfl, hw1⟩
    have hm := (map_made wc).up ((Below.refl _ _).alloc (Nat.le_refl _) (.cells #[.pointer (some ⟨c, 0, none⟩), .map (some wc.heap.size), .slice none 0 0] 73)) (Nat.le_refl _)
    have hs := heap_new' (wc.alloc (.map #[] 0)) (.cells #[.pointer (some ⟨c, 0, none⟩), .map (some wc.heap.size), .slice none 0 0] 73)
    have hb : Below wc.heap.size wc ((wc.alloc (.map #[] 0)).alloc (.cells #[.pointer (some ⟨c, 0, none⟩), .map (some wc.heap.size), .slice none 0 0] 73)) := ((Below.refl _ _).alloc (Nat.le_refl _) _).alloc (by simp) _
    rw [← hw1] at hm hs hb
    rw [World.size_alloc] at hs
    have HM := Lib.hid hm
    have HS := Lib.hid hs
    have HB := Lib.hid hb
    clear hm hs hb hw1
    go_wp2
    go_ret
    exact ⟨_, wc.heap.size, rfl, ⟨⟨c, .slice none 0 0, HS.out, ⟨_, _, _, _, HC.out.up HB.out (Nat.le_refl _)⟩, rfl⟩, HM.out, by have := HBW.out.size; omega, HBW.out.size⟩, HBW.out.trans (HB.out.mono HBW.out.size)⟩
set_option maxRecDepth 100000 in
set_option maxHeartbeats 4000000 in
theorem open_c {B s m : Nat} {key : List Nat} {M : List ((Nat × Nat) × List Nat)} {T : Option (Nat × Nat)} (hkl : key.length = 16 ∨ key.length = 32) (e b : Nat) (he : e < 18446744073709551616) (hb : b < 65536) (a : Option Addr) (cap : Nat) (l : List Nat) (hl : l.length = 256) (w : World)
    (hS : Slr w B s m key M T) (hB : BytesAt w a cap l) :
    Calls Try.prog 17 #[.pointer (some ⟨s, 0, none⟩), .int .u64 (e : Int), .int .i64 (b : Int), .slice a 256 cap] w fun r w' =>
      ∃ q, r = .returned (.tuple #[.slice (some ⟨q, 0, none⟩) 256 256, .int .i64 0]) ∧ w.heap.size ≤ q ∧ w'.heap[q]? = some (.cells (bA (xorL l (strL key e b 256))) 5 (0, 0)) ∧ Below w.heap.size w w' := by
  obtain ⟨⟨c, tv, h1, ⟨bx, g, n, cp, hC⟩, hT⟩, hM, _, _⟩ := hS
  have c0 : w.cell? ⟨s, 0, none⟩ = some (.pointer (some ⟨c, 0, none⟩)) := (cells_at h1 0).trans rfl
  have HAP : Hid (Calls Try.prog 33 #[.pointer (some ⟨c, 0, none⟩), .int .u64 (e : Int), .int .u32 (b : Int), .slice a 256 cap] w fun r w' =>
      ∃ q, r = .returned (.slice (some ⟨q, 0, none⟩) 256 256) ∧ w.heap.size ≤ q ∧ w'.heap[q]? = some (.cells (bA (xorL l (strL key e b 256))) 5 (0, 0)) ∧ Below w.heap.size w w') := apply_c hkl e b he (by omega) a cap l 256 hl (by omega) w hC hB
  have e1 : IntKind.u32.wrap (b : Int) = (b : Int) := by rw [IntKind.wrap_u32]; omega
  have HB := Lib.hid hb
  clear h1 hC hT hM hB hl he hb
  go_enter Try.func17, Try.ntmps17
  go_wp2_with fail
  refine (may_c s b HB.out a cap w).mono ?_
  rintro r w' ⟨rfl, rfl⟩
  go_wp2_with fail
  refine HAP.out.mono ?_
  rintro r w1 ⟨q, rfl, hq, hq2, hb1⟩
  have HQ := Lib.hid (And.intro hq (And.intro hq2 hb1))
  clear hq hq2 hb1
  go_wp2
  go_ret2
  exact ⟨q, rfl, HQ.out.1, HQ.out.2.1, HQ.out.2.2⟩
end Go.Proofs.Ytinjafacnekkcaa
