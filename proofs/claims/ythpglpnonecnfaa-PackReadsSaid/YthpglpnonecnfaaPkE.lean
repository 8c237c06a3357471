/- Rows of rows; the law's Cut. -/
import Derived.Test.YthpglpnonecnfaaPkD
set_option linter.unusedVariables false
set_option linter.unusedSimpArgs false
namespace Go.Proofs.Ythpglpnonecnfaa
open Go Go.RowKit Sha
theorem slinfo : (Try.prog.info? 27).map (fun i => (i.zero, i.size, i.bytes)) = some (some (.slice none 0 0), 1, 24) := by kernel_rfl
theorem sl_parts : ∃ i, Try.prog.info? 27 = some i ∧ i.zero = some (.slice none 0 0) ∧ i.size = 1 ∧ i.bytes = 24 := by
  obtain ⟨i, hi, h⟩ := Option.map_eq_some_iff.1 slinfo
  simp only [Prod.mk.injEq] at h
  exact ⟨i, hi, h.1, h.2.1, h.2.2⟩
/-- append of one row -/
theorem wpList_append_row {w : World} {ops : Array Oper} {rest : List Oper} {o : Oper} {A : Act} {Q : Exit → Act → World → Prop} (hgd : o.guard = none) (s x : Operand)
    (ho : o.op = .call { callee := .builtin .append, args := #[s, x], argTypes := #[22, 22] }) {base n : Nat} {v : Value} {xs : List Value} (hs : A.eval s = v) (hown : w.ownsRow base 27 1 v n xs)
    {g : Nat} {u : Value} (hx : A.eval x = .slice (some ⟨g, 0, none⟩) 1 1) (hu : w.cell? ⟨g, 0, none⟩ = some u) (h1 : u.oneCell' = true) (h63 : n + 1 ≤ 1000000) (hbase : base ≤ w.heap.size)
    (h : ∀ v' w', w'.ownsRow base 27 1 v' (n + 1) (xs ++ [u]) → w.grownBy w' v.ownBlock → wpList Try.prog ops Q rest (A.put o.dst v') w') : wpList Try.prog ops Q (o :: rest) A w :=
  wpList_plain hgd fun _ hK => by
    obtain ⟨i0, hi, hz0, hz1, hz2⟩ := sl_parts
    obtain ⟨v', w', h1, h2, h3, _⟩ := run_append_own_at (P := Try.prog) w base 22 o.type 27 i0 _ 1 24 Try.underlying22 hi hz0 hz1 hz2 rfl (by omega) v n xs hown ⟨g, 0, none⟩ 1 1 [u] rfl
      (fun j y hj => by
        have hj0 : j = 0 := by have := (List.getElem?_eq_some_iff.1 hj).1; simpa using this
        subst hj0
        rw [add_plain]
        exact hu.trans hj) (by simpa using h1) (by unfold maxLen; omega) (by omega) hbase
    unfold Oper.wp execOp
    simp only [ho, resolve, invoke, builtin, Sem.run_bind, Sem.run_pure, Result.andThen_ok, List.map_toArray, List.map_cons, List.map_nil, hs, hx, h1]
    exact hK _ _ (h v' w' h2 h3)
/-- values that name rows of bytes -/
def RowsV (w : World) (xs : List Value) (L : List (List Nat)) : Prop := xs.length = L.length ∧ ∀ (i : Nat) (l : List Nat), L[i]? = some l → ∃ u, xs[i]? = some u ∧ SlAt w u l
theorem rowsV_nil (w : World) : RowsV w [] [] := ⟨rfl, fun i l h => by cases h⟩
theorem RowsV.snoc {w : World} {xs : List Value} {L : List (List Nat)} (h : RowsV w xs L) {u : Value} {l : List Nat} (hu : SlAt w u l) : RowsV w (xs ++ [u]) (L ++ [l]) := by
  refine ⟨by simp [h.1], fun i m hm => ?_⟩
  rcases Nat.lt_or_ge i L.length with hi | hi
  · rw [List.getElem?_append_left hi] at hm
    obtain ⟨v, h1, h2⟩ := h.2 i m hm
    exact ⟨v, by rw [List.getElem?_append_left (by rw [h.1]; exact hi)]; exact h1, h2⟩
  · have hi2 : i = L.length := by
      have := (List.getElem?_eq_some_iff.1 hm).1; simp at this; omega
    subst hi2
    simp at hm
    subst hm
    exact ⟨u, by rw [← h.1]; simp, hu⟩
theorem RowsV.up {w w' : World} {xs : List Value} {L : List (List Nat)} (h : RowsV w xs L) {B : Nat} (hb : Below B w w') (hB : w.heap.size ≤ B) : RowsV w' xs L := by
  refine ⟨h.1, fun i l hl => ?_⟩
  obtain ⟨u, h1, h2⟩ := h.2 i l hl
  exact ⟨u, h1, h2.up hb hB⟩
theorem rowsAt_of {w : World} {base n : Nat} {a : Option Addr} {c : Nat} {xs : List Value} {L : List (List Nat)} (hown : w.ownsRow base 27 1 (.slice a n c) n xs) (h : RowsV w xs L) : L.length = n ∧ RowsAt w a L := by
  have hn : xs.length = n := by have := hown.1; simpa using this
  refine ⟨by rw [← h.1, hn], fun i l hl => ?_⟩
  obtain ⟨u, h1, h2⟩ := h.2 i l hl
  have hi : i < n := by have := (List.getElem?_eq_some_iff.1 h1).1; omega
  rcases hown.2 with ⟨h3, h4⟩ | ⟨g, cap, cur, h3, h4, h5, h6⟩
  · omega
  · injection h3 with h3 _ _
    subst h3
    refine ⟨g, 0, u, rfl, lt_of_block h5, ?_, h2⟩
    have := hown
    rw [cells_at h5 (0 + i), Nat.zero_add]
    have h7 := congrArg (fun l => l[i]?) h6.2.2.2
    simp only [Nat.mul_one] at h7
    rw [List.getElem?_take_of_lt hi, Array.getElem?_toList] at h7
    rw [h7]; exact h1
theorem own_sliceR {w : World} {base : Nat} {v : Value} {n : Nat} {xs : List Value} {e : TypeId} {size : Nat} (h : w.ownsRow base e size v n xs) : ∃ a cap, v = .slice a n cap := by
  rcases h.2 with ⟨rfl, rfl⟩ | ⟨g, cap, cur, rfl, _⟩
  · exact ⟨none, 0, rfl⟩
  · exact ⟨_, cap, rfl⟩
theorem SlAt.one {w : World} {v : Value} {l : List Nat} (h : SlAt w v l) : v.oneCell' = true := by
  obtain ⟨a, cap, rfl, _⟩ := h; rfl
/-- the law's cut -/
def cutL (L : List (List Nat)) : List (List Nat) := (L.take 12).map (·.take 900)
theorem cutL_succ (L : List (List Nat)) (k : Nat) (h : k < L.length) (h12 : k < 12) : cutL (L.take (k + 1)) = cutL (L.take k) ++ [(L[k]).take 900] := by
  unfold cutL
  rw [List.take_take, List.take_take, Nat.min_eq_right (by omega), Nat.min_eq_right (by omega), List.take_succ_eq_append_getElem h, List.map_append]
  rfl
theorem cutL_twelve (L : List (List Nat)) : cutL (L.take 12) = cutL L := by
  unfold cutL; rw [List.take_take]; rfl
theorem slAt_take {w : World} {a : Option Addr} {c : Nat} {l : List Nat} (h : SlAt w (.slice a l.length c) l) (hl : 900 < l.length) : ∃ g o, a = some ⟨g, o, none⟩ ∧ SlAt w (.slice (some ⟨g, o, none⟩) 900 c) (l.take 900) := by
  obtain ⟨a', c', h1, h2, h3, h4, h5⟩ := h
  injection h1 with h1 _ h6
  subst h1 h6
  obtain ⟨g, o, h7, h8, h9, h10⟩ := h2.2 (by omega)
  subst h7
  have hl2 : (l.take 900).length = 900 := by simp; omega
  refine ⟨g, o, rfl, _, c, by rw [hl2], ⟨fun x hx => h2.1 x (List.mem_of_mem_take hx), fun _ => ⟨g, o, rfl, by omega, h9, fun j hj => ?_⟩⟩, (fun h => by cases h), by omega, h5⟩
  rw [h10 j (by omega), List.getD_eq_getElem?_getD, List.getD_eq_getElem?_getD, List.getElem?_take_of_lt (by omega)]
theorem sixteen_of {R : List Int} (h : R.length = 16) : ∃ r0 r1 r2 r3 r4 r5 r6 r7 r8 r9 r10 r11 r12 r13 r14 r15, R = [r0, r1, r2, r3, r4, r5, r6, r7, r8, r9, r10, r11, r12, r13, r14, r15] := by
  match R, h with
  | [r0, r1, r2, r3, r4, r5, r6, r7, r8, r9, r10, r11, r12, r13, r14, r15], _ => exact ⟨r0, r1, r2, r3, r4, r5, r6, r7, r8, r9, r10, r11, r12, r13, r14, r15, rfl⟩
theorem pack25 : (Try.prog.info? 25).map (·.size) = some 17 := by kernel_rfl
theorem packA_one (a : Option Addr) (n c : Nat) (R : List Int) : (packA (.slice a n c) R).all (·.oneCell') = true := by
  rw [← Array.all_toList]; simp [packA, Value.oneCell']
theorem pack_set0 (v v' : Value) (R : List Int) : (packA v R).setIfInBounds 0 v' = packA v' R := by simp [packA]
set_option maxRecDepth 100000 in
set_option maxHeartbeats 8000000 in
theorem cut_c (a : Option Addr) (n cap : Nat) (L : List (List Nat)) (R : List Int) (hn : L.length = n) (hR16 : R.length = 16) (w : World) (hR : RowsAt w a L) :
    Calls Try.prog 6 #[.agg (packA (.slice a n cap) R)] w fun e w' =>
      (∃ a' c', e = .returned (.agg (packA (.slice a' (cutL L).length c') R)) ∧ RowsAt w' a' (cutL L)) ∧ Below w.heap.size w w' := by
  obtain ⟨r0, r1, r2, r3, r4, r5, r6, r7, r8, r9, r10, r11, r12, r13, r14, r15, hRR⟩ := sixteen_of hR16
  subst hRR
  have HB1 : Hid (((w.alloc (.cells (packA (.slice a n cap) [r0, r1, r2, r3, r4, r5, r6, r7, r8, r9, r10, r11, r12, r13, r14, r15]) 25)).alloc (.cells #[.slice none 0 0, .int .i64 0, .int .i64 0, .int .i64 0, .int .i64 0, .int .i64 0, .int .i64 0, .int .i64 0, .int .i64 0, .int .i64 0, .int .i64 0, .int .i64 0, .int .i64 0, .int .i64 0, .int .i64 0, .int .i64 0, .int .i64 0] 25)).heap[w.heap.size]? = some (.cells (packA (.slice a n cap) [r0, r1, r2, r3, r4, r5, r6, r7, r8, r9, r10, r11, r12, r13, r14, r15]) 25 (0, 0))) := (heap_old' _ _ _ (by simp)).trans (heap_new' _ _)
  have HZ1 : Hid (((w.alloc (.cells (packA (.slice a n cap) [r0, r1, r2, r3, r4, r5, r6, r7, r8, r9, r10, r11, r12, r13, r14, r15]) 25)).alloc (.cells #[.slice none 0 0, .int .i64 0, .int .i64 0, .int .i64 0, .int .i64 0, .int .i64 0, .int .i64 0, .int .i64 0, .int .i64 0, .int .i64 0, .int .i64 0, .int .i64 0, .int .i64 0, .int .i64 0, .int .i64 0, .int .i64 0, .int .i64 0] 25)).heap[w.heap.size + 1]? = some (.cells #[.slice none 0 0, .int .i64 0, .int .i64 0, .int .i64 0, .int .i64 0, .int .i64 0, .int .i64 0, .int .i64 0, .int .i64 0, .int .i64 0, .int .i64 0, .int .i64 0, .int .i64 0, .int .i64 0, .int .i64 0, .int .i64 0, .int .i64 0] 25 (0, 0))) := by
    exact (by simp : w.heap.size + 1 = (w.alloc (.cells (packA (.slice a n cap) [r0, r1, r2, r3, r4, r5, r6, r7, r8, r9, r10, r11, r12, r13, r14, r15]) 25)).heap.size) ▸ heap_new' _ _
  have HE1 : Hid (Below w.heap.size w ((w.alloc (.cells (packA (.slice a n cap) [r0, r1, r2, r3, r4, r5, r6, r7, r8, r9, r10, r11, r12, r13, r14, r15]) 25)).alloc (.cells #[.slice none 0 0, .int .i64 0, .int .i64 0, .int .i64 0, .int .i64 0, .int .i64 0, .int .i64 0, .int .i64 0, .int .i64 0, .int .i64 0, .int .i64 0, .int .i64 0, .int .i64 0, .int .i64 0, .int .i64 0, .int .i64 0, .int .i64 0] 25))) := ((Below.refl _ _).alloc (Nat.le_refl _) _).alloc (by simp) _
  have HR1 : Hid (((w.alloc (.cells (packA (.slice a n cap) [r0, r1, r2, r3, r4, r5, r6, r7, r8, r9, r10, r11, r12, r13, r14, r15]) 25)).alloc (.cells #[.slice none 0 0, .int .i64 0, .int .i64 0, .int .i64 0, .int .i64 0, .int .i64 0, .int .i64 0, .int .i64 0, .int .i64 0, .int .i64 0, .int .i64 0, .int .i64 0, .int .i64 0, .int .i64 0, .int .i64 0, .int .i64 0, .int .i64 0] 25)).rangeAt w.heap.size 1 [.int .i64 r0, .int .i64 r1, .int .i64 r2, .int .i64 r3, .int .i64 r4, .int .i64 r5, .int .i64 r6, .int .i64 r7, .int .i64 r8, .int .i64 r9, .int .i64 r10, .int .i64 r11, .int .i64 r12, .int .i64 r13, .int .i64 r14, .int .i64 r15]) := pack_roots HB1.out
  have HS1 : Hid (((w.alloc (.cells (packA (.slice a n cap) [r0, r1, r2, r3, r4, r5, r6, r7, r8, r9, r10, r11, r12, r13, r14, r15]) 25)).alloc (.cells #[.slice none 0 0, .int .i64 0, .int .i64 0, .int .i64 0, .int .i64 0, .int .i64 0, .int .i64 0, .int .i64 0, .int .i64 0, .int .i64 0, .int .i64 0, .int .i64 0, .int .i64 0, .int .i64 0, .int .i64 0, .int .i64 0, .int .i64 0] 25)).heap.size = w.heap.size + 2) := by show _ = _; simp
  have HRW := Lib.hid hR
  have HN := Lib.hid hn
  clear hR hn hR16
  go_enter Try.func6, Try.ntmps6
  go_wp2_with (first
    | (refine wpList_load_mid rfl 23 (.tmp 6) rfl w.heap.size 1 rfl [.int .i64 r0, .int .i64 r1, .int .i64 r2, .int .i64 r3, .int .i64 r4, .int .i64 r5, .int .i64 r6, .int .i64 r7, .int .i64 r8, .int .i64 r9, .int .i64 r10, .int .i64 r11, .int .i64 r12, .int .i64 r13, .int .i64 r14, .int .i64 r15] _ HR1.out Try.underlying23 rfl (by rw [sixteen23]; rfl) ?_; generalize ((w.alloc (.cells (packA (.slice a n cap) [r0, r1, r2, r3, r4, r5, r6, r7, r8, r9, r10, r11, r12, r13, r14, r15]) 25)).alloc (.cells #[.slice none 0 0, .int .i64 0, .int .i64 0, .int .i64 0, .int .i64 0, .int .i64 0, .int .i64 0, .int .i64 0, .int .i64 0, .int .i64 0, .int .i64 0, .int .i64 0, .int .i64 0, .int .i64 0, .int .i64 0, .int .i64 0, .int .i64 0] 25)) = w1 at *; have HZ2 : Hid ((w1.alloc (.cells #[.slice none 0 0, .int .i64 0, .int .i64 0, .int .i64 0, .int .i64 0, .int .i64 0, .int .i64 0, .int .i64 0, .int .i64 0, .int .i64 0, .int .i64 0, .int .i64 0, .int .i64 0, .int .i64 0, .int .i64 0, .int .i64 0, .int .i64 0] 25)).heap[w1.heap.size]? = some (.cells #[.slice none 0 0, .int .i64 0, .int .i64 0, .int .i64 0, .int .i64 0, .int .i64 0, .int .i64 0, .int .i64 0, .int .i64 0, .int .i64 0, .int .i64 0, .int .i64 0, .int .i64 0, .int .i64 0, .int .i64 0, .int .i64 0, .int .i64 0] 25 (0, 0))) := heap_new' _ _)
    | (refine wpList_store_row rfl 25 (.tmp 3) (.tmp 8) rfl w1.heap.size #[.slice none 0 0, .int .i64 r0, .int .i64 r1, .int .i64 r2, .int .i64 r3, .int .i64 r4, .int .i64 r5, .int .i64 r6, .int .i64 r7, .int .i64 r8, .int .i64 r9, .int .i64 r10, .int .i64 r11, .int .i64 r12, .int .i64 r13, .int .i64 r14, .int .i64 r15] rfl rfl 25 _ HZ2.out (by rw [pack25]; rfl) (by rfl) (by simp [Value.oneCell']) ?_; generalize hW5 : World.setRow _ _ _ = w5; have HO5 : Hid (w5.heap[w1.heap.size]? = some (.cells (packA (.slice none 0 0) [r0, r1, r2, r3, r4, r5, r6, r7, r8, r9, r10, r11, r12, r13, r14, r15]) 25 (0, 0))) := (by rw [← hW5]; exact setRow_heap _ _ _ _ _ _ HZ2.out); have HB5 : Hid (Below w1.heap.size w1 w5) := (by rw [← hW5]; exact below_setRow ((Below.refl _ _).alloc (Nat.le_refl _) _) (Nat.le_refl _) _); clear hW5; have HBX5 := Lib.hid ((HB5.out.block _ (lt_of_block HB1.out)).trans HB1.out); have c50 := (cells_at HBX5.out 0).trans (show _ = some (Value.slice a n cap) from rfl))
    | fail)
  have HZ5 := Lib.hid ((HB5.out.block _ (lt_of_block HZ1.out)).trans HZ1.out)
  have HE5 : Hid (Below w.heap.size w w5) := HE1.out.trans (HB5.out.mono HE1.out.size)
  have HLT : Hid (w.heap.size + 2 = w1.heap.size ∧ w1.heap.size < w5.heap.size) := ⟨HS1.out.symm, lt_of_block HO5.out⟩
  clear HZ2 HB5 HZ1 HB1 HE1 HR1 HS1 c50 HBX5
  generalize w1.heap.size = ob at *
  go_loopw [12] (fun vi wr => ∃ k : Nat, k ≤ n ∧ k ≤ 12 ∧ vi = .int .i64 (k : Int) ∧ ∃ a5 c5 xs, Hid (wr.heap[ob]? = some (.cells (packA (.slice a5 k c5) [r0, r1, r2, r3, r4, r5, r6, r7, r8, r9, r10, r11, r12, r13, r14, r15]) 25 (0, 0))) ∧ Hid (wr.ownsRow (ob + 1) 27 1 (.slice a5 k c5) k xs) ∧ Hid (RowsV w xs (cutL (L.take k))) ∧ Hid (wr.heap[w.heap.size + 1]? = some (.cells #[.slice none 0 0, .int .i64 0, .int .i64 0, .int .i64 0, .int .i64 0, .int .i64 0, .int .i64 0, .int .i64 0, .int .i64 0, .int .i64 0, .int .i64 0, .int .i64 0, .int .i64 0, .int .i64 0, .int .i64 0, .int .i64 0, .int .i64 0] 25 (0, 0))) ∧ Hid (Below w.heap.size w wr) ∧ Hid (ob < wr.heap.size)) (fun vi _ => n - (intOf vi).toNat)
  case atStart => exact ⟨0, by omega, by omega, rfl, none, 0, [], HO5.out, World.ownsRow_nil _ _ _ _, rowsV_nil _, HZ5.out, HE5.out, HLT.out.2⟩
  case round =>
    clear HO5 HZ5 HE5
    obtain ⟨k, hk, hk12, rfl, a5, c5, xs, hob, hown, hrv, hz, hbel, hsz⟩ := hrel
    by_cases hlt : k < n
    · have hd : decide ((k : Int) < (n : Int)) = true := by simp; omega
      have dl : (k : Int) < (n : Int) := by omega
      have dk0 : ¬ (k : Int) < 0 := by omega
      have hkl : k < L.length := by rw [HN.out]; exact hlt
      obtain ⟨l, hl⟩ : ∃ l, l = L[k] := ⟨_, rfl⟩
      obtain ⟨g, o, v, hag, hg, hcell, hsl⟩ := HRW.out k l (by rw [hl]; exact List.getElem?_eq_getElem hkl)
      subst hag
      obtain ⟨pa, pc, rfl, hrest⟩ := id hsl
      obtain ⟨ln, hln⟩ : ∃ ln, ln = l.length := ⟨_, rfl⟩
      have cl : wr.cell? ⟨g, o + k, none⟩ = some (.slice pa ln pc) := by rw [hln]; exact (hbel.out.cell (p := ⟨g, o + k, none⟩) hg).trans hcell
      by_cases h12 : k < 12
      · have d12 : decide ((k : Int) ≥ 12) = false := by simp; omega
        have hcs := cutL_succ L k hkl h12
        rw [← hl] at hcs
        have HCS := Lib.hid hcs
        have c0 := (cells_at hob.out 0).trans (show _ = some (Value.slice a5 k c5) from rfl)
        have ek : IntKind.i64.wrap ((k : Int) + 1) = (k : Int) + 1 := IntWalk.i64_in _ (by omega)
        have HK := Lib.hid (And.intro hlt h12)
        by_cases h900 : ln > 900
        · have d9 : decide ((ln : Int) > 900) = true := by simp; omega
          obtain ⟨g2, o2, hpa, hsl9⟩ := slAt_take hsl (by omega)
          subst hpa
          have HSL := Lib.hid hsl9
          have s1 : (900 : Int) ≤ (pc : Int) := by obtain ⟨_, c9, h1, _, _, h4, _⟩ := hsl9; injection h1 with _ _ h1; subst h1; have : (l.take 900).length = 900 := (by simp; omega); omega
          clear hcs hl hln hcell hrest hg hsl hsl9 hkl hk hk12 h900 hlt h12
          have HBS : Hid ((wr.alloc (.cells #[.slice (some ⟨g2, o2, none⟩) 900 pc] 27)).cell? ⟨wr.heap.size, 0, none⟩ = some (.slice (some ⟨g2, o2, none⟩) 900 pc)) := (cells_at (heap_new' _ _) 0).trans rfl
          have HOA : Hid ((wr.alloc (.cells #[.slice (some ⟨g2, o2, none⟩) 900 pc] 27)).ownsRow (ob + 1) 27 1 (.slice a5 k c5) k xs) := World.ownsRow.alloc hown.out _
          have HBA : Hid (Below w.heap.size w (wr.alloc (.cells #[.slice (some ⟨g2, o2, none⟩) 900 pc] 27))) := hbel.out.alloc hbel.out.size _
          have HZA : Hid ((wr.alloc (.cells #[.slice (some ⟨g2, o2, none⟩) 900 pc] 27)).heap[w.heap.size + 1]? = some (.cells #[.slice none 0 0, .int .i64 0, .int .i64 0, .int .i64 0, .int .i64 0, .int .i64 0, .int .i64 0, .int .i64 0, .int .i64 0, .int .i64 0, .int .i64 0, .int .i64 0, .int .i64 0, .int .i64 0, .int .i64 0, .int .i64 0, .int .i64 0] 25 (0, 0))) := (heap_old' _ _ _ (lt_of_block hz.out)).trans hz.out
          have HBO : Hid ((wr.alloc (.cells #[.slice (some ⟨g2, o2, none⟩) 900 pc] 27)).heap[ob]? = some (.cells (packA (.slice a5 k c5) [r0, r1, r2, r3, r4, r5, r6, r7, r8, r9, r10, r11, r12, r13, r14, r15]) 25 (0, 0))) := (heap_old' _ _ _ hsz.out).trans hob.out
          have HSA : Hid (ob < (wr.alloc (.cells #[.slice (some ⟨g2, o2, none⟩) 900 pc] 27)).heap.size) := lt_of_block HBO.out
          go_wp2_with (first
            | (refine wpList_append_row (v := .slice a5 k c5) (base := ob + 1) (n := k) (xs := xs) (u := .slice (some ⟨g2, o2, none⟩) 900 pc) rfl (.tmp 25) (.tmp 27) rfl rfl HOA.out rfl HBS.out rfl (by have := HK.out.2; omega) HSA.out ?_; intro v6 w6 hown6 hgr6; have HOWN6 := Lib.hid hown6; have HO6 : Hid (w6.heap[ob]? = some (.cells (packA (.slice a5 k c5) [r0, r1, r2, r3, r4, r5, r6, r7, r8, r9, r10, r11, r12, r13, r14, r15]) 25 (0, 0))) := (hgr6.block _ HSA.out (fun e => by have := (HOA.out.lt _ e.symm).1; omega)).trans HBO.out; have HZ6 := Lib.hid ((hgr6.block _ (lt_of_block HZA.out) (fun e => by have := (HOA.out.lt _ e.symm).1; have := HLT.out.1; omega)).trans HZA.out); have HE6 : Hid (Below w.heap.size w w6) := HBA.out.grown hgr6 HBA.out.size (fun q h => by have := (HOA.out.lt q h).1; have := HLT.out.1; omega); have HS6 : Hid (ob < w6.heap.size) := Nat.lt_of_lt_of_le HSA.out hgr6.size; have f6 := free_at HO6.out 0; have c6 := (cells_at HO6.out 0).trans (show _ = some (Value.slice a5 k c5) from rfl); obtain ⟨a6, c6v, hv6⟩ := own_sliceR hown6; subst hv6; clear hown6 hgr6)
            | fail)
          go_roundw
          case rel =>
            have nb := block_at HO6.out 0 (.slice a6 (k + 1) c6v)
            rw [pack_set0] at nb
            refine ⟨k + 1, by have := HK.out.1; omega, by have := HK.out.2; omega, by go_num, a6, c6v, xs ++ [.slice (some ⟨g2, o2, none⟩) 900 pc], nb, ?_, ?_, ?_, ?_, ?_⟩
            · exact own_keep HOWN6.out (fun q h => Below.heap_setCell _ _ _ _ (by have := (HOWN6.out.lt q h).1; intro e; have e2 : q = ob := e; omega))
            · show RowsV _ _ _
              rw [HCS.out]; exact hrv.out.snoc HSL.out
            · exact (Below.heap_setCell _ _ _ _ (by have := HLT.out.1; intro e; have e2 : w.heap.size + 1 = ob := e; omega)).trans HZ6.out
            · exact HE6.out.setCell (p := ⟨ob, 0, none⟩) (by have := HLT.out.1; show w.heap.size ≤ ob; omega) _
            · show ob < _; simp [World.setCell]; exact HS6.out
          case measure => simp [intOf]; have := HK.out.1; omega
        · have d9 : decide ((ln : Int) > 900) = false := by simp; omega
          have htk : l.take 900 = l := List.take_of_length_le (by omega)
          have HSL : Hid (SlAt w (.slice pa ln pc) (l.take 900)) := by rw [htk, hln]; exact hsl
          clear hcs hl hln hcell hrest hg hsl hkl hk hk12 htk h900 hlt h12
          have HBS : Hid ((wr.alloc (.cells #[.slice pa ln pc] 27)).cell? ⟨wr.heap.size, 0, none⟩ = some (.slice pa ln pc)) := (cells_at (heap_new' _ _) 0).trans rfl
          have HOA : Hid ((wr.alloc (.cells #[.slice pa ln pc] 27)).ownsRow (ob + 1) 27 1 (.slice a5 k c5) k xs) := World.ownsRow.alloc hown.out _
          have HBA : Hid (Below w.heap.size w (wr.alloc (.cells #[.slice pa ln pc] 27))) := hbel.out.alloc hbel.out.size _
          have HZA : Hid ((wr.alloc (.cells #[.slice pa ln pc] 27)).heap[w.heap.size + 1]? = some (.cells #[.slice none 0 0, .int .i64 0, .int .i64 0, .int .i64 0, .int .i64 0, .int .i64 0, .int .i64 0, .int .i64 0, .int .i64 0, .int .i64 0, .int .i64 0, .int .i64 0, .int .i64 0, .int .i64 0, .int .i64 0, .int .i64 0, .int .i64 0] 25 (0, 0))) := (heap_old' _ _ _ (lt_of_block hz.out)).trans hz.out
          have HBO : Hid ((wr.alloc (.cells #[.slice pa ln pc] 27)).heap[ob]? = some (.cells (packA (.slice a5 k c5) [r0, r1, r2, r3, r4, r5, r6, r7, r8, r9, r10, r11, r12, r13, r14, r15]) 25 (0, 0))) := (heap_old' _ _ _ hsz.out).trans hob.out
          have HSA : Hid (ob < (wr.alloc (.cells #[.slice pa ln pc] 27)).heap.size) := lt_of_block HBO.out
          go_wp2_with (first
            | (refine wpList_append_row (v := .slice a5 k c5) (base := ob + 1) (n := k) (xs := xs) (u := .slice pa ln pc) rfl (.tmp 25) (.tmp 27) rfl rfl HOA.out rfl HBS.out rfl (by have := HK.out.2; omega) HSA.out ?_; intro v6 w6 hown6 hgr6; have HOWN6 := Lib.hid hown6; have HO6 : Hid (w6.heap[ob]? = some (.cells (packA (.slice a5 k c5) [r0, r1, r2, r3, r4, r5, r6, r7, r8, r9, r10, r11, r12, r13, r14, r15]) 25 (0, 0))) := (hgr6.block _ HSA.out (fun e => by have := (HOA.out.lt _ e.symm).1; omega)).trans HBO.out; have HZ6 := Lib.hid ((hgr6.block _ (lt_of_block HZA.out) (fun e => by have := (HOA.out.lt _ e.symm).1; have := HLT.out.1; omega)).trans HZA.out); have HE6 : Hid (Below w.heap.size w w6) := HBA.out.grown hgr6 HBA.out.size (fun q h => by have := (HOA.out.lt q h).1; have := HLT.out.1; omega); have HS6 : Hid (ob < w6.heap.size) := Nat.lt_of_lt_of_le HSA.out hgr6.size; have f6 := free_at HO6.out 0; have c6 := (cells_at HO6.out 0).trans (show _ = some (Value.slice a5 k c5) from rfl); obtain ⟨a6, c6v, hv6⟩ := own_sliceR hown6; subst hv6; clear hown6 hgr6)
            | fail)
          go_roundw
          case rel =>
            have nb := block_at HO6.out 0 (.slice a6 (k + 1) c6v)
            rw [pack_set0] at nb
            refine ⟨k + 1, by have := HK.out.1; omega, by have := HK.out.2; omega, by go_num, a6, c6v, xs ++ [.slice pa ln pc], nb, ?_, ?_, ?_, ?_, ?_⟩
            · exact own_keep HOWN6.out (fun q h => Below.heap_setCell _ _ _ _ (by have := (HOWN6.out.lt q h).1; intro e; have e2 : q = ob := e; omega))
            · show RowsV _ _ _
              rw [HCS.out]; exact hrv.out.snoc HSL.out
            · exact (Below.heap_setCell _ _ _ _ (by have := HLT.out.1; intro e; have e2 : w.heap.size + 1 = ob := e; omega)).trans HZ6.out
            · exact HE6.out.setCell (p := ⟨ob, 0, none⟩) (by have := HLT.out.1; show w.heap.size ≤ ob; omega) _
            · show ob < _; simp [World.setCell]; exact HS6.out
          case measure => simp [intOf]; have := HK.out.1; omega
      · have d12 : decide ((k : Int) ≥ 12) = true := by simp; omega
        have hk12e : k = 12 := by omega
        have HFV : Hid (RowsV w xs (cutL L)) := by
          have h := hrv.out; rw [hk12e, cutL_twelve] at h; exact h
        have ek : IntKind.i64.wrap ((k : Int) + 1) = (k : Int) + 1 := IntWalk.i64_in _ (by omega)
        clear hl hln hcell hrest hg hsl hkl hk hk12 h12 hk12e
        go_wp2_with (first
          | (refine wpList_load_row rfl 25 (.tmp 3) rfl ob rfl _ _ _ _ hob.out Try.underlying25 rfl (by rw [pack25]; rfl) ?_)
          | (refine wpList_store_row rfl 25 (.tmp 2) (.tmp 31) rfl (w.heap.size + 1) (packA (.slice a5 k c5) [r0, r1, r2, r3, r4, r5, r6, r7, r8, r9, r10, r11, r12, r13, r14, r15]) rfl rfl 25 _ hz.out (by rw [pack25]; rfl) (by rfl) (packA_one _ _ _ _) ?_)
          | fail)
        have HBF := below_setRow hbel.out (Nat.le_succ w.heap.size) (packA (.slice a5 k c5) [r0, r1, r2, r3, r4, r5, r6, r7, r8, r9, r10, r11, r12, r13, r14, r15])
        have HOF : World.ownsRow (wr.setRow (w.heap.size + 1) (packA (.slice a5 k c5) [r0, r1, r2, r3, r4, r5, r6, r7, r8, r9, r10, r11, r12, r13, r14, r15])) (ob + 1) 27 1 (.slice a5 k c5) k xs := own_keep hown.out (fun q h => setRow_other _ _ _ _ (by have := (hown.out.lt q h).1; have := HLT.out.1; omega))
        obtain ⟨hlen, hrows⟩ := rowsAt_of HOF (HFV.out.up HBF (Nat.le_refl _))
        exact bodyPost_ret (results_cell_row rfl _ _ (w.heap.size + 1) 25 (packA (.slice a5 k c5) [r0, r1, r2, r3, r4, r5, r6, r7, r8, r9, r10, r11, r12, r13, r14, r15]) (0, 0) _ rfl (setRow_heap _ _ _ _ _ _ hz.out) Try.underlying25 rfl (by rw [pack25]; rfl)) rfl (by first | exact ⟨⟨a5, c5, by rw [hlen], hrows⟩, HBF⟩ | exact ⟨⟨a5, ⟨c5, by rw [hlen]⟩, hrows⟩, HBF⟩)
    · have hkn : k = n := by omega
      have hd : decide ((k : Int) < (n : Int)) = false := by simp; omega
      have HFV : Hid (RowsV w xs (cutL L)) := by
        have h := hrv.out; rw [hkn, List.take_of_length_le (by rw [HN.out]; exact Nat.le_refl _)] at h; exact h
      clear hk hk12 hkn
      go_wp2_with (first
        | (refine wpList_load_row rfl 25 (.tmp 3) rfl ob rfl _ _ _ _ hob.out Try.underlying25 rfl (by rw [pack25]; rfl) ?_)
        | (refine wpList_store_row rfl 25 (.tmp 2) (.tmp 31) rfl (w.heap.size + 1) (packA (.slice a5 k c5) [r0, r1, r2, r3, r4, r5, r6, r7, r8, r9, r10, r11, r12, r13, r14, r15]) rfl rfl 25 _ hz.out (by rw [pack25]; rfl) (by rfl) (packA_one _ _ _ _) ?_)
        | fail)
      have HBF := below_setRow hbel.out (Nat.le_succ w.heap.size) (packA (.slice a5 k c5) [r0, r1, r2, r3, r4, r5, r6, r7, r8, r9, r10, r11, r12, r13, r14, r15])
      have HOF : World.ownsRow (wr.setRow (w.heap.size + 1) (packA (.slice a5 k c5) [r0, r1, r2, r3, r4, r5, r6, r7, r8, r9, r10, r11, r12, r13, r14, r15])) (ob + 1) 27 1 (.slice a5 k c5) k xs := own_keep hown.out (fun q h => setRow_other _ _ _ _ (by have := (hown.out.lt q h).1; have := HLT.out.1; omega))
      obtain ⟨hlen, hrows⟩ := rowsAt_of HOF (HFV.out.up HBF (Nat.le_refl _))
      exact bodyPost_ret (results_cell_row rfl _ _ (w.heap.size + 1) 25 (packA (.slice a5 k c5) [r0, r1, r2, r3, r4, r5, r6, r7, r8, r9, r10, r11, r12, r13, r14, r15]) (0, 0) _ rfl (setRow_heap _ _ _ _ _ _ hz.out) Try.underlying25 rfl (by rw [pack25]; rfl)) rfl (by first | exact ⟨⟨a5, c5, by rw [hlen], hrows⟩, HBF⟩ | exact ⟨⟨a5, ⟨c5, by rw [hlen]⟩, hrows⟩, HBF⟩)
end Go.Proofs.Ythpglpnonecnfaa
