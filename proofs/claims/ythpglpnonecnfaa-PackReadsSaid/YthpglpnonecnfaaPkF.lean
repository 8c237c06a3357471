/- The law's Ours. -/
import Derived.Test.YthpglpnonecnfaaPkE
import Derived.Test.YthpglpnonecnfaaHeldT
set_option linter.unusedVariables false
set_option linter.unusedSimpArgs false
namespace Go.Proofs.Ythpglpnonecnfaa
open Go Go.RowKit Sha
theorem wp_append_bytes {w : World} {o : Oper} {A : Act} {K : Act → World → Prop} {Q : Exit → Act → World → Prop} (s x : Operand)
    (ho : o.op = .call { callee := .builtin .append, args := #[s, x], argTypes := #[27, 27] }) {base n : Nat} {v : Value} {xs : List Value} (hs : A.eval s = v) (hown : w.ownsRow base 5 1 v n xs)
    {a : Option Addr} {cap m : Nat} {l : List Nat} (hx : A.eval x = .slice a m cap) (hm : l.length = m) (hB : BytesAt w a cap l) (hnil : a = none → cap = 0) (h63 : n + m ≤ 1000000) (hbase : base ≤ w.heap.size)
    (h : ∀ v' w', w'.ownsRow base 5 1 v' (n + m) (xs ++ (bA l).toList) → w.grownBy w' v.ownBlock → K (A.put o.dst v') w') : Oper.wp Try.prog o A w K Q := by
  obtain ⟨v', w', h1, h2, h3⟩ := run_append_bytes o.type hown hm hB hnil h63 hbase
  unfold Oper.wp execOp
  simp only [ho, resolve, invoke, builtin, Sem.run_bind, Sem.run_pure, Result.andThen_ok, List.map_toArray, List.map_cons, List.map_nil, hs, hx, h1]
  exact h v' w' h2 h3
theorem wp_append_row {w : World} {o : Oper} {A : Act} {K : Act → World → Prop} {Q : Exit → Act → World → Prop} (s x : Operand)
    (ho : o.op = .call { callee := .builtin .append, args := #[s, x], argTypes := #[22, 22] }) {base n : Nat} {v : Value} {xs : List Value} (hs : A.eval s = v) (hown : w.ownsRow base 27 1 v n xs)
    {g : Nat} {u : Value} (hx : A.eval x = .slice (some ⟨g, 0, none⟩) 1 1) (hu : w.cell? ⟨g, 0, none⟩ = some u) (h1 : u.oneCell' = true) (h63 : n + 1 ≤ 1000000) (hbase : base ≤ w.heap.size)
    (h : ∀ v' w', w'.ownsRow base 27 1 v' (n + 1) (xs ++ [u]) → w.grownBy w' v.ownBlock → K (A.put o.dst v') w') : Oper.wp Try.prog o A w K Q := by
  obtain ⟨i0, hi, hz0, hz1, hz2⟩ := sl_parts
  obtain ⟨v', w', h1, h2, h3, _⟩ := run_append_own_at (P := Try.prog) w base 22 o.type 27 i0 _ 1 24 Try.underlying22 hi hz0 hz1 hz2 rfl (by omega) v n xs hown ⟨g, 0, none⟩ 1 1 [u] rfl
    (fun j y hj => by
      have hj0 : j = 0 := by have := (List.getElem?_eq_some_iff.1 hj).1; simpa using this
      subst hj0
      rw [add_plain]
      exact hu.trans hj) (by simpa using h1) (by unfold maxLen; omega) (by omega) hbase
  unfold Oper.wp execOp
  simp only [ho, resolve, invoke, builtin, Sem.run_bind, Sem.run_pure, Result.andThen_ok, List.map_toArray, List.map_cons, List.map_nil, hs, hx, h1]
  exact h v' w' h2 h3
/-- values that are rows of bytes, each in a block of bytes -/
def RowsO (w : World) (xs : List Value) (L : List (List Nat)) : Prop := xs.length = L.length ∧ ∀ (i : Nat) (l : List Nat), L[i]? = some l → (∀ x ∈ l, x < 256) ∧ ∃ u, xs[i]? = some u ∧ w.ownsRow 0 5 1 u l.length (bA l).toList
theorem rowsO_nil (w : World) : RowsO w [] [] := ⟨rfl, fun i l h => by cases h⟩
theorem RowsO.snoc {w : World} {xs : List Value} {L : List (List Nat)} (h : RowsO w xs L) {u : Value} {l : List Nat} (hl : ∀ x ∈ l, x < 256) (hu : w.ownsRow 0 5 1 u l.length (bA l).toList) : RowsO w (xs ++ [u]) (L ++ [l]) := by
  refine ⟨by simp [h.1], fun i m hm => ?_⟩
  rcases Nat.lt_or_ge i L.length with hi | hi
  · rw [List.getElem?_append_left hi] at hm
    obtain ⟨h0, v, h1, h2⟩ := h.2 i m hm
    exact ⟨h0, v, by rw [List.getElem?_append_left (by rw [h.1]; exact hi)]; exact h1, h2⟩
  · have hi2 : i = L.length := by
      have := (List.getElem?_eq_some_iff.1 hm).1; simp at this; omega
    subst hi2
    simp at hm
    subst hm
    exact ⟨hl, u, by rw [← h.1]; simp, hu⟩
theorem own_typed {w w' : World} {base : Nat} {v : Value} {n : Nat} {xs : List Value} (h : w.ownsRow base 5 1 v n xs) (hk : ∀ (g : Nat) (cur : Array Value), w.heap[g]? = some (Obj.cells cur 5 (0, 0)) → w'.heap[g]? = w.heap[g]?) : w'.ownsRow base 5 1 v n xs := by
  refine ⟨h.1, ?_⟩
  rcases h.2 with h2 | ⟨g, cap, cur, rfl, h3, hg, h4⟩
  · exact .inl h2
  · exact .inr ⟨g, cap, cur, rfl, h3, (hk g cur hg).trans hg, h4⟩
theorem RowsO.keep {w w' : World} {xs : List Value} {L : List (List Nat)} (h : RowsO w xs L) (hk : ∀ (g : Nat) (cur : Array Value), w.heap[g]? = some (Obj.cells cur 5 (0, 0)) → w'.heap[g]? = w.heap[g]?) : RowsO w' xs L := by
  refine ⟨h.1, fun i l hl => ?_⟩
  obtain ⟨h0, u, h1, h2⟩ := h.2 i l hl
  exact ⟨h0, u, h1, own_typed h2 hk⟩
theorem RowsO.rows {w : World} {xs : List Value} {L : List (List Nat)} (h : RowsO w xs L) : RowsV w xs L := by
  refine ⟨h.1, fun i l hl => ?_⟩
  obtain ⟨h0, u, h1, h2⟩ := h.2 i l hl
  obtain ⟨a, cap, rfl, hb, _, hlc, hcm, hnil, _⟩ := own_bytes h0 h2
  exact ⟨_, h1, a, cap, rfl, hb, hnil, hlc, hcm⟩
theorem typed_ne {w : World} {g k : Nat} {cur A : Array Value} {t : TypeId} {z : Nat × Nat} (h : w.heap[g]? = some (Obj.cells cur 5 (0, 0))) (hk : w.heap[k]? = some (.cells A t z)) (ht : t ≠ 5) : g ≠ k := by
  rintro rfl
  rw [hk] at h
  injection h with h
  injection h with _ h2 _
  exact ht h2
theorem own_ne {w : World} {base n : Nat} {v : Value} {xs : List Value} {g : Nat} {cur : Array Value} (h : w.heap[g]? = some (Obj.cells cur 5 (0, 0))) (hown : w.ownsRow base 27 1 v n xs) : some g ≠ v.ownBlock := by
  rcases hown.2 with ⟨rfl, _⟩ | ⟨k, cap, c2, rfl, _, hk, _⟩
  · simp [Value.ownBlock]
  · intro e
    simp [Value.ownBlock] at e
    exact typed_ne h hk (by decide) e
def partR (R : List Int) (k : Nat) : List Int := R.take k ++ List.replicate (16 - k) 0
theorem partR_len (R : List Int) (h : R.length = 16) (k : Nat) (hk : k ≤ 16) : (partR R k).length = 16 := by unfold partR; simp; omega
theorem partR_full (R : List Int) (h : R.length = 16) : partR R 16 = R := by unfold partR; rw [List.take_of_length_le (by omega)]; simp
theorem partR_set (v : Value) (R : List Int) (h : R.length = 16) (k : Nat) (hk : k < 16) : (packA v (partR R k)).setIfInBounds (1 + k) (.int .i64 (R.getD k 0)) = packA v (partR R (k + 1)) := by
  unfold packA partR
  rw [Nat.add_comm 1 k]
  simp only [List.setIfInBounds_toArray, List.set_cons_succ]
  congr 2
  rw [show (Value.int .i64 (R.getD k 0)) = (fun n => Value.int .i64 n) (R.getD k 0) from rfl, ← List.map_set]
  congr 1
  rw [List.set_append_right _ _ (by simp; omega), List.length_take, Nat.min_eq_left (by omega), Nat.sub_self, show 16 - k = (16 - (k + 1)) + 1 by omega, List.replicate_succ, List.set_cons_zero, List.take_succ_eq_append_getElem (by omega), List.append_assoc, List.getD_eq_getElem?_getD, List.getElem?_eq_getElem (by omega)]
  rfl
theorem packA_get (v : Value) (R : List Int) (k : Nat) (h : k < R.length) : (packA v R)[1 + k]? = some (.int .i64 (R.getD k 0)) := by
  unfold packA
  rw [Nat.add_comm 1 k, List.getElem?_toArray, List.getElem?_cons_succ, List.getElem?_map, List.getD_eq_getElem?_getD, List.getElem?_eq_getElem h]
  rfl
set_option maxRecDepth 100000 in
set_option maxHeartbeats 8000000 in
theorem ours_c (a : Option Addr) (n cap : Nat) (L : List (List Nat)) (R : List Int) (hn : L.length = n) (hnm : n ≤ 100000) (hL : ∀ l ∈ L, l.length ≤ 900000) (hR16 : R.length = 16) (w : World) (hR : RowsAt w a L) :
    Calls Try.prog 16 #[.agg (packA (.slice a n cap) R)] w fun e w' =>
      (∃ a' c', e = .returned (.agg (packA (.slice a' n c') R)) ∧ RowsAt w' a' L) ∧ Below w.heap.size w w' := by
  have HB1 : Hid ((((w.alloc (.cells (packA (.slice a n cap) R) 25)).alloc (.cells #[.slice none 0 0, .int .i64 0, .int .i64 0, .int .i64 0, .int .i64 0, .int .i64 0, .int .i64 0, .int .i64 0, .int .i64 0, .int .i64 0, .int .i64 0, .int .i64 0, .int .i64 0, .int .i64 0, .int .i64 0, .int .i64 0, .int .i64 0] 33)).alloc (.cells #[.slice none 0 0, .int .i64 0, .int .i64 0, .int .i64 0, .int .i64 0, .int .i64 0, .int .i64 0, .int .i64 0, .int .i64 0, .int .i64 0, .int .i64 0, .int .i64 0, .int .i64 0, .int .i64 0, .int .i64 0, .int .i64 0, .int .i64 0] 33)).heap[w.heap.size]? = some (.cells (packA (.slice a n cap) R) 25 (0, 0))) := (heap_old' _ _ _ (by simp; omega)).trans ((heap_old' _ _ _ (by simp)).trans (heap_new' _ _))
  have HZ1 : Hid ((((w.alloc (.cells (packA (.slice a n cap) R) 25)).alloc (.cells #[.slice none 0 0, .int .i64 0, .int .i64 0, .int .i64 0, .int .i64 0, .int .i64 0, .int .i64 0, .int .i64 0, .int .i64 0, .int .i64 0, .int .i64 0, .int .i64 0, .int .i64 0, .int .i64 0, .int .i64 0, .int .i64 0, .int .i64 0] 33)).alloc (.cells #[.slice none 0 0, .int .i64 0, .int .i64 0, .int .i64 0, .int .i64 0, .int .i64 0, .int .i64 0, .int .i64 0, .int .i64 0, .int .i64 0, .int .i64 0, .int .i64 0, .int .i64 0, .int .i64 0, .int .i64 0, .int .i64 0, .int .i64 0] 33)).heap[w.heap.size + 1]? = some (.cells #[.slice none 0 0, .int .i64 0, .int .i64 0, .int .i64 0, .int .i64 0, .int .i64 0, .int .i64 0, .int .i64 0, .int .i64 0, .int .i64 0, .int .i64 0, .int .i64 0, .int .i64 0, .int .i64 0, .int .i64 0, .int .i64 0, .int .i64 0] 33 (0, 0))) := by
    refine (heap_old' _ _ _ (by simp)).trans ?_
    exact (by simp : w.heap.size + 1 = (w.alloc (.cells (packA (.slice a n cap) R) 25)).heap.size) ▸ heap_new' _ _
  have HO1 : Hid ((((w.alloc (.cells (packA (.slice a n cap) R) 25)).alloc (.cells #[.slice none 0 0, .int .i64 0, .int .i64 0, .int .i64 0, .int .i64 0, .int .i64 0, .int .i64 0, .int .i64 0, .int .i64 0, .int .i64 0, .int .i64 0, .int .i64 0, .int .i64 0, .int .i64 0, .int .i64 0, .int .i64 0, .int .i64 0] 33)).alloc (.cells #[.slice none 0 0, .int .i64 0, .int .i64 0, .int .i64 0, .int .i64 0, .int .i64 0, .int .i64 0, .int .i64 0, .int .i64 0, .int .i64 0, .int .i64 0, .int .i64 0, .int .i64 0, .int .i64 0, .int .i64 0, .int .i64 0, .int .i64 0] 33)).heap[w.heap.size + 2]? = some (.cells (packA (.slice none 0 0) (partR R 0)) 33 (0, 0))) := by
    exact (by simp : w.heap.size + 2 = ((w.alloc (.cells (packA (.slice a n cap) R) 25)).alloc (.cells #[.slice none 0 0, .int .i64 0, .int .i64 0, .int .i64 0, .int .i64 0, .int .i64 0, .int .i64 0, .int .i64 0, .int .i64 0, .int .i64 0, .int .i64 0, .int .i64 0, .int .i64 0, .int .i64 0, .int .i64 0, .int .i64 0, .int .i64 0] 33)).heap.size) ▸ heap_new' _ _
  have HE1 : Hid (Below w.heap.size w (((w.alloc (.cells (packA (.slice a n cap) R) 25)).alloc (.cells #[.slice none 0 0, .int .i64 0, .int .i64 0, .int .i64 0, .int .i64 0, .int .i64 0, .int .i64 0, .int .i64 0, .int .i64 0, .int .i64 0, .int .i64 0, .int .i64 0, .int .i64 0, .int .i64 0, .int .i64 0, .int .i64 0, .int .i64 0] 33)).alloc (.cells #[.slice none 0 0, .int .i64 0, .int .i64 0, .int .i64 0, .int .i64 0, .int .i64 0, .int .i64 0, .int .i64 0, .int .i64 0, .int .i64 0, .int .i64 0, .int .i64 0, .int .i64 0, .int .i64 0, .int .i64 0, .int .i64 0, .int .i64 0] 33))) := (((Below.refl _ _).alloc (Nat.le_refl _) _).alloc (by simp) _).alloc (by simp; omega) _
  have HS1 : Hid ((((w.alloc (.cells (packA (.slice a n cap) R) 25)).alloc (.cells #[.slice none 0 0, .int .i64 0, .int .i64 0, .int .i64 0, .int .i64 0, .int .i64 0, .int .i64 0, .int .i64 0, .int .i64 0, .int .i64 0, .int .i64 0, .int .i64 0, .int .i64 0, .int .i64 0, .int .i64 0, .int .i64 0, .int .i64 0] 33)).alloc (.cells #[.slice none 0 0, .int .i64 0, .int .i64 0, .int .i64 0, .int .i64 0, .int .i64 0, .int .i64 0, .int .i64 0, .int .i64 0, .int .i64 0, .int .i64 0, .int .i64 0, .int .i64 0, .int .i64 0, .int .i64 0, .int .i64 0, .int .i64 0] 33)).heap.size = w.heap.size + 3) := by show _ = _; simp
  have c00 := (cells_at HB1.out 0).trans (show _ = some (Value.slice a n cap) from rfl)
  have HRW := Lib.hid hR
  have HN := Lib.hid hn
  have HNM := Lib.hid hnm
  have HLL := Lib.hid hL
  have H16 := Lib.hid hR16
  have HIX := Lib.hid (index_R R hR16)
  clear hR hn hR16 hnm hL
  go_enter Try.func16, Try.ntmps16
  go_wp2_with fail
  generalize (((w.alloc (.cells (packA (.slice a n cap) R) 25)).alloc (.cells #[.slice none 0 0, .int .i64 0, .int .i64 0, .int .i64 0, .int .i64 0, .int .i64 0, .int .i64 0, .int .i64 0, .int .i64 0, .int .i64 0, .int .i64 0, .int .i64 0, .int .i64 0, .int .i64 0, .int .i64 0, .int .i64 0, .int .i64 0] 33)).alloc (.cells #[.slice none 0 0, .int .i64 0, .int .i64 0, .int .i64 0, .int .i64 0, .int .i64 0, .int .i64 0, .int .i64 0, .int .i64 0, .int .i64 0, .int .i64 0, .int .i64 0, .int .i64 0, .int .i64 0, .int .i64 0, .int .i64 0, .int .i64 0] 33)) = w1 at *
  obtain ⟨ob, hob⟩ : ∃ ob, ob = w.heap.size + 2 := ⟨_, rfl⟩
  have HOB := Lib.hid hob
  rw [show w.heap.size + 1 + 1 = ob by omega]
  rw [← hob] at HO1
  have HS2 : Hid (w1.heap.size = ob + 1) := by show _ = _; rw [HS1.out, hob]
  clear c00 HS1 hob
  go_loopw [11] (fun vi wr => ∃ k : Nat, k ≤ n ∧ vi = .int .i64 (k : Int) ∧ ∃ a5 c5 xs, Hid (wr.heap[ob]? = some (.cells (packA (.slice a5 k c5) (partR R 0)) 33 (0, 0))) ∧ Hid (wr.ownsRow (ob + 1) 27 1 (.slice a5 k c5) k xs) ∧ Hid (RowsO wr xs (L.take k)) ∧ Hid (wr.heap[w.heap.size + 1]? = some (.cells #[.slice none 0 0, .int .i64 0, .int .i64 0, .int .i64 0, .int .i64 0, .int .i64 0, .int .i64 0, .int .i64 0, .int .i64 0, .int .i64 0, .int .i64 0, .int .i64 0, .int .i64 0, .int .i64 0, .int .i64 0, .int .i64 0, .int .i64 0] 33 (0, 0))) ∧ Hid (wr.heap[w.heap.size]? = some (.cells (packA (.slice a n cap) R) 25 (0, 0))) ∧ Hid (Below w.heap.size w wr)) (fun vi _ => n - (intOf vi).toNat)
  case atStart => exact ⟨0, by omega, rfl, none, 0, [], HO1.out, World.ownsRow_nil _ _ _ _, rowsO_nil _, HZ1.out, HB1.out, HE1.out⟩
  case round =>
    clear HO1 HZ1 HE1 HB1 HS2
    obtain ⟨k, hk, rfl, a5, c5, xs, hob, hown, hro, hz, hbx, hbel⟩ := hrel
    by_cases hlt : k < n
    · have hd : decide ((k : Int) < (n : Int)) = true := by simp; omega
      have dl : (k : Int) < (n : Int) := by omega
      have dk0 : ¬ (k : Int) < 0 := by omega
      have hkl : k < L.length := by rw [HN.out]; exact hlt
      obtain ⟨l, hl⟩ : ∃ l, l = L[k] := ⟨_, rfl⟩
      obtain ⟨g, o, v, hag, hg, hcell, pa, pc, rfl, hpb, hpn, hpl, hpm⟩ := HRW.out k l (by rw [hl]; exact List.getElem?_eq_getElem hkl)
      subst hag
      obtain ⟨ln, hln⟩ : ∃ ln, ln = l.length := ⟨_, rfl⟩
      have cl : wr.cell? ⟨g, o + k, none⟩ = some (.slice pa ln pc) := by rw [hln]; exact (hbel.out.cell (p := ⟨g, o + k, none⟩) hg).trans hcell
      have ek : IntKind.i64.wrap ((k : Int) + 1) = (k : Int) + 1 := by have := HNM.out; exact IntWalk.i64_in _ (by omega)
      have HLN : Hid (l.length = ln) := hln.symm
      have HPB := Lib.hid hpb
      have HPN := Lib.hid hpn
      have HLB : Hid (0 + ln ≤ 1000000) := by have := HLL.out l (by rw [hl]; exact List.getElem_mem _); show 0 + ln ≤ _; omega
      have HTK : Hid (L.take (k + 1) = L.take k ++ [l]) := by show _ = _; rw [hl, List.take_succ_eq_append_getElem hkl]
      have HK := Lib.hid hlt
      have HPB2 : Hid (BytesAt (wr.drew.alloc (.cells #[] 5)) pa pc l) := hpb.up (hbel.out.drew.alloc (by have := hbel.out.size; exact this) _) (Nat.le_refl _)
      have HOW0 : Hid ((wr.drew.alloc (.cells #[] 5)).ownsRow wr.heap.size 5 1 (.slice (some ⟨wr.heap.size, 0, none⟩) 0 0) 0 []) := own_none0 (w := wr.drew) (Nat.le_refl _)
      have HS2 : Hid ((wr.drew.alloc (.cells #[] 5)).cell? ⟨ob, 0, none⟩ = some (.slice a5 k c5)) := by
        show _ = _
        rw [cells_at ((heap_old' wr.drew _ _ (lt_of_block hob.out)).trans hob.out) 0]; rfl
      clear hl hln hcell hpb hpn hpl hpm hg hkl hlt hk
      go_wp2_with fail
      have hS : wr.drew.cell? ⟨ob, 0, none⟩ = some (.slice a5 k c5) := (cells_at (w := wr.drew) hob.out 0).trans rfl
      refine wp_region_T (S := fun w' => w'.cell? ⟨ob, 0, none⟩ = some (.slice a5 k c5)) (z := 8) (by kernel_rfl) ?_
      change wpAnyT _ _ _ _ _ _ 9 #[false, false, false, false, false, false, false, false, false] _ _
      refine wpAnyT_take (i := 0) (v := ?_) rfl (by kernel_rfl) (by kernel_rfl) (by kernel_rfl) (by kernel_rfl) (fun _ _ _ h => h) (Or.inl ⟨by rfl, ?hy⟩) hS ?_
      case hy => intro w' hSw; go_simp; try with_reducible rfl
      simp only [List.getElem_toArray, List.getElem_cons_succ, List.getElem_cons_zero, Act.put, List.setIfInBounds_toArray, List.set_cons_zero, List.set_cons_succ]
      change wpAnyT _ _ _ _ _ _ 8 #[true, false, false, false, false, false, false, false, false] _ _
      refine wpAnyT_take (i := 1) (v := ?_) rfl (by kernel_rfl) (by kernel_rfl) (by kernel_rfl) (by kernel_rfl) (fun _ _ _ h => h) (Or.inl ⟨by rfl, ?hy⟩) hS ?_
      case hy => intro w' hSw; have hc1 : w'.cell? ⟨ob, 0, none⟩ = some (.slice a5 k c5) := hSw; go_simp; try with_reducible rfl
      simp only [List.getElem_toArray, List.getElem_cons_succ, List.getElem_cons_zero, Act.put, List.setIfInBounds_toArray, List.set_cons_zero, List.set_cons_succ]
      change wpAnyT _ _ _ _ _ _ 7 #[true, true, false, false, false, false, false, false, false] _ _
      refine wpAnyT_take (i := 3) (v := ?_) rfl (by kernel_rfl) (by kernel_rfl) (by kernel_rfl) (by kernel_rfl) (fun _ _ _ h => h) (Or.inl ⟨by rfl, ?hy⟩) hS ?_
      case hy => intro w' hSw; go_simp; try with_reducible rfl
      simp only [List.getElem_toArray, List.getElem_cons_succ, List.getElem_cons_zero, Act.put, List.setIfInBounds_toArray, List.set_cons_zero, List.set_cons_succ]
      change wpAnyT _ _ _ _ _ _ 6 #[true, true, false, true, false, false, false, false, false] _ _
      refine wpAnyT_ready (rs := [2]) (by kernel_rfl) (by simp) ?_
      refine AllReadyT.cons rfl (fun K hK => ?_) AllReadyT.nil
      rw [if_pos (by rfl)]
      go_simp
      have hS2 : (wr.drew.alloc (.cells #[] 5)).cell? ⟨ob, 0, none⟩ = some (.slice a5 k c5) := HS2.out
      refine hK.out _ (wr.drew.alloc (.cells #[] 5)) (fun _ => hS2) ?_
      clear hK K
      simp only [List.getElem_toArray, List.getElem_cons_succ, List.getElem_cons_zero, Act.put, List.setIfInBounds_toArray, List.set_cons_zero, List.set_cons_succ]
      change wpAnyT _ _ _ _ _ _ 5 #[true, true, true, true, false, false, false, false, false] _ _
      refine wpAnyT_ready (rs := [4]) (by kernel_rfl) (by simp) ?_
      refine AllReadyT.cons rfl (fun K hK => ?_) AllReadyT.nil
      rw [if_pos (by rfl)]
      refine wp_append_bytes (v := .slice (some ⟨wr.heap.size, 0, none⟩) 0 0) (base := wr.heap.size) (n := 0) (xs := []) (l := l) (.tmp 17) (.tmp 18) rfl rfl HOW0.out rfl HLN.out HPB2.out HPN.out HLB.out (by simp) ?_
      intro v4 w4 hown4 hgr4
      rw [Nat.zero_add, List.nil_append] at hown4
      have hb4 : Below wr.heap.size wr w4 := ((Below.refl wr.heap.size wr).drew.alloc (Nat.le_refl _) _).grown hgr4 (by simp) (fun q h => by simp [Value.ownBlock] at h; omega)
      have hob4 := (hb4.block _ (lt_of_block hob.out)).trans hob.out
      have hS4 : w4.cell? ⟨ob, 0, none⟩ = some (.slice a5 k c5) := (cells_at hob4 0).trans rfl
      obtain ⟨a4, c4, hv4⟩ := own_slice hown4
      subst hv4
      refine hK.out _ _ (fun _ => hS4) ?_
      clear hK K
      simp only [List.getElem_toArray, List.getElem_cons_succ, List.getElem_cons_zero, Act.put, List.setIfInBounds_toArray, List.set_cons_zero, List.set_cons_succ]
      change wpAnyT _ _ _ _ _ _ 4 #[true, true, true, true, true, false, false, false, false] _ _
      refine wpAnyT_ready (rs := [5]) (by kernel_rfl) (by simp) ?_
      refine AllReadyT.cons rfl (fun K hK => ?_) AllReadyT.nil
      rw [if_pos (by rfl)]
      go_simp
      have hb5 : Below wr.heap.size wr (w4.alloc (.cells #[.slice a4 ln c4] 27)) := hb4.alloc hb4.size _
      have hob5 := (hb5.block _ (lt_of_block hob.out)).trans hob.out
      have hS5 : (w4.alloc (.cells #[.slice a4 ln c4] 27)).cell? ⟨ob, 0, none⟩ = some (.slice a5 k c5) := (cells_at hob5 0).trans rfl
      have hn5 : (w4.alloc (.cells #[.slice a4 ln c4] 27)).heap[w4.heap.size]? = some (.cells #[.slice a4 ln c4] 27 (0, 0)) := heap_new' _ _
      have ho5 : (w4.alloc (.cells #[.slice a4 ln c4] 27)).ownsRow wr.heap.size 5 1 (.slice a4 ln c4) ln (bA l).toList := World.ownsRow.alloc hown4 _
      refine hK.out _ (w4.alloc (.cells #[.slice a4 ln c4] 27)) (fun _ => hS5) ?_
      clear hK K
      simp only [List.getElem_toArray, List.getElem_cons_succ, List.getElem_cons_zero, Act.put, List.setIfInBounds_toArray, List.set_cons_zero, List.set_cons_succ]
      change wpAnyT _ _ _ _ _ _ 3 #[true, true, true, true, true, true, false, false, false] _ _
      generalize hw5 : w4.alloc (.cells #[.slice a4 ln c4] 27) = w5 at *
      refine wpAnyT_ready (rs := [6]) (by kernel_rfl) (by simp) ?_
      refine AllReadyT.cons rfl (fun K hK => ?_) AllReadyT.nil
      rw [if_pos (by rfl)]
      have hro5 : w5.ownsRow (ob + 1) 27 1 (.slice a5 k c5) k xs := own_up hown.out hb5
      refine wp_append_row (v := .slice a5 k c5) (base := ob + 1) (n := k) (xs := xs) (g := w4.heap.size) (u := .slice a4 ln c4) (.tmp 16) (.tmp 20) rfl rfl hro5 rfl ((cells_at hn5 0).trans rfl) rfl (by have := HNM.out; have := HK.out; omega) (by have := lt_of_block hob5; omega) ?_
      intro v6 w6 hown6 hgr6
      have hob6 := (hgr6.block _ (lt_of_block hob5) (fun e => by have := (hro5.lt _ e.symm).1; omega)).trans hob5
      have hS6 : w6.cell? ⟨ob, 0, none⟩ = some (.slice a5 k c5) := (cells_at hob6 0).trans rfl
      obtain ⟨a6, c6, hv6⟩ := own_sliceR hown6
      subst hv6
      refine hK.out _ _ (fun _ => hS6) ?_
      clear hK K
      simp only [List.getElem_toArray, List.getElem_cons_succ, List.getElem_cons_zero, Act.put, List.setIfInBounds_toArray, List.set_cons_zero, List.set_cons_succ]
      change wpAnyT _ _ _ _ _ _ 2 #[true, true, true, true, true, true, true, false, false] _ _
      refine wpAnyT_take (i := 7) (v := ?_) rfl (by kernel_rfl) (by kernel_rfl) (by kernel_rfl) (by kernel_rfl) (fun _ _ _ h => h) (Or.inl ⟨by rfl, ?hy⟩) hS6 ?_
      case hy => intro w' hSw; go_simp; try with_reducible rfl
      simp only [List.getElem_toArray, List.getElem_cons_succ, List.getElem_cons_zero, Act.put, List.setIfInBounds_toArray, List.set_cons_zero, List.set_cons_succ]
      change wpAnyT _ _ _ _ _ _ 1 #[true, true, true, true, true, true, true, true, false] _ _
      refine wpAnyT_ready (rs := [8]) (by kernel_rfl) (by simp) ?_
      refine AllReadyT.cons rfl (fun K hK => ?_) AllReadyT.nil
      rw [if_pos (by rfl)]
      have f6 := free_at hob6 0
      go_simp
      refine hK.out _ (w6.setCell ⟨ob, 0, none⟩ (.slice a6 (k + 1) c6)) (fun h => absurd h (by omega)) ?_
      clear hK K
      simp only [List.getElem_toArray, List.getElem_cons_succ, List.getElem_cons_zero, Act.put, List.setIfInBounds_toArray, List.set_cons_zero, List.set_cons_succ]
      change wpAnyT _ _ _ _ _ _ 0 #[true, true, true, true, true, true, true, true, true] _ _
      refine wpAnyT_done (by kernel_rfl) ?_ _
      have nb := block_at hob6 0 (.slice a6 (k + 1) c6)
      rw [pack_set0] at nb
      have HN1 := Lib.hid nb
      have HN2 : Hid ((w6.setCell ⟨ob, 0, none⟩ (.slice a6 (k + 1) c6)).ownsRow (ob + 1) 27 1 (.slice a6 (k + 1) c6) (k + 1) (xs ++ [.slice a4 ln c4])) := own_keep hown6 (fun q h => Below.heap_setCell _ _ _ _ (by have := (hown6.lt q h).1; intro e; have e2 : q = ob := e; omega))
      have hst : ∀ (g : Nat) (cur : Array Value), w6.heap[g]? = some (Obj.cells cur 5 (0, 0)) → (w6.setCell ⟨ob, 0, none⟩ (.slice a6 (k + 1) c6)).heap[g]? = w6.heap[g]? := fun g cur hg => Below.heap_setCell _ _ _ _ (typed_ne hg hob6 (by decide))
      have hgs : ∀ (g : Nat) (cur : Array Value), w5.heap[g]? = some (Obj.cells cur 5 (0, 0)) → w6.heap[g]? = w5.heap[g]? := fun g cur hg => hgr6.block g (lt_of_block hg) (own_ne hg hro5)
      have hrs : ∀ (g : Nat) (cur : Array Value), wr.heap[g]? = some (Obj.cells cur 5 (0, 0)) → w5.heap[g]? = wr.heap[g]? := fun g cur hg => hb5.block g (lt_of_block hg)
      have HN3 : Hid (RowsO (w6.setCell ⟨ob, 0, none⟩ (.slice a6 (k + 1) c6)) (xs ++ [.slice a4 ln c4]) (L.take (k + 1))) := by
        show RowsO _ _ _
        rw [HTK.out]
        refine RowsO.snoc (((hro.out.keep hrs).keep hgs).keep hst) HPB.out.1 ?_
        rw [HLN.out]
        exact own_typed (own_typed (own_mono ho5 (Nat.zero_le _)) hgs) hst
      have hne1 : w.heap.size + 1 ≠ ob ∧ w.heap.size ≠ ob ∧ w.heap.size + 1 < ob + 1 ∧ w.heap.size ≤ ob := by have := HOB.out; omega
      have hzz := fun (q : Nat) (A : Array Value) (t : TypeId) (h : wr.heap[q]? = some (.cells A t (0, 0))) (hq : q < ob) => (Below.heap_setCell w6 ⟨ob, 0, none⟩ (.slice a6 (k + 1) c6) q (by show q ≠ ob; omega)).trans ((hgr6.block q (Nat.lt_of_lt_of_le (lt_of_block h) hb5.size) (fun e => by have := (hro5.lt _ e.symm).1; omega)).trans ((hb5.block q (lt_of_block h)).trans h))
      have HN4 := Lib.hid (hzz _ _ _ hz.out (by omega))
      have HN5 := Lib.hid (hzz _ _ _ hbx.out (by omega))
      have HN6 : Hid (Below w.heap.size w (w6.setCell ⟨ob, 0, none⟩ (.slice a6 (k + 1) c6))) := ((hbel.out.trans (hb5.mono hbel.out.size)).grown hgr6 (Nat.le_trans hbel.out.size hb5.size) (fun q h => by have := (hro5.lt q h).1; omega)).setCell hne1.2.2.2 _
      clear hS hS2 hS4 hS5 hS6 hb4 hb5 hob4 hob5 hob6 hown4 hown6 hgr4 hgr6 hro5 hn5 ho5 nb hst hgs hrs hne1 hzz f6 hob hown hro hz hbx hbel HS2 hw5
      go_wp2
      go_roundw
      case rel => exact ⟨k + 1, by have := HK.out; omega, by go_num, a6, c6, _, HN1.out, HN2.out, HN3.out, HN4.out, HN5.out, HN6.out⟩
      case measure => simp [intOf]; have := HK.out; omega
    · have hkn : k = n := by omega
      have hd : decide ((k : Int) < (n : Int)) = false := by simp; omega
      have HR2 : Hid (RowsO wr xs L) := by
        have h := hro.out
        rw [hkn, List.take_of_length_le (by rw [HN.out]; exact Nat.le_refl _)] at h; exact h
      have HRX := Lib.hid (pack_roots hbx.out)
      have HKN := Lib.hid hkn
      have HOB2 := Lib.hid hob.out
      have HOW2 := Lib.hid hown.out
      have HZ2 := Lib.hid hz.out
      have HE2 := Lib.hid hbel.out
      clear hob hown hro hz hbx hbel hkn hk
      go_wp2_with (first
        | (refine wpList_load_mid rfl 23 (.tmp 24) rfl w.heap.size 1 rfl _ _ HRX.out Try.underlying23 rfl (by rw [sixteen23, List.length_map, H16.out]) ?_)
        | fail)
      go_loopw [26] (fun vi wx => ∃ j : Nat, j ≤ 16 ∧ vi = .int .i64 (j : Int) ∧ Hid (wx.heap[ob]? = some (.cells (packA (.slice a5 k c5) (partR R j)) 33 (0, 0))) ∧ Hid (wx.ownsRow (ob + 1) 27 1 (.slice a5 k c5) k xs) ∧ Hid (RowsO wx xs L) ∧ Hid (wx.heap[w.heap.size + 1]? = some (.cells #[.slice none 0 0, .int .i64 0, .int .i64 0, .int .i64 0, .int .i64 0, .int .i64 0, .int .i64 0, .int .i64 0, .int .i64 0, .int .i64 0, .int .i64 0, .int .i64 0, .int .i64 0, .int .i64 0, .int .i64 0, .int .i64 0, .int .i64 0] 33 (0, 0))) ∧ Hid (Below w.heap.size w wx)) (fun vi _ => 16 - (intOf vi).toNat)
      case atStart => exact ⟨0, by omega, rfl, HOB2.out, HOW2.out, HR2.out, HZ2.out, HE2.out⟩
      case round =>
        clear HOB2 HOW2 HR2 HZ2 HE2 HRX
        obtain ⟨j, hj, rfl, hob, hown, hro, hz, hbel⟩ := hrel
        by_cases hlj : j < 16
        · have hd2 : decide ((j : Int) < 16) = true := by simp; omega
          have dl2 : (j : Int) < 16 := by omega
          have dn2 : ¬ (j : Int) < 0 := by omega
          have hix := HIX.out j hlj
          have f0 := free_at hob.out (1 + j)
          have c0 := (cells_at hob.out (1 + j)).trans (packA_get _ _ j (by rw [partR_len R H16.out j hj]; exact hlj))
          have nb := block_at hob.out (1 + j) (.int .i64 (R.getD j 0))
          rw [partR_set _ R H16.out j hlj] at nb
          have HN1 := Lib.hid nb
          obtain ⟨r, hr⟩ : ∃ r, r = R.getD j 0 := ⟨_, rfl⟩
          simp only [← hr] at hix HN1
          have HJ := Lib.hid hlj
          have HQ : Hid (∀ q, q ≠ ob → (wr.setCell ⟨ob, 1 + j, none⟩ (.int .i64 r)).heap[q]? = wr.heap[q]?) := fun q h => Below.heap_setCell _ _ _ _ h
          clear nb hr hj hlj
          go_wp2
          go_roundw
          case rel =>
            refine ⟨j + 1, by have := HJ.out; omega, by go_num, HN1.out, ?_, ?_, ?_, ?_⟩
            · exact own_keep hown.out (fun q h => HQ.out q (by have := (hown.out.lt q h).1; omega))
            · exact hro.out.keep (fun g cur hg => HQ.out g (typed_ne hg hob.out (by decide)))
            · exact (HQ.out _ (by have := HOB.out; omega)).trans hz.out
            · exact hbel.out.setCell (p := ⟨ob, 1 + j, none⟩) (by have := HOB.out; show w.heap.size ≤ ob; omega) _
          case measure => simp [intOf]; have := HJ.out; omega
        · have hj16 : j = 16 := by omega
          have hd2 : decide ((j : Int) < 16) = false := by simp; omega
          have HF : Hid (wr.heap[ob]? = some (.cells (packA (.slice a5 k c5) R) 33 (0, 0))) := by
            have h := hob.out; rw [hj16, partR_full R H16.out] at h; exact h
          have HPS : Hid ((packA (.slice a5 k c5) R).size = 17) := by show _ = _; rw [pack_size, H16.out]
          have HOBL := Lib.hid (lt_of_block hob.out)
          clear hob hj16 hj
          go_wp2_with (first
            | (refine wpList_load_row rfl 33 (.tmp 3) rfl ob rfl _ _ _ _ HF.out Try.underlying33 rfl (by rw [pack33, HPS.out]) ?_)
            | (refine wpList_store_row rfl 33 (.tmp 2) (.tmp 35) rfl (w.heap.size + 1) (packA (.slice a5 k c5) R) rfl rfl 33 _ hz.out (by rw [pack33, HPS.out]) (by rw [HPS.out]; rfl) (packA_one _ _ _ _) ?_)
            | fail)
          have HBF := below_setRow hbel.out (Nat.le_succ w.heap.size) (packA (.slice a5 k c5) R)
          have HOF : World.ownsRow (wr.setRow (w.heap.size + 1) (packA (.slice a5 k c5) R)) (ob + 1) 27 1 (.slice a5 k c5) k xs := own_keep hown.out (fun q h => setRow_other _ _ _ _ (by have := (hown.out.lt q h).1; have := HOB.out; omega))
          obtain ⟨hlen, hrows⟩ := rowsAt_of HOF ((hro.out.keep (fun g cur hg => setRow_other _ _ _ _ (typed_ne hg hz.out (by decide)))).rows)
          refine bodyPost_ret (results_cell_row rfl _ _ (w.heap.size + 1) 33 (packA (.slice a5 k c5) R) (0, 0) _ rfl (setRow_heap _ _ _ _ _ _ hz.out) Try.underlying33 rfl (by rw [pack33, HPS.out])) rfl ?_
          have e := HKN.out
          subst e
          first
            | exact ⟨⟨a5, c5, rfl, hrows⟩, HBF⟩
            | exact ⟨⟨a5, ⟨c5, rfl⟩, hrows⟩, HBF⟩
end Go.Proofs.Ythpglpnonecnfaa
