/- pages.Parse. -/
import Derived.Test.YtpbmjfjnmcpieaaChX
set_option linter.unusedVariables false
set_option linter.unusedSimpArgs false
namespace Go.Proofs.Ytpbmjfjnmcpieaa
open Go Go.RowKit
attribute [local go_sem] Oper.semAt_some
def pcOf (b : List Nat) (j : Nat) : List Nat := (b.drop (16 * j)).take 16
/-- the page that sixteen bytes tell -/
def pgOf (e : List Nat) : Pg := ⟨leN (e.take 1), leN ((e.drop 1).take 1), leN ((e.drop 2).take 2), leN ((e.drop 4).take 4), leN ((e.drop 8).take 8)⟩
def pgsN (b : List Nat) : List Pg := (List.range 16).map fun j => pgOf (pcOf b j)
/-- a block's pages -/
def parseP (b : List Nat) : Option (List Pg) := if (pgsN b).all oneP then some (pgsN b) else none
theorem up_le : ∀ (l : List Nat) (k : Nat), (∀ x ∈ l, x < 256) → k < l.length → upB (leN l) k = l.getD k 0
  | [], k, _, hk => by simp at hk
  | c :: l, 0, h, _ => by
    have hc := h c List.mem_cons_self
    unfold upB leN
    simp; omega
  | c :: l, k + 1, h, hk => by
    have ih := up_le l k (fun x hx => h x (List.mem_cons_of_mem _ hx)) (by simpa using hk)
    have hc := h c List.mem_cons_self
    rw [List.getD_cons_succ, ← ih]
    unfold upB
    rw [leN, show 8 * (k + 1) = 8 + 8 * k by omega, Nat.pow_add, ← Nat.div_div_eq_div_mul]
    congr 2
    rw [show (2 : Nat) ^ 8 = 256 from rfl]; omega
theorem lowB_leN (l : List Nat) (n : Nat) (hn : l.length = n) (h : ∀ x ∈ l, x < 256) : lowB n (leN l) = l := by
  subst hn
  apply List.ext_getElem
  · rw [lowB_len]
  · intro k h1 h2
    have := up_le l k h h2
    rw [List.getD_eq_getElem?_getD, List.getElem?_eq_getElem h2] at this
    simp only [lowB, List.getElem_map, List.getElem_range]
    exact this
theorem one_of {l : List Nat} (h : l.length = 1) : l = [leN l] := by
  match l, h with
  | [x], _ => simp [leN]
theorem pgB_pgOf (e : List Nat) (h16 : e.length = 16) (h : ∀ x ∈ e, x < 256) : pgB (pgOf e) = e := by
  have hd : ∀ j, ∀ x ∈ e.drop j, x < 256 := fun j x hx => h x (List.mem_of_mem_drop hx)
  have ht : ∀ j n, ∀ x ∈ (e.drop j).take n, x < 256 := fun j n x hx => hd j x (List.mem_of_mem_take hx)
  have l1 : e.take 1 = [leN (e.take 1)] := one_of (by rw [List.length_take]; omega)
  have l2 : (e.drop 1).take 1 = [leN ((e.drop 1).take 1)] := one_of (by rw [List.length_take, List.length_drop]; omega)
  have m1 : leN (e.take 1) < 256 := by
    have := h (leN (e.take 1)) (List.mem_of_mem_take (i := 1) (by rw [l1]; simp [leN])); exact this
  have m2 : leN ((e.drop 1).take 1) < 256 := by
    have := ht 1 1 (leN ((e.drop 1).take 1)) (by rw [l2]; simp [leN]); exact this
  unfold pgB hdB pgOf
  simp only
  rw [lowB_leN _ 2 (by rw [List.length_take, List.length_drop]; omega) (ht 2 2), lowB_leN _ 4 (by rw [List.length_take, List.length_drop]; omega) (ht 4 4), lowB_leN _ 8 (by rw [List.length_take, List.length_drop]; omega) (ht 8 8), Nat.mod_eq_of_lt m1, Nat.mod_eq_of_lt m2]
  have e1 : e = e.take 1 ++ ((e.drop 1).take 1 ++ ((e.drop 2).take 2 ++ ((e.drop 4).take 4 ++ (e.drop 8).take 8))) := by
    have t8 : (e.drop 8).take 8 = e.drop 8 := List.take_of_length_le (by rw [List.length_drop]; omega)
    have s4 : e.drop 4 = (e.drop 4).take 4 ++ e.drop 8 := by
      conv => lhs; rw [← List.take_append_drop 4 (e.drop 4), List.drop_drop]
    have s2 : e.drop 2 = (e.drop 2).take 2 ++ e.drop 4 := by
      conv => lhs; rw [← List.take_append_drop 2 (e.drop 2), List.drop_drop]
    have s1 : e.drop 1 = (e.drop 1).take 1 ++ e.drop 2 := by
      conv => lhs; rw [← List.take_append_drop 1 (e.drop 1), List.drop_drop]
    rw [t8, ← s4, ← s2, ← s1, List.take_append_drop]
  conv => rhs; rw [e1, l1, l2]
  rfl
theorem pgOf_lt (e : List Nat) (h : ∀ x ∈ e, x < 256) : (pgOf e).kind < 256 ∧ (pgOf e).cls < 256 ∧ (pgOf e).run < 65536 ∧ (pgOf e).size < 4294967296 ∧ (pgOf e).ser < 18446744073709551616 := by
  have key : ∀ j n, leN ((e.drop j).take n) < 2 ^ (8 * n) := fun j n => by
    have h1 := leN_lt ((e.drop j).take n) (fun x hx => h x (List.mem_of_mem_drop (List.mem_of_mem_take hx)))
    exact Nat.lt_of_lt_of_le h1 (Nat.pow_le_pow_right (by decide) (by rw [List.length_take]; omega))
  have k0 := key 0 1
  rw [List.drop_zero] at k0
  exact ⟨k0, key 1 1, key 2 2, key 4 4, key 8 8⟩
theorem nextG (e : List Nat) (j n : Nat) (h : j + n ≤ e.length) : nextN n (e.drop j) 0 = (e.drop j).take n ∧ restN n (e.drop j) 0 = e.drop (j + n) ∧ errN n (e.drop j) 0 = 0 := by
  have : ¬ (e.drop j).length < n := by rw [List.length_drop]; omega
  unfold nextN restN errN
  simp only [if_true, if_neg this, List.drop_drop]
  exact ⟨trivial, trivial, trivial⟩
def pgAt (b : List Nat) (x : Fin 16) : Pg := pgOf (pcOf b x.1)
theorem pgsN_all (b : List Nat) : (upF 16 16).map (pgAt b) = pgsN b := by
  have : upF 16 16 = List.finRange 16 := by unfold upF; exact List.take_of_length_le (by simp)
  rw [this]
  unfold pgsN
  rfl
/-- what is known from round to round -/
def PI (b : List Nat) (n1 b2 b3 b4 : Nat) (w : World) (pre : List (Fin 16)) (W : World) : Prop :=
  (∃ v, W.heap[b4]? = some (.cells #[v] 50 (0, 0)) ∧ W.ownsRow n1 81 5 v pre.length (cellsP (pre.map (pgAt b)))) ∧
  W.heap[b2]? = some (.cells #[.slice none 0 0] 50 (0, 0)) ∧ W.heap[b3]? = some (.cells #[.int .i64 0] 26 (0, 0)) ∧ Below w.heap.size w W ∧ n1 ≤ W.heap.size ∧ ∀ x ∈ pre, oneP (pgAt b x) = true
def PIx (b : List Nat) (b2 b3 : Nat) (w : World) (c : Code) (pre : List (Fin 16)) (W : World) : Prop :=
  c = .ret ∧ W.heap[b2]? = some (.cells #[.slice none 0 0] 50 (0, 0)) ∧ W.heap[b3]? = some (.cells #[.int .i64 4] 26 (0, 0)) ∧ Below w.heap.size w W ∧ ∃ x : Fin 16, oneP (pgAt b x) = false
theorem kept_cellsG {W W' : World} {row : Option Nat} (hg : W.grownBy W' row) (hr : ∀ r, row = some r → ∃ o : Obj, W.heap[r]? = some o ∧ o.isCells = false) {k : Nat} {A : Array Value} {t : TypeId} {z : Nat × Nat} (h : W.heap[k]? = some (.cells A t z)) :
    W'.heap[k]? = some (.cells A t z) := by
  refine (hg.block k (lt_of_block h) ?_).trans h
  intro e
  obtain ⟨o, ho, hc⟩ := hr k e.symm
  rw [h] at ho; cases ho; cases hc
theorem own_keptG {W W' : World} {row : Option Nat} (hg : W.grownBy W' row) (hr : ∀ r, row = some r → ∃ o : Obj, W.heap[r]? = some o ∧ o.isCells = false) {base n : Nat} {e : TypeId} {size : Nat} {v : Value} {xs : List Value} (h : W.ownsRow base e size v n xs) : W'.ownsRow base e size v n xs := by
  refine ⟨h.1, ?_⟩
  rcases h.2 with h | ⟨g, cap, cur, e1, e2, e3, e4⟩
  · exact .inl h
  · exact .inr ⟨g, cap, cur, e1, e2, kept_cellsG hg hr e3, e4⟩
theorem PI_own (b : List Nat) (n1 b2 b3 b4 : Nat) (w : World) (hn1 : w.heap.size ≤ n1) : OwnFrom n1 (PI b n1 b2 b3 b4 w) := by
  intro s W W' row h hg hr
  have hr' : ∀ r, row = some r → ∃ o : Obj, W.heap[r]? = some o ∧ o.isCells = false := fun r e => (hr r e).2
  obtain ⟨⟨v, h1, h2⟩, h3, h4, h5, h6, h7⟩ := h
  exact ⟨⟨v, kept_cellsG hg hr' h1, own_keptG hg hr' h2⟩, kept_cellsG hg hr' h3, kept_cellsG hg hr' h4, h5.grown hg h5.size (fun k e => Nat.le_trans hn1 (hr k e).1), Nat.le_trans h6 hg.size, h7⟩
theorem PIx_own (b : List Nat) (n1 b2 b3 : Nat) (w : World) (hn1 : w.heap.size ≤ n1) (c : Code) : OwnFrom n1 (PIx b b2 b3 w c) := by
  intro s W W' row h hg hr
  have hr' : ∀ r, row = some r → ∃ o : Obj, W.heap[r]? = some o ∧ o.isCells = false := fun r e => (hr r e).2
  obtain ⟨h1, h2, h3, h4, h5⟩ := h
  exact ⟨h1, kept_cellsG hg hr' h2, kept_cellsG hg hr' h3, h4.grown hg h4.size (fun k e => Nat.le_trans hn1 (hr k e).1), h5⟩
theorem keepsO_below {W W' : World} (h : Below W.heap.size W W') : KeepsOthers W W' := ⟨h.size, fun k o hk _ => (h.block k (Array.getElem?_eq_some_iff.1 hk).1).trans hk⟩
/-- what a round leaves as it was -/
def KpG (Bc n1 : Nat) (W W' : World) : Prop := W.heap.size ≤ W'.heap.size ∧ ∀ k, k < n1 → k ≠ Bc → W'.heap[k]? = W.heap[k]?
theorem KpG_t (Bc n1 : Nat) {A B C : World} (h1 : KpG Bc n1 A B) (h2 : KpG Bc n1 B C) : KpG Bc n1 A C :=
  ⟨Nat.le_trans h1.1 h2.1, fun k hk hc => (h2.2 k hk hc).trans (h1.2 k hk hc)⟩
theorem KpG_cell (Bc n1 B o : Nat) (hB : B < n1) (hc : B ≠ Bc) {A C : World} (h : KpG Bc n1 A C) : C.cell? ⟨B, o, none⟩ = A.cell? ⟨B, o, none⟩ := World.cell?_of_block (h.2 B hB hc)
/-- what Parse answers -/
def ParsePg (B : Nat) (w' : World) (e : Ending) (b : List Nat) : Prop := match parseP b with
  | none => e = .returned (.tuple #[.slice none 0 0, .int .i64 4])
  | some L => ∃ v, e = .returned (.tuple #[v, .int .i64 0]) ∧ w'.ownsRow B 81 5 v 16 (cellsP L)
set_option maxRecDepth 100000 in
set_option maxHeartbeats 8000000 in
theorem pparse_c (gk o cap m : Nat) (b : List Nat) (hlen : b.length = 256) (hm : m = 16 * 16) (hcap : 256 ≤ cap) (w : World) (hv : BytesAt w (some ⟨gk, o, none⟩) cap b) :
    Calls Try.prog 28 #[.slice (some ⟨gk, o, none⟩) m cap] w fun e w' => ParsePg w.heap.size w' e b ∧ Below w.heap.size w w' := by
  have HV := Lib.hid hv
  have HLN := Lib.hid hlen
  have HM := Lib.hid hm
  have HC := Lib.hid hcap
  have dm : ((m : Int) == 256) = true := by rw [hm]; rfl
  have im : (m : Int) = 256 := by rw [hm]; rfl
  clear hv hlen hm hcap
  refine (callsIn_wide (n := 5)).1 ?_
  refine callsIn_of_wp_marks Try.func28 rfl trivial ?_ rfl
  simp only [Try.ntmps28, List.size_toArray, List.length_cons, List.length_nil, Nat.reduceAdd, Nat.reduceSub, Array.replicate_succ, Array.replicate_zero, List.push_toArray, List.append_toArray, List.nil_append, List.cons_append]
  gi_wp2_with fail
  refine ⟨trivial, callsIn_wide.2 ((chunkS_c _ _ _ _).mono ?_)⟩
  rintro e w1 ⟨rfl, rfl⟩
  gi_wp2
  obtain ⟨W0, hW0⟩ : ∃ W0, W0 = (((((w.alloc (.cells #[.slice none 0 0] 50)).alloc (.cells #[.int .i64 0] 26)).alloc (.cells #[.slice none 0 0] 50)).alloc (.cells #[.slice (some ⟨gk, o, none⟩) m cap] 34)).alloc (.cells #[.int .i64 16] 3)) := ⟨_, rfl⟩
  have z0 : W0.heap.size = w.heap.size + 5 := by rw [hW0]; simp
  have g0 : W0.heap[w.heap.size]? = some (.cells #[.slice none 0 0] 50 (0, 0)) := by
    rw [hW0, heap_old' _ _ _ (by simp <;> omega), heap_old' _ _ _ (by simp <;> omega), heap_old' _ _ _ (by simp <;> omega), heap_old' _ _ _ (by simp), heap_new']
  have g1 : W0.heap[w.heap.size + 1]? = some (.cells #[.int .i64 0] 26 (0, 0)) := by
    rw [hW0, heap_old' _ _ _ (by simp <;> omega), heap_old' _ _ _ (by simp <;> omega), heap_old' _ _ _ (by simp)]
    exact heap_new' (w.alloc _) _ |> fun h => by rw [World.size_alloc] at h; exact h
  have g2 : W0.heap[w.heap.size + 1 + 1]? = some (.cells #[.slice none 0 0] 50 (0, 0)) := by
    rw [hW0, heap_old' _ _ _ (by simp <;> omega), heap_old' _ _ _ (by simp)]
    exact heap_new' ((w.alloc _).alloc _) _ |> fun h => by rw [World.size_alloc, World.size_alloc] at h; exact h
  have g3 : W0.cell? ⟨w.heap.size + 1 + 1 + 1, 0, none⟩ = some (.slice (some ⟨gk, o, none⟩) (16 * 16) cap) := by
    have h : W0.heap[w.heap.size + 1 + 1 + 1]? = some (.cells #[.slice (some ⟨gk, o, none⟩) m cap] 34 (0, 0)) := by
      rw [hW0, heap_old' _ _ _ (by simp)]
      exact heap_new' (((w.alloc _).alloc _).alloc _) _ |> fun h => by rw [World.size_alloc, World.size_alloc, World.size_alloc] at h; exact h
    rw [HM.out] at h
    exact (cells_at h 0).trans rfl
  have g4 : W0.cell? ⟨w.heap.size + 1 + 1 + 1 + 1, 0, none⟩ = some (.int .i64 16) := by
    have h : W0.heap[w.heap.size + 1 + 1 + 1 + 1]? = some (.cells #[.int .i64 16] 3 (0, 0)) := by
      rw [hW0]
      exact heap_new' ((((w.alloc _).alloc _).alloc _).alloc _) _ |> fun h => by rw [World.size_alloc, World.size_alloc, World.size_alloc, World.size_alloc] at h; exact h
    exact (cells_at h 0).trans rfl
  have gb : Below w.heap.size w W0 := by rw [hW0]; exact (((((Below.refl _ _).alloc (Nat.le_refl _) _).alloc (by simp) _).alloc (by simp <;> omega) _).alloc (by simp <;> omega) _).alloc (by simp <;> omega) _
  rw [← hW0]
  clear hW0
  have HI0 : Hid (PI b W0.heap.size w.heap.size (w.heap.size + 1) (w.heap.size + 1 + 1) w [] W0) := ⟨⟨_, g2, rfl, .inl ⟨rfl, rfl⟩⟩, g0, g1, gb, Nat.le_refl _, fun x h => by cases h⟩
  have HSEQ : Hid (SeqStopsK Fence.wide 4 Try.prog 70 #[.pointer (some ⟨w.heap.size + 1 + 1 + 1, 0, none⟩), .pointer (some ⟨w.heap.size + 1 + 1 + 1 + 1, 0, none⟩)] (fun x : Fin 16 => #[pcS gk o x.1]) (KpG (w.heap.size + 1 + 1) W0.heap.size) (fun xs => xs = upF 16 16) (fun _ => True) 16 W0) :=
    chunkS_stops 4 (w.heap.size + 1 + 1 + 1) (w.heap.size + 1 + 1 + 1 + 1) gk o cap 16 (by have := HC.out; omega) (by omega) _ (fun A B h => ⟨KpG_cell _ _ _ _ (by omega) (by omega) h, KpG_cell _ _ _ _ (by omega) (by omega) h, h.1⟩) W0 (by omega) (by omega) g3 g4
  have HZ0 := Lib.hid z0
  clear g0 g1 g2 g3 g4 gb z0
  refine wpIn_rangeFunc_ownF (α := Fin 16) rfl (by omega) (gf := 70) (lb := #[.pointer (some ⟨w.heap.size + 1 + 1 + 1, 0, none⟩), .pointer (some ⟨w.heap.size + 1 + 1 + 1 + 1, 0, none⟩)]) rfl trivial (enters_of Try.func70 (by kernel_rfl) rfl) HSEQ.out (fun h1 h2 => KpG_t _ _ h1 h2)
    (fun W l o o' hl ho hc _ => ⟨by simp, fun k hk hkc => World.putObj_heap_other (by omega)⟩) (Below.refl _ _) (fun _ => rfl) (PI b W0.heap.size w.heap.size (w.heap.size + 1) (w.heap.size + 1 + 1) w) (PIx b w.heap.size (w.heap.size + 1) w)
    (PI_own _ _ _ _ _ _ (by have := HZ0.out; omega)) (fun c => PIx_own _ _ _ _ _ (by have := HZ0.out; omega) c) HI0.out
    (fun x => { tmps := #[.slice (some ⟨gk, o, none⟩) m cap, undef, .pointer (some ⟨w.heap.size, 0, none⟩), .pointer (some ⟨w.heap.size + 1, 0, none⟩), .pointer (some ⟨w.heap.size + 1 + 1, 0, none⟩), pcS gk o x.1, undef, undef, .slice (some ⟨gk, o, none⟩) m cap, .int .i64 256, .bool false, .slice (some ⟨gk, o, none⟩) m cap, .func (.func 70) #[] #[.pointer (some ⟨w.heap.size + 1 + 1 + 1, 0, none⟩), .pointer (some ⟨w.heap.size + 1 + 1 + 1 + 1, 0, none⟩)], pcS gk o x.1, undef, undef, undef, undef, undef, undef, undef, undef, undef, undef, undef, undef, undef, undef, undef, undef, undef, undef, undef, undef, undef, undef, undef, undef, undef, undef, undef, undef, undef, undef, undef, undef], defers := [] }) ?assign ?body ?done ?stop
  case assign =>
    intro l x W K hK
    gi_wp2
    exact hK
  case stop =>
    rintro D c pre W hDn _ ⟨rfl, h2, h3, h4, x, hx⟩ hD
    clear HI0 HSEQ
    have HP : Hid (parseP b = none) := by
      show _ = _
      unfold parseP
      rw [if_neg]
      rw [← pgsN_all, List.all_map, List.all_eq_true]
      intro h
      have := h x (by unfold upF; rw [List.take_of_length_le (by simp)]; exact List.mem_finRange x)
      simp only [Function.comp_apply] at this
      rw [hx] at this; cases this
    have HB := Lib.hid h4
    have c2 : ∀ o, (W.putObj D o).cell? ⟨w.heap.size, 0, none⟩ = some (.slice none 0 0) := fun o => by
      rw [World.cell?_of_block (World.putObj_heap_other (by rintro rfl; rw [h2] at hD; cases hD))]; exact (cells_at h2 0).trans rfl
    have c3 : ∀ o, (W.putObj D o).cell? ⟨w.heap.size + 1, 0, none⟩ = some (.int .i64 4) := fun o => by
      rw [World.cell?_of_block (World.putObj_heap_other (by rintro rfl; rw [h3] at hD; cases hD))]; exact (cells_at h3 0).trans rfl
    gi_wp2
    refine ⟨by simp, .inl ⟨_, _, rfl, run_takeDeferred hD, ?_⟩⟩
    refine ⟨.tuple #[.slice none 0 0, .int .i64 4], ?res, ?ans, ?bel⟩
    case res => simp [results, Try.f28, go_sem, c2, c3]
    case ans => unfold ParsePg; rw [HP.out]
    case bel => exact HB.out.grown (grownBy_putObj' _ _ _) HB.out.size (fun r e => by cases e; have := HZ0.out; omega)
  case done =>
    rintro D xs W hD rfl ⟨⟨v, i1, i2⟩, i3, i4, i5, i6, i7⟩ hDD
    clear HI0 HSEQ
    have HP : Hid (parseP b = some (pgsN b)) := by
      show _ = _
      unfold parseP
      rw [if_pos]
      rw [← pgsN_all, List.all_map, List.all_eq_true]
      intro y hy
      exact i7 y hy
    rw [pgsN_all] at i2
    rw [upF_len _ _ (Nat.le_refl _)] at i2
    obtain ⟨va, vc, rfl⟩ := own_sliceR i2
    have HO := Lib.hid i2
    have HB := Lib.hid i5
    have hne2 : D ≠ w.heap.size := by rintro rfl; rw [i3] at hDD; cases hDD
    have hne3 : D ≠ w.heap.size + 1 := by rintro rfl; rw [i4] at hDD; cases hDD
    have f2 := free_at i3 0
    have f3 := free_at i4 0
    have c2 := (cells_at i3 0).trans (show _ = some (Value.slice none 0 0) from rfl)
    have c3 := (cells_at i4 0).trans (show _ = some (Value.int .i64 0) from rfl)
    have c4 := (cells_at i1 0).trans (show _ = some (Value.slice va 16 vc) from rfl)
    have n2 : (W.setCell ⟨w.heap.size, 0, none⟩ (.slice va 16 vc)).heap[w.heap.size]? = some (.cells #[.slice va 16 vc] 50 (0, 0)) := (block_at i3 0 (.slice va 16 vc)).trans rfl
    have n3 : ((W.setCell ⟨w.heap.size, 0, none⟩ (.slice va 16 vc)).setCell ⟨w.heap.size + 1, 0, none⟩ (.int .i64 0)).heap[w.heap.size + 1]? = some (.cells #[.int .i64 0] 26 (0, 0)) := (block_at ((Below.heap_setCell _ _ _ _ (by simp)).trans i4) 0 _).trans rfl
    have n2' : ((W.setCell ⟨w.heap.size, 0, none⟩ (.slice va 16 vc)).setCell ⟨w.heap.size + 1, 0, none⟩ (.int .i64 0)).heap[w.heap.size]? = some (.cells #[.slice va 16 vc] 50 (0, 0)) := (Below.heap_setCell _ _ _ _ (by simp)).trans n2
    have nD : ((W.setCell ⟨w.heap.size, 0, none⟩ (.slice va 16 vc)).setCell ⟨w.heap.size + 1, 0, none⟩ (.int .i64 0)).heap[D]? = some (.deferred (some [])) := (Below.heap_setCell _ _ _ _ (by simpa using hne3)).trans ((Below.heap_setCell _ _ _ _ (by simpa using hne2)).trans hDD)
    have NO : Hid (((W.setCell ⟨w.heap.size, 0, none⟩ (.slice va 16 vc)).setCell ⟨w.heap.size + 1, 0, none⟩ (.int .i64 0)).ownsRow W0.heap.size 81 5 (.slice va 16 vc) 16 (cellsP (pgsN b))) := ownsRow_setCell_below (ownsRow_setCell_below HO.out (by have := HZ0.out; show w.heap.size < _; omega) _) (by have := HZ0.out; show w.heap.size + 1 < _; omega) _
    have NB : Hid (Below w.heap.size w ((W.setCell ⟨w.heap.size, 0, none⟩ (.slice va 16 vc)).setCell ⟨w.heap.size + 1, 0, none⟩ (.int .i64 0))) := (HB.out.setCell (Nat.le_refl _) _).setCell (by show w.heap.size ≤ w.heap.size + 1; omega) _
    have N2 := Lib.hid n2'
    have N3 := Lib.hid n3
    have ND := Lib.hid nD
    clear n2 n2' n3 nD i1 i2 i3 i4 i5 i6 i7 hDD
    gi_wp2
    generalize (W.setCell ⟨w.heap.size, 0, none⟩ (.slice va 16 vc)).setCell ⟨w.heap.size + 1, 0, none⟩ (.int .i64 0) = W2 at *
    refine ⟨by simp, .inl ⟨_, _, rfl, run_takeDeferred ND.out, ?_⟩⟩
    have d2 : ∀ o, (W2.putObj D o).cell? ⟨w.heap.size, 0, none⟩ = some (Value.slice va 16 vc) := fun o => by
      rw [World.cell?_of_block (World.putObj_heap_other (Ne.symm hne2))]; exact (cells_at N2.out 0).trans rfl
    have d3 : ∀ o, (W2.putObj D o).cell? ⟨w.heap.size + 1, 0, none⟩ = some (.int .i64 0) := fun o => by
      rw [World.cell?_of_block (World.putObj_heap_other (Ne.symm hne3))]; exact (cells_at N3.out 0).trans rfl
    refine ⟨.tuple #[.slice va 16 vc, .int .i64 0], ?res, ?ans, ?bel⟩
    case res => simp [results, Try.f28, go_sem, d2, d3]
    case ans =>
      unfold ParsePg; rw [HP.out]
      exact ⟨_, rfl, own_mono (own_keptG (grownBy_putObj' _ _ _) (fun r e => by cases e; exact ⟨_, ND.out, rfl⟩) NO.out) (by have := HZ0.out; omega)⟩
    case bel => exact NB.out.grown (grownBy_putObj' _ _ _) NB.out.size (fun r e => by cases e; have := HZ0.out; omega)
  case body =>
    clear HI0 HSEQ
    rintro l pre x W ⟨⟨v, i1, i2⟩, i3, i4, i5, i6, i7⟩ hpre
    have hx16 := x.2
    have hgk : gk < w.heap.size := by
      obtain ⟨g', o', e1, _, e3, _⟩ := HV.out.2 (by rw [HLN.out]; omega)
      cases e1; exact e3
    have hpl : (pcOf b x.1).length = 16 := by unfold pcOf; rw [List.length_take, List.length_drop, HLN.out]; omega
    have hpb : ∀ y ∈ pcOf b x.1, y < 256 := fun y hy => HV.out.1 y (List.mem_of_mem_drop (List.mem_of_mem_take hy))
    have hsub : BytesAt W (some ⟨gk, o + 16 * x.1, none⟩) 16 (pcOf b x.1) := by
      refine ⟨hpb, fun _ => ⟨gk, _, rfl, by rw [hpl]; exact Nat.le_refl _, Nat.lt_of_lt_of_le hgk i5.size, fun j hj => ?_⟩⟩
      rw [hpl] at hj
      obtain ⟨g', o', e1, _, _, e4⟩ := HV.out.2 (by rw [HLN.out]; omega)
      cases e1
      rw [i5.cell (p := ⟨gk, o + 16 * x.1 + j, none⟩) hgk, Nat.add_assoc, e4 (16 * x.1 + j) (by rw [HLN.out]; omega), List.getD_eq_getElem?_getD, List.getD_eq_getElem?_getD]
      unfold pcOf
      rw [List.getElem?_take_of_lt hj, List.getElem?_drop]
    have hsl : SlAt W (.slice (some ⟨gk, o + 16 * x.1, none⟩) 16 16) (pcOf b x.1) := ⟨_, 16, by rw [hpl], hsub, (fun h => by cases h), by rw [hpl]; exact Nat.le_refl _, by unfold maxLen; omega⟩
    obtain ⟨e, he⟩ : ∃ e, e = pcOf b x.1 := ⟨_, rfl⟩
    have HPG : Hid (pgAt b x = pgOf e) := by show _ = _; rw [he]; rfl
    rw [← he] at hpl hpb hsub hsl
    have HEL := Lib.hid hpl
    have HEB := Lib.hid hpb
    have HSUB := Lib.hid hsub
    have HOF := Lib.hid (rowof_c _ e (by rw [hpl]; omega) W hsl)
    have H1 := Lib.hid i1
    have H2 := Lib.hid i2
    have H3 := Lib.hid i3
    have H4 := Lib.hid i4
    have H5 := Lib.hid i5
    have H6 := Lib.hid i6
    have H7 := Lib.hid i7
    have HGK := Lib.hid hgk
    clear i1 i2 i3 i4 i5 i6 i7 hsl hsub hpb hpl he hgk
    unfold pcS
    gi_wp2_with fail
    refine ⟨trivial, CallsIn.inRound l (callsIn_wide.2 (HOF.out.mono ?_))⟩
    rintro q w2 ⟨rb, rfl, hrb, hr2, hb2⟩
    obtain ⟨p, hp⟩ : ∃ p, p = pgOf e := ⟨_, rfl⟩
    have HPE : Hid (pgB p = e) := by show _ = _; rw [hp]; exact pgB_pgOf e HEL.out HEB.out
    have hlt := pgOf_lt e HEB.out
    rw [← hp] at hlt HPG
    have key : ∀ j n, j + n ≤ 16 → leN (nextN n (e.drop j) 0) = leN ((e.drop j).take n) ∧ restN n (e.drop j) 0 = e.drop (j + n) ∧ errN n (e.drop j) 0 = 0 := fun j n h => by
      obtain ⟨k1, k2, k3⟩ := nextG e j n (by rw [HEL.out]; exact h)
      exact ⟨by rw [k1], k2, k3⟩
    obtain ⟨kd, cl, rn, zz, sr⟩ := p
    have hpf : kd = leN ((e.drop 0).take 1) ∧ cl = leN ((e.drop 1).take 1) ∧ rn = leN ((e.drop 2).take 2) ∧ zz = leN ((e.drop 4).take 4) ∧ sr = leN ((e.drop 8).take 8) := by
      unfold pgOf at hp
      injection hp with a1 a2 a3 a4 a5
      exact ⟨by rw [List.drop_zero]; exact a1, a2, a3, a4, a5⟩
    have K0 : Hid (leN (nextN 1 (e.drop 0) 0) = kd ∧ restN 1 (e.drop 0) 0 = e.drop 1 ∧ errN 1 (e.drop 0) 0 = 0) := by have := key 0 1 (by omega); rw [hpf.1]; exact this
    have K1 : Hid (leN (nextN 1 (e.drop 1) 0) = cl ∧ restN 1 (e.drop 1) 0 = e.drop 2 ∧ errN 1 (e.drop 1) 0 = 0) := by have := key 1 1 (by omega); rw [hpf.2.1]; exact this
    have K2 : Hid (leN (nextN 2 (e.drop 2) 0) = rn ∧ restN 2 (e.drop 2) 0 = e.drop 4 ∧ errN 2 (e.drop 2) 0 = 0) := by have := key 2 2 (by omega); rw [hpf.2.2.1]; exact this
    have K4 : Hid (leN (nextN 4 (e.drop 4) 0) = zz ∧ restN 4 (e.drop 4) 0 = e.drop 8 ∧ errN 4 (e.drop 4) 0 = 0) := by have := key 4 4 (by omega); rw [hpf.2.2.2.1]; exact this
    have K8 : Hid (leN (nextN 8 (e.drop 8) 0) = sr ∧ restN 8 (e.drop 8) 0 = e.drop 16 ∧ errN 8 (e.drop 8) 0 = 0) := by have := key 8 8 (by omega); rw [hpf.2.2.2.2]; exact this
    simp only at hlt
    obtain ⟨l1, l2, l3, l4, l5⟩ := hlt
    clear hpf key hp HOF
    have hrw2 : RowIs w2 rb (e.drop 0) 0 := hr2
    gi_wp2_with fail
    refine ⟨trivial, CallsIn.inRound l (callsIn_wide.2 ((num_c rb 1 (by omega) (by omega) 1 rfl (e.drop 0) (by rw [List.length_drop, HEL.out]; omega) 0 w2 hrw2).mono ?_))⟩
    rintro q w3 ⟨rfl, hrw3, hsw3⟩
    rw [K0.out.2.1, K0.out.2.2] at hrw3
    rw [K0.out.1]
    gi_wp2_with fail
    refine ⟨trivial, CallsIn.inRound l (callsIn_wide.2 ((num_c rb 1 (by omega) (by omega) 1 rfl (e.drop 1) (by rw [List.length_drop, HEL.out]; omega) 0 w3 hrw3).mono ?_))⟩
    rintro q w4 ⟨rfl, hrw4, hsw4⟩
    rw [K1.out.2.1, K1.out.2.2] at hrw4
    rw [K1.out.1]
    gi_wp2_with fail
    refine ⟨trivial, CallsIn.inRound l (callsIn_wide.2 ((num_c rb 2 (by omega) (by omega) 2 rfl (e.drop 2) (by rw [List.length_drop, HEL.out]; omega) 0 w4 hrw4).mono ?_))⟩
    rintro q w5 ⟨rfl, hrw5, hsw5⟩
    rw [K2.out.2.1, K2.out.2.2] at hrw5
    rw [K2.out.1]
    gi_wp2_with fail
    refine ⟨trivial, CallsIn.inRound l (callsIn_wide.2 ((num_c rb 4 (by omega) (by omega) 4 rfl (e.drop 4) (by rw [List.length_drop, HEL.out]; omega) 0 w5 hrw5).mono ?_))⟩
    rintro q w6 ⟨rfl, hrw6, hsw6⟩
    rw [K4.out.2.1, K4.out.2.2] at hrw6
    rw [K4.out.1]
    gi_wp2_with fail
    refine ⟨trivial, CallsIn.inRound l (callsIn_wide.2 ((num_c rb 8 (by omega) (by omega) 8 rfl (e.drop 8) (by rw [List.length_drop, HEL.out]; omega) 0 w6 hrw6).mono ?_))⟩
    rintro q w7 ⟨rfl, hrw7, hsw7⟩
    rw [K8.out.2.1, K8.out.2.2] at hrw7
    rw [K8.out.1]
    gi_wp2_with fail
    have hb7 : Below W.heap.size W w7 := ((((hb2.trans (hsw3.1.mono hrb)).trans (hsw4.1.mono hrb)).trans (hsw5.1.mono hrb)).trans (hsw6.1.mono hrb)).trans (hsw7.1.mono hrb)
    have HB8 : Hid (Below W.heap.size W (w7.alloc (.cells #[.int .i64 (kd : Int), .int .i64 (cl : Int), .int .i64 (rn : Int), .int .i64 (zz : Int), .int .u64 (sr : Int)] 81))) := hb7.trans ((below_box w7 _).mono hb7.size)
    have HP8 : Hid ((w7.alloc (.cells #[.int .i64 (kd : Int), .int .i64 (cl : Int), .int .i64 (rn : Int), .int .i64 (zz : Int), .int .u64 (sr : Int)] 81)).heap[w7.heap.size]? = some (.cells (pgA ⟨kd, cl, rn, zz, sr⟩) 81 (0, 0))) := heap_new' _ _
    have HWS : Hid (W.heap.size ≤ w7.heap.size) := hb7.size
    clear hb7 hrw2 hrw3 hrw4 hrw5 hrw6 hrw7 hsw3 hsw4 hsw5 hsw6 hsw7 hr2 hb2 hrb K0 K1 K2 K4 K8
    generalize w7.alloc (.cells #[.int .i64 (kd : Int), .int .i64 (cl : Int), .int .i64 (rn : Int), .int .i64 (zz : Int), .int .u64 (sr : Int)] 81) = w8 at *
    refine ⟨trivial, CallsIn.inRound l (callsIn_wide.2 ((pgbad_c ⟨kd, cl, rn, zz, sr⟩ (by show zz < _; omega) w8).mono ?_))⟩
    rintro q w9 ⟨rfl, hb9⟩
    have HB9 : Hid (Below W.heap.size W w9) := HB8.out.trans (hb9.mono HB8.out.size)
    have HP9 := Lib.hid ((hb9.block _ (lt_of_block HP8.out)).trans HP8.out)
    clear hb9 HB8 HP8
    cases hone : oneP ⟨kd, cl, rn, zz, sr⟩ with
    | false =>
      have HN : Hid (oneP (pgAt b x) = false) := by show _ = _; rw [HPG.out]; exact hone
      have h3 := (HB9.out.block _ (lt_of_block H3.out)).trans H3.out
      have h4 := (HB9.out.block _ (lt_of_block H4.out)).trans H4.out
      have f2 := free_at h3 0
      have f3 := free_at h4 0
      have c2 := (cells_at h3 0).trans (show _ = some (Value.slice none 0 0) from rfl)
      have c3 := (cells_at h4 0).trans (show _ = some (Value.int .i64 0) from rfl)
      have n2 : (w9.setCell ⟨w.heap.size, 0, none⟩ (.slice none 0 0)).heap[w.heap.size]? = some (.cells #[.slice none 0 0] 50 (0, 0)) := (block_at h3 0 _).trans rfl
      have n3 : Hid (((w9.setCell ⟨w.heap.size, 0, none⟩ (.slice none 0 0)).setCell ⟨w.heap.size + 1, 0, none⟩ (.int .i64 4)).heap[w.heap.size + 1]? = some (.cells #[.int .i64 4] 26 (0, 0))) := (block_at ((Below.heap_setCell _ _ _ _ (by simp)).trans h4) 0 _).trans rfl
      have n2' : Hid (((w9.setCell ⟨w.heap.size, 0, none⟩ (.slice none 0 0)).setCell ⟨w.heap.size + 1, 0, none⟩ (.int .i64 4)).heap[w.heap.size]? = some (.cells #[.slice none 0 0] 50 (0, 0))) := (Below.heap_setCell _ _ _ _ (by simp)).trans n2
      have NB : Hid (Below w.heap.size w ((w9.setCell ⟨w.heap.size, 0, none⟩ (.slice none 0 0)).setCell ⟨w.heap.size + 1, 0, none⟩ (.int .i64 4))) := ((H5.out.trans (HB9.out.mono H5.out.size)).setCell (Nat.le_refl _) _).setCell (by show w.heap.size ≤ w.heap.size + 1; omega) _
      have NK : Hid (KeepsOthers W ((w9.setCell ⟨w.heap.size, 0, none⟩ (.slice none 0 0)).setCell ⟨w.heap.size + 1, 0, none⟩ (.int .i64 4))) := by
        exact ((keepsO_below HB9.out).trans (KeepsOthers.setCell _ _ _)).trans (KeepsOthers.setCell _ _ _)
      clear n2 h3 h4 hone
      gi_wp2
      refine ⟨trivial, ?_⟩
      gi_wp2
      refine ⟨trivial, ?_⟩
      gi_wp2
      exact ⟨NK.out, rfl, n2'.out, n3.out, NB.out, x, HN.out⟩
    | true =>
      have HN : Hid (oneP (pgAt b x) = true) := by show _ = _; rw [HPG.out]; exact hone
      clear hone
      have q0 := (cells_at HP9.out 0).trans (show _ = some (Value.int .i64 (kd : Int)) from rfl)
      have q1 := (cells_at HP9.out 1).trans (show _ = some (Value.int .i64 (cl : Int)) from rfl)
      have q2 := (cells_at HP9.out 2).trans (show _ = some (Value.int .i64 (rn : Int)) from rfl)
      have q3 := (cells_at HP9.out 3).trans (show _ = some (Value.int .i64 (zz : Int)) from rfl)
      have q4 := (cells_at HP9.out 4).trans (show _ = some (Value.int .u64 (sr : Int)) from rfl)
      gi_wp2_with fail
      refine ⟨trivial, CallsIn.inRound l (callsIn_wide.2 ((pgbytes_c ⟨kd, cl, rn, zz, sr⟩ ⟨by show rn < _; omega, by show zz < _; omega, l5⟩ w9).mono ?_))⟩
      rintro q w10 ⟨v10, rfl, hown10, hb10⟩
      clear q0 q1 q2 q3 q4
      have HB10 : Hid (Below W.heap.size W w10) := HB9.out.trans (hb10.mono HB9.out.size)
      have HP10 := Lib.hid ((hb10.block _ (lt_of_block HP9.out)).trans HP9.out)
      rw [HPE.out, show (16 : Nat) = e.length from HEL.out.symm] at hown10
      obtain ⟨a10, c10, hv10, hbb10, _⟩ := own_bytes HEB.out hown10
      rw [HEL.out] at hv10
      subst hv10
      have HEQ : Hid (Calls Try.prog 49 #[.slice a10 16 c10, .slice (some ⟨gk, o + 16 * x.1, none⟩) 16 16] w10 fun e w' => e = .returned (.bool true) ∧ w10 = w') := by
        have h := equal2_c a10 (some ⟨gk, o + 16 * x.1, none⟩) c10 16 16 16 e e HEL.out HEL.out w10 hbb10 (HSUB.out.up HB10.out (Nat.le_refl _))
        rw [show decide (e = e) = true by simp] at h
        exact h
      clear hown10 hbb10 hb10 HB9 HP9
      gi_wp2_with fail
      refine ⟨trivial, CallsIn.inRound l (callsIn_wide.2 (HEQ.out.mono ?_))⟩
      rintro q w11 ⟨rfl, rfl⟩
      have q0 := (cells_at HP10.out 0).trans (show _ = some (Value.int .i64 (kd : Int)) from rfl)
      have q1 := (cells_at HP10.out 1).trans (show _ = some (Value.int .i64 (cl : Int)) from rfl)
      have q2 := (cells_at HP10.out 2).trans (show _ = some (Value.int .i64 (rn : Int)) from rfl)
      have q3 := (cells_at HP10.out 3).trans (show _ = some (Value.int .i64 (zz : Int)) from rfl)
      have q4 := (cells_at HP10.out 4).trans (show _ = some (Value.int .u64 (sr : Int)) from rfl)
      have h1 := (HB10.out.block _ (lt_of_block H1.out)).trans H1.out
      obtain ⟨va, vc, rfl⟩ := own_sliceR H2.out
      have c4 := (cells_at h1 0).trans (show _ = some (Value.slice va pre.length vc) from rfl)
      have HOA : Hid ((w10.alloc (.cells (pgA ⟨kd, cl, rn, zz, sr⟩) 81)).ownsRow W0.heap.size 81 5 (.slice va pre.length vc) pre.length (cellsP (pre.map (pgAt b)))) := own_up (own_up H2.out HB10.out) (below_box w10 _)
      have HPA : Hid (PgsAt (w10.alloc (.cells (pgA ⟨kd, cl, rn, zz, sr⟩) 81)) (some ⟨w10.heap.size, 0, none⟩) [⟨kd, cl, rn, zz, sr⟩]) := pgs_blk (heap_new' w10 _)
      have HBA : Hid (W0.heap.size ≤ (w10.alloc (.cells (pgA ⟨kd, cl, rn, zz, sr⟩) 81)).heap.size) := by show _ ≤ _; rw [World.size_alloc]; have h1 := HB10.out.size; have h2 := H6.out; omega
      have HBB : Hid (Below W.heap.size W (w10.alloc (.cells (pgA ⟨kd, cl, rn, zz, sr⟩) 81))) := HB10.out.alloc HB10.out.size _
      have HPL : Hid (pre.length + 1 ≤ 1000000) := by show _ ≤ _; omega
      have Hb4 : Hid (w.heap.size + 1 + 1 < W.heap.size) := lt_of_block H1.out
      gi_wp2_with (first
        | (refine wpListIn_build_pg (p := ⟨kd, cl, rn, zz, sr⟩) rfl (.tmp 42) rfl rfl ?_)
        | (refine wpListIn_append_pgs (l := l) (base := W0.heap.size) (n := pre.length) (v := .slice va pre.length vc) (L := pre.map (pgAt b)) (m := 1) (M := [⟨kd, cl, rn, zz, sr⟩]) rfl (.tmp 41) (.tmp 43) rfl rfl HOA.out rfl rfl HPA.out (fun h => by cases h) (fun p hp => by cases hp; rfl) HPL.out HBA.out ?_; intro v12 w12 hown12 hgr12; have hlow : ∀ k, k < W0.heap.size → w12.heap[k]? = W.heap[k]? := (fun k hk => (hgr12.block k (Nat.lt_of_lt_of_le hk HBA.out) (fun e => by have := (HOA.out.lt k e.symm).1; omega)).trans (HBB.out.block k (Nat.lt_of_lt_of_le hk H6.out))); have hc12 : w12.heap[w.heap.size + 1 + 1]? = some (.cells #[.slice va pre.length vc] 50 (0, 0)) := (hlow _ (by have := HZ0.out; omega)).trans H1.out; have c12 := (cells_at hc12 0).trans (show _ = some (Value.slice va pre.length vc) from rfl); have f12 := free_at hc12 0; obtain ⟨vb, vd, hv12⟩ := own_sliceR hown12; subst hv12; have HO12 := Lib.hid hown12; have HG12 := Lib.hid hgr12; have HL12 := Lib.hid hlow; have HC12 := Lib.hid hc12; clear hown12 hgr12 hlow hc12)
        | fail)
      have hset : ∀ k, k ≠ w.heap.size + 1 + 1 → (w12.setCell ⟨w.heap.size + 1 + 1, 0, none⟩ (.slice vb (pre.length + 1) vd)).heap[k]? = w12.heap[k]? := fun k h => Below.heap_setCell _ _ _ _ (by simpa using h)
      have hss : (w12.setCell ⟨w.heap.size + 1 + 1, 0, none⟩ (.slice vb (pre.length + 1) vd)).heap.size = w12.heap.size := by simp [World.setCell]
      have hsz : W.heap.size ≤ w12.heap.size := Nat.le_trans HBB.out.size HG12.out.size
      have hmap : cellsP ((pre ++ [x]).map (pgAt b)) = cellsP (pre.map (pgAt b) ++ [⟨kd, cl, rn, zz, sr⟩]) := by rw [List.map_append, List.map_cons, List.map_nil, HPG.out]
      refine ⟨⟨by rw [hss]; exact hsz, fun k o h hcl => ?_⟩, ⟨by rw [hss]; exact hsz, fun k hk hkc => (hset k hkc).trans (HL12.out k hk)⟩, ⟨_, block_at HC12.out 0 _, ?_⟩, (hset _ (by omega)).trans ((HL12.out _ (by have := HZ0.out; omega)).trans H3.out), (hset _ (by omega)).trans ((HL12.out _ (by have := HZ0.out; omega)).trans H4.out), ?_, by rw [hss]; have := H6.out; omega, ?_⟩
      · have hkc : k ≠ w.heap.size + 1 + 1 := by rintro rfl; rw [H1.out] at h; cases h; cases hcl
        have hkl : k < W.heap.size := (Array.getElem?_eq_some_iff.1 h).1
        rw [hset k hkc, HG12.out.block k (Nat.lt_of_lt_of_le hkl HBB.out.size) ?_, HBB.out.block k hkl]
        · exact h
        · intro e9
          rcases H2.out.2 with ⟨h9, _⟩ | ⟨g', cap', cur, e1, e2, e3, _⟩
          · rw [h9] at e9; cases e9
          · rw [e1] at e9; cases e9
            rw [e3] at h; cases h; cases hcl
      · rw [hmap, List.length_append]
        refine ⟨?_, ?_⟩
        · rw [cellsP_len, List.length_append, List.length_map]; simp
        · rcases HO12.out.2 with ⟨h9, h8⟩ | ⟨g', cap', cur, e1, e2, e3, e4⟩
          · omega
          · refine .inr ⟨g', cap', cur, e1, e2, (hset g' (by have := HZ0.out; omega)).trans e3, e4⟩
      · exact ((H5.out.trans (HBB.out.mono H5.out.size)).grown HG12.out (Nat.le_trans H5.out.size HBB.out.size) (fun k e9 => by have := (HOA.out.lt k e9).1; have := HZ0.out; omega)).setCell (by show w.heap.size ≤ w.heap.size + 1 + 1; omega) _
      · intro y hy
        rcases List.mem_append.1 hy with h | h
        · exact H7.out y h
        · rw [List.mem_singleton] at h; subst h; exact HN.out
end Go.Proofs.Ytpbmjfjnmcpieaa
