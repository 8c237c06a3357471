/- Lemmas for the proof. -/
import Derived.Test.YtnmdjggdgakeoaaGreatPXg
import Derived.Deep.RegionHeld3
import Derived.Deep.AppendLies
import Derived.Test.YtnmdjggdgakeoaaGreatPXb
import Derived.Test.YtnmdjggdgakeoaaGreatPXf
set_option maxRecDepth 100000
set_option maxHeartbeats 16000000
set_option linter.unusedVariables false
set_option linter.unusedSimpArgs false
set_option linter.unusedSectionVars false
namespace Go.Proofs.YtnmdjggdgakeoaaGreat
open Go Go.RowKit GfM
attribute [local go_sem] Oper.semAt_some
def wordL (n i : Nat) (W : List Nat) : List Nat := (List.range 4).map fun t => colOf W (i - n) t ^^^ nextN n i (colOf W (i - 1)) t
def sched (n : Nat) (key : List Nat) : Nat -> List Nat
 | 0 => key
 | k + 1 => sched n key k ++ wordL n (n + k) (sched n key k)
def contL (n : Nat) (key : List Nat) (pre : List (Fin n)) : List Nat := pre.flatMap fun x => (List.range 4).map fun t => key.getD (4 * x.1 + t) 0
theorem contL_len (n : Nat) (key : List Nat) (pre : List (Fin n)) : (contL n key pre).length = 4 * pre.length := by
 unfold contL
 induction pre with
 | nil => rfl
 | cons x l ih => rw [List.flatMap_cons, List.length_append, ih]; simp; omega
theorem contL_snoc (n : Nat) (key : List Nat) (pre : List (Fin n)) (x : Fin n) : contL n key (pre ++ [x]) = contL n key pre ++ (List.range 4).map fun t => key.getD (4 * x.1 + t) 0 := by
 unfold contL; rw [List.flatMap_append]; simp
def u8L (l : List Nat) : List Value := l.map fun (x : Nat) => Value.int .u8 (x : Int)
def NewI (n b r Bc B7 n1 : Nat) (key : List Nat) (w : World) (pre : List (Fin n)) (W : World) : Prop :=
 (∃ v, W.heap[Bc]? = some (.cells #[.pointer (some ⟨b, 0, none⟩), v, .int .i64 (r : Int)] 145 (0, 0)) /\ W.ownsRow n1 149 4 v pre.length (u8L (contL n key pre))) /\
 W.heap[B7]? = some (.cells #[.pointer (some ⟨Bc, 0, none⟩)] 106 (0, 0)) /\ Below w.heap.size w W /\ n1 <= W.heap.size
theorem kept_cells {W W' : World} {row : Option Nat} (hg : W.grownBy W' row) (hr : ∀ r, row = some r -> ∃ o : Obj, W.heap[r]? = some o /\ o.isCells = false) {k : Nat} {A : Array Value} {t : TypeId} {z : Nat × Nat} (h : W.heap[k]? = some (.cells A t z)) :
  W'.heap[k]? = some (.cells A t z) := by
 refine (hg.block k (lt_of_block h) ?_).trans h
 intro e;obtain ⟨o, ho, hc⟩ := hr k e.symm
 rw [h] at ho
 cases ho
 cases hc
theorem newI_own (n b r Bc B7 n1 : Nat) (key : List Nat) (w : World) (hn1 : w.heap.size <= n1) : OwnFrom n1 (NewI n b r Bc B7 n1 key w) := by
 intro s W W' row h hg hr
 have hr' : ∀ r, row = some r -> ∃ o : Obj, W.heap[r]? = some o /\ o.isCells = false := fun r e => (hr r e).2
 obtain ⟨⟨v, h1, h2⟩, h3, h4, h5⟩ := h
 refine ⟨⟨v, kept_cells hg hr' h1, h2.1, ?_⟩, kept_cells hg hr' h3, h4.grown hg h4.size (fun k e => Nat.le_trans hn1 (hr k e).1), Nat.le_trans h5 hg.size⟩
 rcases h2.2 with h | ⟨g, cap, cur, e1, e2, e3, e4⟩
 ·exact .inl h
 ·exact .inr ⟨g, cap, cur, e1, e2, kept_cells hg hr' e3, e4⟩
theorem own_ge {W : World} {base : Nat} {e : TypeId} {sz : Nat} {v : Value} {n : Nat} {xs : List Value} (h : W.ownsRow base e sz v n xs) : ∀ k, v.ownBlock = some k -> base <= k := by
 intro k hk;rcases h.2 with ⟨rfl, _⟩ | ⟨g, cap, cur, rfl, hb, _⟩
 ·cases hk
 ·cases hk; exact hb
theorem v4_all (a : Nat -> Nat) : ∀ u ∈ (v4 a).toList, u.oneCell' = true := by
 intro u hu; simp [v4] at hu; rcases hu with rfl | rfl | rfl | rfl <;> rfl
theorem info4 : (Tryz.prog.info? 149).map (fun i => (i.zero, i.size, i.bytes)) = some (some (.agg #[.int .u8 0, .int .u8 0, .int .u8 0, .int .u8 0]), 4, 4) := by kernel_rfl
theorem nextN_lt (n i : Nat) (t : Nat -> Nat) (h : ∀ j, j < 4 -> t j < 256) (j : Nat) (hj : j < 4) : nextN n i t j < 256 := by
 unfold nextN
 split
 ·show (if j = 0 then _ else _) < 256
  split
  ·exact xor_lt _ _ (sbx_lt _ (h _ (by omega))) (powN_lt _ _)
  ·exact sbx_lt _ (h _ (by omega))
 ·split
  ·exact sbx_lt _ (h _ hj)
  ·exact h _ hj
theorem contL_all4 (key : List Nat) (h : key.length = 16) : contL 4 key (upF 4 4) = key := by
 match key, h with
 | [a0, a1, a2, a3, a4, a5, a6, a7, a8, a9, a10, a11, a12, a13, a14, a15], _ => rfl
def RowI (b r Bc B7 n1 : Nat) (L : List Nat) (m : Nat) (w : World) (W : World) : Prop :=
 (∃ v, W.heap[Bc]? = some (.cells #[.pointer (some ⟨b, 0, none⟩), v, .int .i64 (r : Int)] 145 (0, 0)) /\ W.ownsRow n1 149 4 v m (u8L L)) /\
 W.heap[B7]? = some (.cells #[.pointer (some ⟨Bc, 0, none⟩)] 106 (0, 0)) /\ Below w.heap.size w W /\ n1 <= W.heap.size
theorem wordL_lt (n i : Nat) (W : List Nat) (h : ∀ x ∈ W, x < 256) (hn : n <= i) (hi : 4 * i <= W.length) (h1 : 1 <= n) : ∀ x ∈ wordL n i W, x < 256 := by
 have hc : ∀ q, q < i -> ∀ t, t < 4 -> colOf W q t < 256 := fun q hq t ht => by
  unfold colOf;rw [List.getD_eq_getElem?_getD, List.getElem?_eq_getElem (by omega)]
  exact h _ (List.getElem_mem _)
 intro x hx;unfold wordL at hx
 rw [List.mem_map] at hx;obtain ⟨t, ht, rfl⟩ := hx
 rw [List.mem_range] at ht;refine xor_lt _ _ (hc _ (by omega) t ht) (nextN_lt n i _ (fun j hj => hc _ (by omega) j hj) t ht)
theorem sched_len (n : Nat) (key : List Nat) (h : key.length = 4 * n) : ∀ k, (sched n key k).length = 4 * (n + k)
 | 0 => h
 | k + 1 => by show (sched n key k ++ wordL n (n + k) (sched n key k)).length = _; rw [List.length_append, sched_len n key h k]; simp [wordL]; omega
theorem sched_lt_of (n : Nat) (key : List Nat) (h1 : 1 <= n) (hl : key.length = 4 * n) (h : ∀ x ∈ key, x < 256) : ∀ k, ∀ x ∈ sched n key k, x < 256
 | 0 => h
 | k + 1 => by
  intro x hx;have hx' : x ∈ sched n key k ++ wordL n (n + k) (sched n key k) := hx
  rw [List.mem_append] at hx'
  rcases hx' with hx' | hx'
  ·exact sched_lt_of n key h1 hl h k x hx'
  ·exact wordL_lt n (n + k) _ (sched_lt_of n key h1 hl h k) (by omega) (by rw [sched_len n key hl]; omega) h1 x hx'
theorem row_cip {b r Bc n1 m : Nat} {L : List Nat} {v : Value} {W : World} (hm : 0 < m) (hL : L.length = 4 * m) (hb : ∀ x ∈ L, x < 256)
  (h1 : W.heap[Bc]? = some (.cells #[.pointer (some ⟨b, 0, none⟩), v, .int .i64 (r : Int)] 145 (0, 0))) (h2 : W.ownsRow n1 149 4 v m (u8L L)) (hB : IsBox W b) :
  ∃ g cp, v = .slice (some ⟨g, 0, none⟩) m cp /\ Cip W Bc b g m cp r L /\ n1 <= g /\ m <= cp := by
 rcases h2.2 with ⟨_, h⟩ | ⟨g, cp, cur, rfl, hg, h3, h4, h5, h6, h7⟩
 ·omega
 ·refine ⟨g, cp, rfl, ⟨h1, hB, hL, h4, h5, ⟨cur, h3, by omega, ?_⟩, hb⟩, hg, h4⟩
  intro k hk;have h8 : (cur.toList.take (m * 4))[k]? = (u8L L)[k]? := by rw [h7]
  rw [List.getElem?_take_of_lt (by omega), Array.getElem?_toList] at h8
  rw [h8];unfold u8L;rw [List.getElem?_map, List.getElem?_eq_getElem hk]
  simp [hk]
theorem Cip.grown {W W' : World} {row : Option Nat} {c b g n cap r : Nat} {L : List Nat} (h : Cip W c b g n cap r L) (hg : W.grownBy W' row) (hr : ∀ r, row = some r -> ∃ o : Obj, W.heap[r]? = some o /\ o.isCells = false) : Cip W' c b g n cap r L := by
 obtain ⟨h1, h2, h3, h3a, h3b, ⟨A, h4, h4b, h5⟩, h6⟩ := h
 exact ⟨kept_cells hg hr h1, kept_cells hg hr h2, h3, h3a, h3b, ⟨A, kept_cells hg hr h4, h4b, h5⟩, h6⟩
def NewK (Bc n1 : Nat) (W W' : World) : Prop := W.heap.size <= W'.heap.size /\ ∀ k, k < n1 -> k ≠ Bc -> W'.heap[k]? = W.heap[k]?
theorem newK_t (Bc n1 : Nat) {A B C : World} (h1 : NewK Bc n1 A B) (h2 : NewK Bc n1 B C) : NewK Bc n1 A C :=
 ⟨Nat.le_trans h1.1 h2.1, fun k hk hc => (h2.2 k hk hc).trans (h1.2 k hk hc)⟩
theorem newK_cell (Bc n1 B o : Nat) (hB : B < n1) (hc : B ≠ Bc) {A C : World} (h : NewK Bc n1 A C) : C.cell? ⟨B, o, none⟩ = A.cell? ⟨B, o, none⟩ := World.cell?_of_block (h.2 B hB hc)
theorem newI_step (n b r Bc B7 n1 : Nat) (key : List Nat) (w : World) (pre : List (Fin n)) (x : Fin n) (W : World) (v : Value) (w1 : World) (g cp : Nat)
  (H1 : W.heap[Bc]? = some (.cells #[.pointer (some ⟨b, 0, none⟩), v, .int .i64 (r : Int)] 145 (0, 0))) (H2 : W.ownsRow n1 149 4 v pre.length (u8L (contL n key pre)))
  (H3 : W.heap[B7]? = some (.cells #[.pointer (some ⟨Bc, 0, none⟩)] 106 (0, 0))) (H4 : Below w.heap.size w W) (H5 : n1 <= W.heap.size)
  (hn : w.heap.size <= n1) (hBc : Bc < n1) (hB7 : B7 < n1) (hBB : B7 ≠ Bc) (hBw : w.heap.size <= Bc) (A : Obj) (hgrow : (W.drew.alloc A).grownBy w1 v.ownBlock)
  (hown1 : w1.ownsRow n1 149 4 (.slice (some ⟨g, 0, none⟩) (pre.length + 1) cp) (pre.length + 1) (u8L (contL n key pre) ++ (v4 (colOf key x.1)).toList)) :
  KeepsOthers W (w1.setCell ⟨Bc, 1, none⟩ (.slice (some ⟨g, 0, none⟩) (pre.length + 1) cp)) /\ NewK Bc n1 W (w1.setCell ⟨Bc, 1, none⟩ (.slice (some ⟨g, 0, none⟩) (pre.length + 1) cp)) /\
   NewI n b r Bc B7 n1 key w (pre ++ [x]) (w1.setCell ⟨Bc, 1, none⟩ (.slice (some ⟨g, 0, none⟩) (pre.length + 1) cp)) := by
 have hsz : W.heap.size + 1 <= w1.heap.size := by have := hgrow.size; rw [World.size_alloc] at this; exact this
 have hk : ∀ k, k < W.heap.size -> some k ≠ v.ownBlock -> w1.heap[k]? = W.heap[k]? := fun k hk hv =>
  (hgrow.block k (by rw [World.size_alloc]; show k < W.heap.size + 1; omega) hv).trans (heap_old' W.drew _ k hk)
 have hlow : ∀ k, k < n1 -> w1.heap[k]? = W.heap[k]? := fun k h => hk k (by omega) (fun e => by have := own_ge H2 k e.symm; omega)
 have hc : w1.heap[Bc]? = some (.cells #[.pointer (some ⟨b, 0, none⟩), v, .int .i64 (r : Int)] 145 (0, 0)) := (hlow Bc hBc).trans H1
 have hset : ∀ k, k ≠ Bc -> (w1.setCell ⟨Bc, 1, none⟩ (.slice (some ⟨g, 0, none⟩) (pre.length + 1) cp)).heap[k]? = w1.heap[k]? := fun k h => Below.heap_setCell _ _ _ _ (by simpa using h)
 have hss : (w1.setCell ⟨Bc, 1, none⟩ (.slice (some ⟨g, 0, none⟩) (pre.length + 1) cp)).heap.size = w1.heap.size := by simp [World.setCell]
 refine ⟨⟨by rw [hss]; omega, ?_⟩, ⟨by rw [hss]; omega, fun k h1 h2 => (hset k h2).trans (hlow k h1)⟩, ⟨⟨_, block_at hc 1 _, ?_, ?_⟩, (hset B7 hBB).trans ((hlow B7 hB7).trans H3), ?_, by rw [hss]; omega⟩⟩
 ·intro k o h hcl
  have hkc : k ≠ Bc := by
   rintro rfl; rw [H1] at h; cases h; cases hcl
  rw [hset k hkc]
  by_cases hv : some k = v.ownBlock
  ·exfalso
   rcases H2.2 with ⟨rfl, _⟩ | ⟨g', cap', cur, rfl, _, hg, _⟩
   ·cases hv
   ·cases hv
    rw [hg] at h; cases h; cases hcl
  ·exact (hk k (by
    rcases Nat.lt_or_ge k W.heap.size with h' | h'
    ·exact h'
    ·rw [Array.getElem?_eq_none h'] at h; cases h) hv).trans h
 ·have := hown1.1
  rw [List.length_append, List.length_cons, List.length_nil, contL_snoc]
  simp [u8L, contL_len]; omega
 ·rcases hown1.2 with ⟨h, _⟩ | ⟨g', cap', cur, e1, e2, e3, e4, e5, e6, e7⟩
  ·cases h
  ·refine .inr ⟨g', cap', cur, by rw [List.length_append]; exact e1, e2, (hset g' (by omega)).trans e3, by rw [List.length_append]; exact e4, e5, e6, ?_⟩
   rw [List.length_append];refine e7.trans ?_
   rw [contL_snoc];simp [u8L, v4, colOf, List.range_succ]
 ·exact (((H4.drew.alloc H4.size A).grown hgrow (by rw [World.size_alloc]; have := H4.size; show _ <= W.heap.size + 1; omega) (fun k e => Nat.le_trans hn (own_ge H2 k e))).setCell (p := ⟨Bc, 1, none⟩) hBw _)
theorem col_lt {w : World} {c b g n cap r : Nat} {W : List Nat} (h : Cip w c b g n cap r W) (q : Nat) (hq : q < n) : ∀ j, j < 4 -> colOf W q j < 256 := fun j hj => by
 have := h.flen
 unfold colOf;rw [List.getD_eq_getElem?_getD, List.getElem?_eq_getElem (by omega)]
 exact h.fbyte _ (List.getElem_mem _)
theorem row_below {W W' : World} {base : Nat} {e : TypeId} {sz : Nat} {v : Value} {n : Nat} {xs : List Value} (h : W.ownsRow base e sz v n xs) (hb : Below W.heap.size W W') : W'.ownsRow base e sz v n xs := by
 refine ⟨h.1, ?_⟩
 rcases h.2 with h | ⟨g, cap, cur, e1, e2, e3, e4⟩
 ·exact .inl h
 ·exact .inr ⟨g, cap, cur, e1, e2, (hb.block g (lt_of_block e3)).trans e3, e4⟩
theorem sched_next (n : Nat) (key : List Nat) (k : Nat) : sched n key (k + 1) = sched n key k ++ (List.range 4).map (xorN (colOf (sched n key k) k) (nextN n (n + k) (colOf (sched n key k) (n + k - 1)))) := by
 show _ ++ wordL n (n + k) (sched n key k) = _
 unfold wordL;rw [Nat.add_sub_cancel_left]; rfl
theorem rowI_step (b r Bc B7 n1 : Nat) (L : List Nat) (m : Nat) (w W : World) (v : Value) (Wx w1 : World) (g cp : Nat) (a : Nat -> Nat)
  (H1 : W.heap[Bc]? = some (.cells #[.pointer (some ⟨b, 0, none⟩), v, .int .i64 (r : Int)] 145 (0, 0))) (H2 : W.ownsRow n1 149 4 v m (u8L L))
  (H3 : W.heap[B7]? = some (.cells #[.pointer (some ⟨Bc, 0, none⟩)] 106 (0, 0))) (H4 : Below w.heap.size w W) (H5 : n1 <= W.heap.size)
  (hn : w.heap.size <= n1) (hBc : Bc < n1) (hB7 : B7 < n1) (hBB : B7 ≠ Bc) (hBw : w.heap.size <= Bc) (hWx : Below W.heap.size W Wx) (A : Obj) (hgrow : (Wx.alloc A).grownBy w1 v.ownBlock)
  (hown1 : w1.ownsRow n1 149 4 (.slice (some ⟨g, 0, none⟩) (m + 1) cp) (m + 1) (u8L L ++ (v4 a).toList)) :
  KeepsOthers W (w1.setCell ⟨Bc, 1, none⟩ (.slice (some ⟨g, 0, none⟩) (m + 1) cp)) /\ RowI b r Bc B7 n1 (L ++ (List.range 4).map a) (m + 1) w (w1.setCell ⟨Bc, 1, none⟩ (.slice (some ⟨g, 0, none⟩) (m + 1) cp)) := by
 have hxs := hWx.size
 have hsz : Wx.heap.size + 1 <= w1.heap.size := by have := hgrow.size; rw [World.size_alloc] at this; exact this
 have hk : ∀ k, k < W.heap.size -> some k ≠ v.ownBlock -> w1.heap[k]? = W.heap[k]? := fun k hk hv =>
  ((hgrow.block k (by rw [World.size_alloc]; omega) hv).trans (heap_old' Wx _ k (by omega))).trans (hWx.block k hk)
 have hlow : ∀ k, k < n1 -> w1.heap[k]? = W.heap[k]? := fun k h => hk k (by omega) (fun e => by have := own_ge H2 k e.symm; omega)
 have hc : w1.heap[Bc]? = some (.cells #[.pointer (some ⟨b, 0, none⟩), v, .int .i64 (r : Int)] 145 (0, 0)) := (hlow Bc hBc).trans H1
 have hset : ∀ k, k ≠ Bc -> (w1.setCell ⟨Bc, 1, none⟩ (.slice (some ⟨g, 0, none⟩) (m + 1) cp)).heap[k]? = w1.heap[k]? := fun k h => Below.heap_setCell _ _ _ _ (by simpa using h)
 have hss : (w1.setCell ⟨Bc, 1, none⟩ (.slice (some ⟨g, 0, none⟩) (m + 1) cp)).heap.size = w1.heap.size := by simp [World.setCell]
 refine ⟨⟨by rw [hss]; omega, ?_⟩, ⟨⟨_, block_at hc 1 _, ?_, ?_⟩, (hset B7 hBB).trans ((hlow B7 hB7).trans H3), ?_, by rw [hss]; omega⟩⟩
 ·intro k o h hcl
  have hkc : k ≠ Bc := by
   rintro rfl; rw [H1] at h; cases h; cases hcl
  rw [hset k hkc]
  by_cases hv : some k = v.ownBlock
  ·exfalso
   rcases H2.2 with ⟨rfl, _⟩ | ⟨g', cap', cur, rfl, _, hg, _⟩
   ·cases hv
   ·cases hv
    rw [hg] at h; cases h; cases hcl
  ·exact (hk k (by
    rcases Nat.lt_or_ge k W.heap.size with h' | h'
    ·exact h'
    ·rw [Array.getElem?_eq_none h'] at h; cases h) hv).trans h
 ·have := hown1.1
  simp only [u8L, List.length_append, List.length_map, List.length_range] at this ⊢
  simp [v4] at this; omega
 ·rcases hown1.2 with ⟨h, _⟩ | ⟨g', cap', cur, e1, e2, e3, e4, e5, e6, e7⟩
  ·cases h
  ·refine .inr ⟨g', cap', cur, e1, e2, (hset g' (by omega)).trans e3, e4, e5, e6, ?_⟩
   refine e7.trans ?_
   simp [u8L, v4, List.range_succ]
 ·exact ((((H4.trans (hWx.mono H4.size)).alloc (by have := H4.size; omega) A).grown hgrow (by rw [World.size_alloc]; have := H4.size; omega) (fun k e => Nat.le_trans hn (own_ge H2 k e))).setCell (p := ⟨Bc, 1, none⟩) hBw _)
theorem chunk_c (p : Addr) (len cap : Nat) (w : World) : Calls Tryz.prog 59 #[.slice (some p) len cap, .int .i64 4] w fun e w' =>
  e = .returned (.func (.func 79) #[] #[.pointer (some ⟨w.heap.size, 0, none⟩), .pointer (some ⟨w.heap.size + 1, 0, none⟩)]) /\ w' = (w.alloc (.cells #[.slice (some p) len cap] 46)).alloc (.cells #[.int .i64 4] 3) := by
 go_enter Tryz.func59, Tryz.ntmps59
 go_wp2
 go_ret
 exact ⟨rfl, rfl⟩
theorem chunk_stops (m B1 B2 gk o cap n : Nat) (hn : 4 * n <= cap) (hcap : n < 250000) (Kp : World -> World -> Prop)
  (hK1 : ∀ A B, Kp A B -> B.cell? ⟨B1, 0, none⟩ = A.cell? ⟨B1, 0, none⟩ /\ B.cell? ⟨B2, 0, none⟩ = A.cell? ⟨B2, 0, none⟩ /\ A.heap.size <= B.heap.size)
  (w : World) (hb1 : B1 < w.heap.size) (hb2 : B2 < w.heap.size) (h1 : w.cell? ⟨B1, 0, none⟩ = some (.slice (some ⟨gk, o, none⟩) (4 * n) cap)) (h2 : w.cell? ⟨B2, 0, none⟩ = some (.int .i64 4)) :
  SeqStopsK Fence.wide m Tryz.prog 79 #[.pointer (some ⟨B1, 0, none⟩), .pointer (some ⟨B2, 0, none⟩)] (fun x : Fin n => #[pcV gk o x.1]) Kp (fun xs => xs = upF n n) (fun _ => True) n w :=
 fun l J Jx W hW hJ _ hY h0 => chunk1_in m l B1 B2 gk o cap n hn hcap J Jx Kp hK1 W hJ hY ((hW.cell (p := ⟨B1, 0, none⟩) hb1).trans h1) ((hW.cell (p := ⟨B2, 0, none⟩) hb2).trans h2) h0
theorem new4_c (b gk o cap : Nat) (key : List Nat) (hkl : key.length = 16) (hkb : ∀ x ∈ key, x < 256) (hcap : 16 <= cap) (w : World) (hB : IsBox w b) (hg : gk < w.heap.size)
  (hk : ∀ j, j < 16 -> w.cell? ⟨gk, o + j, none⟩ = some (.int .u8 ((key.getD j 0 : Nat) : Int))) :
  Calls Tryz.prog 43 #[.pointer (some ⟨b, 0, none⟩), .slice (some ⟨gk, o, none⟩) 16 cap] w fun e w' =>
   ∃ c g cp, e = .returned (.tuple #[.pointer (some ⟨c, 0, none⟩), .int .i64 0]) /\ Cip w' c b g 44 cp 10 (sched 4 key 40) /\ w.heap.size <= c /\ w.heap.size <= g /\ Below w.heap.size w w' := by
 have HKL := Lib.hid hkl;have HKB := Lib.hid hkb;have HB := Lib.hid hB;have HK := Lib.hid hk;clear hkl hkb hB hk;refine (callsIn_wide (n := 5)).1 ?_
 refine callsIn_of_wp_marks Tryz.func43 rfl trivial ?_ rfl
 simp only [Tryz.ntmps43, List.size_toArray, List.length_cons, List.length_nil, Nat.reduceAdd, Nat.reduceSub, Array.replicate_succ, Array.replicate_zero, List.push_toArray, List.append_toArray, List.nil_append, List.cons_append]
 gi_wp2_with fail
 refine ⟨trivial, callsIn_wide.2 ((chunk_c _ _ _ _).mono ?_)⟩
 rintro e w1 ⟨rfl, rfl⟩
 gi_wp2
 obtain ⟨W0, hW0⟩ : ∃ W0, W0 = ((((w.alloc (Obj.cells #[.pointer (some ⟨b, 0, none⟩), .slice none 0 0, .int .i64 10] 145)).alloc (Obj.cells #[.pointer (some ⟨w.heap.size, 0, none⟩)] 106)).alloc (Obj.cells #[.slice (some ⟨gk, o, none⟩) 16 cap] 46)).alloc (Obj.cells #[.int .i64 4] 3)) := ⟨_, rfl⟩
 have z0 : W0.heap.size = w.heap.size + 4 := by rw [hW0]; simp
 have g0 : W0.heap[w.heap.size]? = some (.cells #[.pointer (some ⟨b, 0, none⟩), .slice none 0 0, .int .i64 10] 145 (0, 0)) := by
  rw [hW0, heap_old' _ _ _ (by simp <;> omega), heap_old' _ _ _ (by simp <;> omega), heap_old' _ _ _ (by simp), heap_new']
 have g1 : W0.heap[w.heap.size + 1]? = some (.cells #[.pointer (some ⟨w.heap.size, 0, none⟩)] 106 (0, 0)) := by
  rw [hW0, heap_old' _ _ _ (by simp <;> omega), heap_old' _ _ _ (by simp)]
  exact heap_new' (w.alloc _) _ |> fun h => by rw [World.size_alloc] at h; exact h
 have g2 : W0.cell? ⟨w.heap.size + 1 + 1, 0, none⟩ = some (.slice (some ⟨gk, o, none⟩) (4 * 4) cap) := by
  have h : W0.heap[w.heap.size + 1 + 1]? = some (.cells #[.slice (some ⟨gk, o, none⟩) 16 cap] 46 (0, 0)) := by
   rw [hW0, heap_old' _ _ _ (by simp)]
   exact heap_new' ((w.alloc _).alloc _) _ |> fun h => by rw [World.size_alloc, World.size_alloc] at h; exact h
  exact (cells_at h 0).trans rfl
 have g3 : W0.cell? ⟨w.heap.size + 1 + 1 + 1, 0, none⟩ = some (.int .i64 4) := by
  have h : W0.heap[w.heap.size + 1 + 1 + 1]? = some (.cells #[.int .i64 4] 3 (0, 0)) := by
   rw [hW0];exact heap_new' (((w.alloc _).alloc _).alloc _) _ |> fun h => by rw [World.size_alloc, World.size_alloc, World.size_alloc] at h; exact h
  exact (cells_at h 0).trans rfl
 have gb : Below w.heap.size w W0 := by rw [hW0]; exact ((((Below.refl _ _).alloc (Nat.le_refl _) _).alloc (by simp) _).alloc (by simp <;> omega) _).alloc (by simp <;> omega) _
 rw [<- hW0];clear hW0;have HI0 : Hid (NewI 4 b 10 w.heap.size (w.heap.size + 1) W0.heap.size key w [] W0) := ⟨⟨_, g0, rfl, .inl ⟨rfl, rfl⟩⟩, g1, gb, Nat.le_refl _⟩
 have HSEQ : Hid (SeqStopsK Fence.wide 4 Tryz.prog 79 #[.pointer (some ⟨w.heap.size + 1 + 1, 0, none⟩), .pointer (some ⟨w.heap.size + 1 + 1 + 1, 0, none⟩)] (fun x : Fin 4 => #[pcV gk o x.1]) (NewK w.heap.size W0.heap.size) (fun xs => xs = upF 4 4) (fun _ => True) 4 W0) :=
  chunk_stops 4 (w.heap.size + 1 + 1) (w.heap.size + 1 + 1 + 1) gk o cap 4 hcap (by omega) _ (fun A B h => ⟨newK_cell _ _ _ _ (by omega) (by omega) h, newK_cell _ _ _ _ (by omega) (by omega) h, h.1⟩) W0 (by omega) (by omega) g2 g3
 have HZ0 := Lib.hid z0;clear g0 g1 g2 g3 gb z0;refine wpIn_rangeFunc_ownF (α := Fin 4) rfl (by omega) (gf := 79) (lb := #[.pointer (some ⟨w.heap.size + 1 + 1, 0, none⟩), .pointer (some ⟨w.heap.size + 1 + 1 + 1, 0, none⟩)]) rfl trivial (enters_of Tryz.func79 (by kernel_rfl) rfl) HSEQ.out (fun h1 h2 => newK_t _ _ h1 h2)
  (fun W l o o' hl ho hc _ => ⟨by simp, fun k hk hkc => World.putObj_heap_other (by omega)⟩) (Below.refl _ _) (fun _ => rfl) (NewI 4 b 10 w.heap.size (w.heap.size + 1) W0.heap.size key w) (fun _ _ _ => False)
  (newI_own _ _ _ _ _ _ _ _ (by have := HZ0.out; omega)) (fun _ _ _ _ _ hs _ _ => hs) HI0.out
  (fun x => { tmps := #[.pointer (some ⟨b, 0, none⟩), .slice (some ⟨gk, o, none⟩) 16 cap, undef, undef, .pointer none, .int .i64 0, .int .i64 4, .pointer (some ⟨w.heap.size + 1, 0, none⟩), pcV gk o x.1, undef, .bool false, .pointer (some ⟨b, 0, none⟩), .bool false, .bool false, .slice (some ⟨gk, o, none⟩) 16 cap, .int .i64 16, .bool false, .bool false, undef, undef, undef, .bool false, .slice (some ⟨gk, o, none⟩) 16 cap, .int .i64 16, .int .i64 4, .pointer (some ⟨b, 0, none⟩), .int .i64 4, .int .i64 10, .agg #[.pointer (some ⟨b, 0, none⟩), .slice none 0 0, .int .i64 10], .pointer (some ⟨w.heap.size, 0, none⟩), .slice (some ⟨gk, o, none⟩) 16 cap, .func (.func 79) #[] #[.pointer (some ⟨w.heap.size + 1 + 1, 0, none⟩), .pointer (some ⟨w.heap.size + 1 + 1 + 1, 0, none⟩)], pcV gk o x.1, undef, undef, undef, undef, undef, undef, undef, undef, undef, undef, undef, undef, undef, undef, undef, undef, undef, undef, undef, undef, undef, undef, undef, undef, undef, undef, undef, undef, undef, undef, undef, undef, undef, undef, undef, undef, undef, undef, undef, undef, undef, undef, undef, undef, undef, undef, undef], defers := [] }) ?assign ?body ?done ?stop
 case assign =>
  intro l x W K hK
  gi_wp2
  exact hK
 case stop =>
  rintro D c pre W _ _ h _
  exact h.elim
 case done =>
  rintro D xs W hD rfl ⟨⟨v, i1, i2⟩, i3, i4, i5⟩ hDD
  clear HI0 HSEQ;have hkey : contL 4 key (upF 4 4) = key := contL_all4 key HKL.out
  rw [hkey, show (upF 4 4).length = 4 from by rw [upF_len _ _ (Nat.le_refl _)]] at i2
  have HROW : Hid (RowI b 10 w.heap.size (w.heap.size + 1) W0.heap.size (sched 4 key 0) 4 w W) := ⟨⟨v, i1, i2⟩, i3, i4, i5⟩
  have HDD := Lib.hid hDD;have c7 := (cells_at i3 0).trans rfl
  clear i1 i2 i3 i4 i5 hkey hDD;have HRB : Hid (∀ k, ∀ x ∈ sched 4 key k, x < 256) := sched_lt_of 4 key (by omega) HKL.out HKB.out
  have HRL : Hid (∀ k, (sched 4 key k).length = 4 * (4 + k)) := sched_len 4 key (by rw [HKL.out])
  gi_wp2
  gi_loopw [9] (fun vi wr => ∃ k : Nat, k <= 40 /\ vi = .int .i64 ((4 + k : Nat) : Int) /\ Hid (RowI b 10 w.heap.size (w.heap.size + 1) W0.heap.size (sched 4 key k) (4 + k) w wr) /\ Hid (wr.heap[D]? = some (.deferred (some [])))) (fun vi _ => 44 - (intOf vi).toNat)
  case atStart => exact ⟨0, by omega, rfl, HROW.out, HDD.out⟩
  case round =>
   clear HROW HDD c7;obtain ⟨k, hk, rfl, hrow, hDk⟩ := hrel
   obtain ⟨⟨v, j1, j2⟩, j3, j4, j5⟩ := hrow.out
   obtain ⟨g, cp, rfl, hC, hgb, hmc⟩ := row_cip (by omega) (HRL.out k) (HRB.out k) j1 j2 (HB.out.later j4 HB.out.lt)
   have c7 := (cells_at j3 0).trans rfl
   have c8 := hC.c2
   obtain ⟨m, hm⟩ : ∃ m, m = 4 + k := ⟨_, rfl⟩
   rw [<- hm] at hC hmc j2 j1;rw [<- hm]
   by_cases hlt : k < 40
   ·have hd2 : (m : Int) < 44 := by omega
    have hd : decide ((m : Int) < 44) = true := by simp; omega
    have HM := Lib.hid hm;have HC := Lib.hid hC;have J1 := Lib.hid j1
    have J2 := Lib.hid j2
    have J3 := Lib.hid j3
    have J4 := Lib.hid j4
    have J5 := Lib.hid j5
    have HGB := Lib.hid hgb;have HMC := Lib.hid hmc;clear hm hC j1 j2 j3 j4 j5 hgb hmc hrow;have e1 : IntKind.i64.wrap ((m : Int) - 4) = (k : Int) := by have := HM.out; rw [IntWalk.i64_in _ (by omega)]; omega
    have k0 : (0 : Int) <= (k : Int) := by omega
    have k1 : (k : Int) < (m : Int) := by have := HM.out; omega
    gi_wp2
    have HST : Hid (∀ w', Below wr.heap.size wr w' -> w'.cell? ⟨w.heap.size + 1, 0, none⟩ = some (.pointer (some ⟨w.heap.size, 0, none⟩)) /\ w'.cell? ⟨w.heap.size, 1, none⟩ = some (.slice (some ⟨g, 0, none⟩) m cp)) := fun w' h =>
     ⟨(cells_at ((h.block _ (lt_of_block J3.out)).trans J3.out) 0).trans rfl, (HC.out.up h (Nat.le_refl _)).c1⟩
    refine wpIn_wide.2 (wp_region_noPanic ?_)
    refine wp_region_T (S := fun w' => w'.cell? ⟨w.heap.size + 1, 0, none⟩ = some (.pointer (some ⟨w.heap.size, 0, none⟩)) /\ w'.cell? ⟨w.heap.size, 1, none⟩ = some (.slice (some ⟨g, 0, none⟩) m cp)) (z := 23) (by kernel_rfl) ?_
    have hb0 : Below wr.heap.size wr wr.drew := (Below.refl _ _).drew
    have hS := HST.out _ hb0
    change wpAnyT _ _ _ _ _ _ 24 #[false, false, false, false, false, false, false, false, false, false, false, false, false, false, false, false, false, false, false, false, false, false, false, false] _ _
    refine wpAnyT_take (i := 0) (v := ?_) rfl (by kernel_rfl) (by kernel_rfl) (by kernel_rfl) (by kernel_rfl) (fun _ _ _ h => h) (Or.inl ⟨by rfl, ?hy⟩) hS ?_
    case hy => rintro w' ⟨hw1, hw2⟩; go_simp; try with_reducible rfl
    simp only [gA, gS, gZ, Act.put, sA, sZ, sS]
    refine wpAnyT_take (i := 1) (v := ?_) rfl (by kernel_rfl) (by kernel_rfl) (by kernel_rfl) (by kernel_rfl) (fun _ _ _ h => h) (Or.inl ⟨by rfl, ?hy⟩) hS ?_
    case hy => rintro w' ⟨hw1, hw2⟩; go_simp; try with_reducible rfl
    simp only [gA, gS, gZ, Act.put, sA, sZ, sS]
    refine wpAnyT_take (i := 2) (v := ?_) rfl (by kernel_rfl) (by kernel_rfl) (by kernel_rfl) (by kernel_rfl) (fun _ _ _ h => h) (Or.inl ⟨by rfl, ?hy⟩) hS ?_
    case hy => rintro w' ⟨hw1, hw2⟩; go_simp; try with_reducible rfl
    simp only [gA, gS, gZ, Act.put, sA, sZ, sS]
    refine wpAnyT_take (i := 3) (v := ?_) rfl (by kernel_rfl) (by kernel_rfl) (by kernel_rfl) (by kernel_rfl) (fun _ _ _ h => h) (Or.inl ⟨by rfl, ?hy⟩) hS ?_
    case hy => rintro w' ⟨hw1, hw2⟩; go_simp; try with_reducible rfl
    simp only [gA, gS, gZ, Act.put, sA, sZ, sS]
    refine wpAnyT_take (i := 4) (v := ?_) rfl (by kernel_rfl) (by kernel_rfl) (by kernel_rfl) (by kernel_rfl) (fun _ _ _ h => h) (Or.inl ⟨by rfl, ?hy⟩) hS ?_
    case hy => rintro w' ⟨hw1, hw2⟩; go_simp; try with_reducible rfl
    simp only [gA, gS, gZ, Act.put, sA, sZ, sS]
    refine wpAnyT_take (i := 5) (v := ?_) rfl (by kernel_rfl) (by kernel_rfl) (by kernel_rfl) (by kernel_rfl) (fun _ _ _ h => h) (Or.inl ⟨by rfl, ?hy⟩) hS ?_
    case hy => rintro w' ⟨hw1, hw2⟩; go_simp; try with_reducible rfl
    simp only [gA, gS, gZ, Act.put, sA, sZ, sS]
    refine wpAnyT_take (i := 6) (v := ?_) rfl (by kernel_rfl) (by kernel_rfl) (by kernel_rfl) (by kernel_rfl) (fun _ _ _ h => h) (Or.inl ⟨by rfl, ?hy⟩) hS ?_
    case hy => rintro w' ⟨hw1, hw2⟩; go_simp; try with_reducible rfl
    simp only [gA, gS, gZ, Act.put, sA, sZ, sS]
    refine wpAnyT_take (i := 7) (v := ?_) rfl (by kernel_rfl) (by kernel_rfl) (by kernel_rfl) (by kernel_rfl) (fun _ _ _ h => h) (Or.inl ⟨by rfl, ?hy⟩) hS ?_
    case hy => rintro w' ⟨hw1, hw2⟩; go_simp; try with_reducible rfl
    simp only [gA, gS, gZ, Act.put, sA, sZ, sS]
    refine wpAnyT_take (i := 8) (v := ?_) rfl (by kernel_rfl) (by kernel_rfl) (by kernel_rfl) (by kernel_rfl) (fun _ _ _ h => h) (Or.inl ⟨by rfl, ?hy⟩) hS ?_
    case hy => rintro w' ⟨hw1, hw2⟩; go_simp; try with_reducible rfl
    simp only [gA, gS, gZ, Act.put, sA, sZ, sS]
    refine wpAnyT_take (i := 9) (v := ?_) rfl (by kernel_rfl) (by kernel_rfl) (by kernel_rfl) (by kernel_rfl) (fun _ _ _ h => h) (Or.inl ⟨by rfl, ?hy⟩) hS ?_
    case hy => rintro w' ⟨hw1, hw2⟩; go_simp; try with_reducible rfl
    simp only [gA, gS, gZ, Act.put, sA, sZ, sS]
    refine wpAnyT_take (i := 10) (v := ?_) rfl (by kernel_rfl) (by kernel_rfl) (by kernel_rfl) (by kernel_rfl) (fun _ _ _ h => h) (Or.inl ⟨by rfl, ?hy⟩) hS ?_
    case hy => rintro w' ⟨hw1, hw2⟩; go_simp; try with_reducible rfl
    simp only [gA, gS, gZ, Act.put, sA, sZ, sS]
    refine wpAnyT_take (i := 11) (v := ?_) rfl (by kernel_rfl) (by kernel_rfl) (by kernel_rfl) (by kernel_rfl) (fun _ _ _ h => h) (Or.inl ⟨by rfl, ?hy⟩) hS ?_
    case hy => rintro w' ⟨hw1, hw2⟩; go_simp; try with_reducible rfl
    simp only [gA, gS, gZ, Act.put, sA, sZ, sS]
    refine wpAnyT_take (i := 12) (v := ?_) rfl (by kernel_rfl) (by kernel_rfl) (by kernel_rfl) (by kernel_rfl) (fun _ _ _ h => h) (Or.inl ⟨by rfl, ?hy⟩) hS ?_
    case hy => rintro w' ⟨hw1, hw2⟩; go_simp; try with_reducible rfl
    simp only [gA, gS, gZ, Act.put, sA, sZ, sS]
    refine wpAnyT_take (i := 14) (v := ?_) rfl (by kernel_rfl) (by kernel_rfl) (by kernel_rfl) (by kernel_rfl) (fun _ _ _ h => h) (Or.inl ⟨by rfl, ?hy⟩) hS ?_
    case hy => rintro w' ⟨hw1, hw2⟩; go_simp; try with_reducible rfl
    simp only [gA, gS, gZ, Act.put, sA, sZ, sS]
    refine wpAnyT_take (i := 15) (v := ?_) rfl (by kernel_rfl) (by kernel_rfl) (by kernel_rfl) (by kernel_rfl) (fun _ _ _ h => h) (Or.inl ⟨by rfl, ?hy⟩) hS ?_
    case hy => rintro w' ⟨hw1, hw2⟩; go_simp; try with_reducible rfl
    simp only [gA, gS, gZ, Act.put, sA, sZ, sS]
    refine wpAnyT_take (i := 16) (v := ?_) rfl (by kernel_rfl) (by kernel_rfl) (by kernel_rfl) (by kernel_rfl) (fun _ _ _ h => h) (Or.inl ⟨by rfl, ?hy⟩) hS ?_
    case hy => rintro w' ⟨hw1, hw2⟩; go_simp; try with_reducible rfl
    simp only [gA, gS, gZ, Act.put, sA, sZ, sS]
    refine wpAnyT_ready (rs := [13, 17]) (by kernel_rfl) (by simp) ?_
    obtain ⟨i0, hi, hz0, hz1, hz2⟩ := info_parts info4
    have HBK : Hid (∀ j, j < 4 -> colOf (sched 4 key k) k j < 256) := col_lt HC.out k (by omega)
    have HBN : Hid (∀ j, j < 4 -> (nextN 4 m (colOf (sched 4 key k) (m - 1))) j < 256) := nextN_lt 4 m _ (col_lt HC.out (m - 1) (by omega))
    refine AllReadyT.cons rfl (fun K hK => ?_) ?_
    ·skip
     rw [if_pos (by rfl)]
     have hr := range_word (HC.out.up hb0 (Nat.le_refl _)) k (by omega)
     rw [Nat.mul_comm] at hr;refine wp_load_mid 149 (.tmp 68) rfl g (k * 4) rfl (v4 (colOf (sched 4 key k) k)).toList _ hr Tryz.underlying149 rfl (by rw [four4]; simp [v4]) ?_
     have hS1 := hS
     refine hK.out _ _ (fun _ => hS1) ?_
     clear hK K;simp only [gA, gS, gZ, Act.put, sA, sZ, sS]
     refine wpAnyT_ready (rs := [17]) (by kernel_rfl) (by simp) ?_
     refine AllReadyT.cons rfl (fun K hK => ?_) AllReadyT.nil
     rw [if_pos (by rfl)]
     go_simp
     refine (next4_c w.heap.size b g m cp 10 (sched 4 key k) (by have := HM.out; omega) (by have := HM.out; omega) _ (HC.out.up hb0 (Nat.le_refl _))).mono ?_
     rintro e w1 ⟨rfl, hx1⟩
     have hb1 := hb0.trans (hx1.mono hb0.size)
     have hS2 := HST.out _ hb1
     refine hK.out _ _ (fun _ => hS2) ?_
     clear hK K;simp only [gA, gS, gZ, Act.put, sA, sZ, sS]
     refine wpAnyT_ready (rs := [18]) (by kernel_rfl) (by simp) ?_
     refine AllReadyT.cons rfl (fun K hK => ?_) AllReadyT.nil
     rw [if_pos (by rfl)]
     go_simp
     refine (xor_c (colOf (sched 4 key k) k) (nextN 4 m (colOf (sched 4 key k) (m - 1))) HBK.out HBN.out _).mono ?_
     rintro e w2 ⟨rfl, hx2⟩
     have hb2 := hb1.trans (hx2.mono hb1.size)
     have hS3 := HST.out _ hb2
     refine hK.out _ _ (fun _ => hS3) ?_
     clear hK K;simp only [gA, gS, gZ, Act.put, sA, sZ, sS]
     refine wpAnyT_ready (rs := [19]) (by kernel_rfl) (by simp) ?_
     refine AllReadyT.cons rfl (fun K hK => ?_) AllReadyT.nil
     rw [if_pos (by rfl)]
     go_simp
     have hb3 : Below wr.heap.size wr (w2.alloc (.cells (v4 (xorN (colOf (sched 4 key k) k) (nextN 4 m (colOf (sched 4 key k) (m - 1))))) 149)) := hb2.alloc hb2.size _
     have hS4 := HST.out _ hb3
     refine hK.out _ (w2.alloc (.cells (v4 (xorN (colOf (sched 4 key k) k) (nextN 4 m (colOf (sched 4 key k) (m - 1))))) 149)) (fun _ => hS4) ?_
     clear hK K;simp only [gA, gS, gZ, Act.put, sA, sZ, sS]
     refine wpAnyT_ready (rs := [20]) (by kernel_rfl) (by simp) ?_
     refine AllReadyT.cons rfl (fun K hK => ?_) AllReadyT.nil
     have hrow2 : w2.ownsRow W0.heap.size 149 4 (.slice (some ⟨g, 0, none⟩) m cp) m (u8L (sched 4 key k)) := row_below J2.out hb2
     have hown := World.ownsRow.alloc hrow2 (.cells (v4 (xorN (colOf (sched 4 key k) k) (nextN 4 m (colOf (sched 4 key k) (m - 1))))) 149)
     have hnew := heap_new' w2 (.cells (v4 (xorN (colOf (sched 4 key k) k) (nextN 4 m (colOf (sched 4 key k) (m - 1))))) 149)
     refine step_append_lies _ (by rfl) (.tmp 60) (.tmp 75) 143 (by rfl) W0.heap.size 149 i0 _ 4 4 Tryz.underlying143 hi hz0 hz1 hz2 rfl (by omega) (.slice (some ⟨g, 0, none⟩) m cp) m (u8L (sched 4 key k)) (by rfl) hown ⟨w2.heap.size, 0, none⟩ 1 1 (v4 (xorN (colOf (sched 4 key k) k) (nextN 4 m (colOf (sched 4 key k) (m - 1))))).toList (by rfl) (by simp [v4]) (World.news_of_block hnew) (v4_all _) (by omega) (by have := HM.out; unfold maxLen; omega) (by have := HM.out; omega) (by have := hb3.size; have := J5.out; omega) _ rfl ?_
     intro g2 cp2 w3 hown3 hgrow3 hat hlt3;have FIN := rowI_step b 10 w.heap.size (w.heap.size + 1) W0.heap.size (sched 4 key k) m w wr _ w2 w3 g2 cp2 (xorN (colOf (sched 4 key k) k) (nextN 4 m (colOf (sched 4 key k) (m - 1)))) J1.out J2.out J3.out J4.out J5.out (by have := HZ0.out; omega) (by have := HZ0.out; omega) (by have := HZ0.out; omega) (by omega) (Nat.le_refl _) hb2 _ hgrow3 hown3
     have hlow : ∀ q, q < W0.heap.size -> w3.heap[q]? = wr.heap[q]? := fun q hq => (hgrow3.block q (by rw [World.size_alloc]; have := hb2.size; have := J5.out; omega) (fun e => by have := own_ge J2.out q e.symm; omega)).trans (hb3.block q (by have := J5.out; omega))
     have hc3 := (hlow w.heap.size (by have := HZ0.out; omega)).trans J1.out
     have hS5 := (⟨(cells_at ((hlow _ (by have := HZ0.out; omega)).trans J3.out) 0).trans rfl, (cells_at hc3 1).trans rfl⟩ : w3.cell? ⟨w.heap.size + 1, 0, none⟩ = some (.pointer (some ⟨w.heap.size, 0, none⟩)) /\ w3.cell? ⟨w.heap.size, 1, none⟩ = some (.slice (some ⟨g, 0, none⟩) m cp))
     refine hK.out _ _ (fun _ => hS5) ?_
     clear hK K;simp only [gA, gS, gZ, Act.put, sA, sZ, sS]
     refine wpAnyT_ready (rs := [21]) (by kernel_rfl) (by simp) ?_
     refine AllReadyT.cons rfl (fun K hK => ?_) AllReadyT.nil
     rw [if_pos (by rfl)]
     go_simp
     have hS6 := hS5
     refine hK.out _ _ (fun _ => hS6) ?_
     clear hK K;simp only [gA, gS, gZ, Act.put, sA, sZ, sS]
     refine wpAnyT_take (i := 22) (v := ?_) rfl (by kernel_rfl) (by kernel_rfl) (by kernel_rfl) (by kernel_rfl) (fun _ _ _ h => h) (Or.inl ⟨by rfl, ?hy⟩) hS6 ?_
     case hy => rintro w' ⟨hw1, hw2⟩; go_simp; try with_reducible rfl
     simp only [gA, gS, gZ, Act.put, sA, sZ, sS]
     refine wpAnyT_ready (rs := [23]) (by kernel_rfl) (by simp) ?_
     refine AllReadyT.cons rfl (fun K hK => ?_) AllReadyT.nil
     have cB := (cells_at hc3 1).trans rfl
     have fB := free_at hc3 1
     rw [if_pos (by rfl)]
     go_simp
     refine hK.out _ _ (fun h => absurd h (by omega)) ?_
     clear hK K;simp only [gA, gS, gZ, Act.put, sA, sZ, sS]
     change wpAnyT _ _ _ _ _ _ 0 _ _ _
     refine wpAnyT_done (by kernel_rfl) ?_ _
     refine NoPanic.normal ?_
     have e9 : IntKind.i64.wrap ((m : Int) + 1) = (m : Int) + 1 := by have := HM.out; exact IntWalk.i64_in _ (by omega)
     gi_wp2
     go_roundw
     case rel => exact ⟨k + 1, by omega, by have := HM.out; go_num, by have hmm := HM.out; subst hmm; rw [sched_next 4 key k]; exact FIN.2, FIN.1.2 D _ hDk.out rfl⟩
     case measure => have := HM.out; simp [intOf]; omega
    ·refine AllReadyT.cons rfl (fun K hK => ?_) AllReadyT.nil
     rw [if_pos (by rfl)]
     go_simp
     refine (next4_c w.heap.size b g m cp 10 (sched 4 key k) (by have := HM.out; omega) (by have := HM.out; omega) _ (HC.out.up hb0 (Nat.le_refl _))).mono ?_
     rintro e w1 ⟨rfl, hx1⟩
     have hb1 := hb0.trans (hx1.mono hb0.size)
     have hS1 := HST.out _ hb1
     refine hK.out _ _ (fun _ => hS1) ?_
     clear hK K;simp only [gA, gS, gZ, Act.put, sA, sZ, sS]
     refine wpAnyT_ready (rs := [13]) (by kernel_rfl) (by simp) ?_
     refine AllReadyT.cons rfl (fun K hK => ?_) AllReadyT.nil
     rw [if_pos (by rfl)]
     have hr := range_word (HC.out.up hb1 (Nat.le_refl _)) k (by omega)
     rw [Nat.mul_comm] at hr;refine wp_load_mid 149 (.tmp 68) rfl g (k * 4) rfl (v4 (colOf (sched 4 key k) k)).toList _ hr Tryz.underlying149 rfl (by rw [four4]; simp [v4]) ?_
     have hS2 := hS1
     refine hK.out _ _ (fun _ => hS2) ?_
     clear hK K;simp only [gA, gS, gZ, Act.put, sA, sZ, sS]
     refine wpAnyT_ready (rs := [18]) (by kernel_rfl) (by simp) ?_
     refine AllReadyT.cons rfl (fun K hK => ?_) AllReadyT.nil
     rw [if_pos (by rfl)]
     go_simp
     refine (xor_c (colOf (sched 4 key k) k) (nextN 4 m (colOf (sched 4 key k) (m - 1))) HBK.out HBN.out _).mono ?_
     rintro e w2 ⟨rfl, hx2⟩
     have hb2 := hb1.trans (hx2.mono hb1.size)
     have hS3 := HST.out _ hb2
     refine hK.out _ _ (fun _ => hS3) ?_
     clear hK K;simp only [gA, gS, gZ, Act.put, sA, sZ, sS]
     refine wpAnyT_ready (rs := [19]) (by kernel_rfl) (by simp) ?_
     refine AllReadyT.cons rfl (fun K hK => ?_) AllReadyT.nil
     rw [if_pos (by rfl)]
     go_simp
     have hb3 : Below wr.heap.size wr (w2.alloc (.cells (v4 (xorN (colOf (sched 4 key k) k) (nextN 4 m (colOf (sched 4 key k) (m - 1))))) 149)) := hb2.alloc hb2.size _
     have hS4 := HST.out _ hb3
     refine hK.out _ (w2.alloc (.cells (v4 (xorN (colOf (sched 4 key k) k) (nextN 4 m (colOf (sched 4 key k) (m - 1))))) 149)) (fun _ => hS4) ?_
     clear hK K;simp only [gA, gS, gZ, Act.put, sA, sZ, sS]
     refine wpAnyT_ready (rs := [20]) (by kernel_rfl) (by simp) ?_
     refine AllReadyT.cons rfl (fun K hK => ?_) AllReadyT.nil
     have hrow2 : w2.ownsRow W0.heap.size 149 4 (.slice (some ⟨g, 0, none⟩) m cp) m (u8L (sched 4 key k)) := row_below J2.out hb2
     have hown := World.ownsRow.alloc hrow2 (.cells (v4 (xorN (colOf (sched 4 key k) k) (nextN 4 m (colOf (sched 4 key k) (m - 1))))) 149)
     have hnew := heap_new' w2 (.cells (v4 (xorN (colOf (sched 4 key k) k) (nextN 4 m (colOf (sched 4 key k) (m - 1))))) 149)
     refine step_append_lies _ (by rfl) (.tmp 60) (.tmp 75) 143 (by rfl) W0.heap.size 149 i0 _ 4 4 Tryz.underlying143 hi hz0 hz1 hz2 rfl (by omega) (.slice (some ⟨g, 0, none⟩) m cp) m (u8L (sched 4 key k)) (by rfl) hown ⟨w2.heap.size, 0, none⟩ 1 1 (v4 (xorN (colOf (sched 4 key k) k) (nextN 4 m (colOf (sched 4 key k) (m - 1))))).toList (by rfl) (by simp [v4]) (World.news_of_block hnew) (v4_all _) (by omega) (by have := HM.out; unfold maxLen; omega) (by have := HM.out; omega) (by have := hb3.size; have := J5.out; omega) _ rfl ?_
     intro g2 cp2 w3 hown3 hgrow3 hat hlt3;have FIN := rowI_step b 10 w.heap.size (w.heap.size + 1) W0.heap.size (sched 4 key k) m w wr _ w2 w3 g2 cp2 (xorN (colOf (sched 4 key k) k) (nextN 4 m (colOf (sched 4 key k) (m - 1)))) J1.out J2.out J3.out J4.out J5.out (by have := HZ0.out; omega) (by have := HZ0.out; omega) (by have := HZ0.out; omega) (by omega) (Nat.le_refl _) hb2 _ hgrow3 hown3
     have hlow : ∀ q, q < W0.heap.size -> w3.heap[q]? = wr.heap[q]? := fun q hq => (hgrow3.block q (by rw [World.size_alloc]; have := hb2.size; have := J5.out; omega) (fun e => by have := own_ge J2.out q e.symm; omega)).trans (hb3.block q (by have := J5.out; omega))
     have hc3 := (hlow w.heap.size (by have := HZ0.out; omega)).trans J1.out
     have hS5 := (⟨(cells_at ((hlow _ (by have := HZ0.out; omega)).trans J3.out) 0).trans rfl, (cells_at hc3 1).trans rfl⟩ : w3.cell? ⟨w.heap.size + 1, 0, none⟩ = some (.pointer (some ⟨w.heap.size, 0, none⟩)) /\ w3.cell? ⟨w.heap.size, 1, none⟩ = some (.slice (some ⟨g, 0, none⟩) m cp))
     refine hK.out _ _ (fun _ => hS5) ?_
     clear hK K;simp only [gA, gS, gZ, Act.put, sA, sZ, sS]
     refine wpAnyT_ready (rs := [21]) (by kernel_rfl) (by simp) ?_
     refine AllReadyT.cons rfl (fun K hK => ?_) AllReadyT.nil
     rw [if_pos (by rfl)]
     go_simp
     have hS6 := hS5
     refine hK.out _ _ (fun _ => hS6) ?_
     clear hK K;simp only [gA, gS, gZ, Act.put, sA, sZ, sS]
     refine wpAnyT_take (i := 22) (v := ?_) rfl (by kernel_rfl) (by kernel_rfl) (by kernel_rfl) (by kernel_rfl) (fun _ _ _ h => h) (Or.inl ⟨by rfl, ?hy⟩) hS6 ?_
     case hy => rintro w' ⟨hw1, hw2⟩; go_simp; try with_reducible rfl
     simp only [gA, gS, gZ, Act.put, sA, sZ, sS]
     refine wpAnyT_ready (rs := [23]) (by kernel_rfl) (by simp) ?_
     refine AllReadyT.cons rfl (fun K hK => ?_) AllReadyT.nil
     have cB := (cells_at hc3 1).trans rfl
     have fB := free_at hc3 1
     rw [if_pos (by rfl)]
     go_simp
     refine hK.out _ _ (fun h => absurd h (by omega)) ?_
     clear hK K;simp only [gA, gS, gZ, Act.put, sA, sZ, sS]
     change wpAnyT _ _ _ _ _ _ 0 _ _ _
     refine wpAnyT_done (by kernel_rfl) ?_ _
     refine NoPanic.normal ?_
     have e9 : IntKind.i64.wrap ((m : Int) + 1) = (m : Int) + 1 := by have := HM.out; exact IntWalk.i64_in _ (by omega)
     gi_wp2
     go_roundw
     case rel => exact ⟨k + 1, by omega, by have := HM.out; go_num, by have hmm := HM.out; subst hmm; rw [sched_next 4 key k]; exact FIN.2, FIN.1.2 D _ hDk.out rfl⟩
     case measure => have := HM.out; simp [intOf]; omega
   ·obtain rfl : k = 40 := by omega
    subst hm;have HCF := Lib.hid hC;have HGB := Lib.hid hgb;have J4 := Lib.hid j4
    clear hC hgb hmc j1 j2 j3 j4 hrow
    gi_wp2
    refine ⟨by simp, .inl ⟨_, _, rfl, run_takeDeferred hDk.out, ?_⟩⟩
    refine ⟨_, ?res, w.heap.size, g, cp, rfl, ?cip, Nat.le_refl _, by have := HGB.out; have := HZ0.out; omega, ?bel⟩
    case res => simp [results, Tryz.f43, go_sem]
    case cip => exact HCF.out.grown (grownBy_putObj' _ _ _) (fun r e => by cases e; exact ⟨_, hDk.out, rfl⟩)
    case bel => exact J4.out.grown (grownBy_putObj' _ _ _) J4.out.size (fun r e => by cases e; have := HZ0.out; omega)
 case body =>
  clear HI0 HSEQ;rintro l pre x W ⟨⟨v, i1, i2⟩, i3, i4, i5⟩ hpre
  skip
  have HX : Hid (∀ w' : World, w'.heap[gk]? = W.heap[gk]? -> w'.rangeAt gk (o + 4 * x.1) (v4 (colOf key x.1)).toList) := fun w' h => by
   intro t u hu;have ht : t < 4 := by have := (List.getElem?_eq_some_iff.1 hu).1; simpa [v4] using this
   rw [Array.getElem?_toList, v4_get _ t ht] at hu
   rw [World.cell?_of_block (w := W) h, i4.cell (p := ⟨gk, o + 4 * x.1 + t, none⟩) hg, Nat.add_assoc, HK.out _ (by have := x.2; omega)]
   exact hu
  have H1 := Lib.hid i1;have H2 := Lib.hid i2;have H3 := Lib.hid i3;have H4 := Lib.hid i4;have H5 := Lib.hid i5;have HP := Lib.hid hpre;have zB : w.heap.size + 1 < W.heap.size := lt_of_block i3
  have HG := Lib.hid hg;clear i1 i2 i3 i4 i5 hpre hg;have ha : ∀ w', (Instr.arrayAt 149 (.slice (some ⟨gk, o + 4 * x.1, none⟩) 4 4)).run Tryz.prog w' = .ok (.pointer (some ⟨gk, o + 4 * x.1, none⟩)) w' := fun w' => run_arrayAt w' 149 5 4 _ 4 4 Tryz.underlying149 (by omega)
  gi_wp2
  have HS : Hid (∀ w' : World, w'.heap[w.heap.size + 1]? = W.heap[w.heap.size + 1]? -> w'.heap[gk]? = W.heap[gk]? -> w'.cell? ⟨w.heap.size + 1, 0, none⟩ = some (.pointer (some ⟨w.heap.size, 0, none⟩)) /\ w'.rangeAt gk (o + 4 * x.1) (v4 (colOf key x.1)).toList) := fun w' h7 hk => ⟨(cells_at (h7.trans H3.out) 0).trans rfl, HX.out w' hk⟩
  refine round_region (S := fun w' => w'.cell? ⟨w.heap.size + 1, 0, none⟩ = some (.pointer (some ⟨w.heap.size, 0, none⟩)) /\ w'.rangeAt gk (o + 4 * x.1) (v4 (colOf key x.1)).toList) (by kernel_rfl) (by kernel_rfl) (fun _ _ h => h) (HS.out W.drew rfl rfl) ?_
  intro hS;unfold pcV
  change wpAnyH _ _ _ _ _ 13 #[false, false, false, false, false, false, false, false, false, false, false, false, false] _ _
  refine wpAnyH_take (i := 0) (v := ?_) rfl (by kernel_rfl) (by kernel_rfl) (by kernel_rfl) (fun _ _ _ h => h) (Or.inl ⟨by rfl, ?hy⟩) hS ?_
  case hy => rintro w' ⟨hw1, hw2⟩; go_simp; try with_reducible rfl
  simp only [gA, gS, gZ, Act.put, sA, sZ, sS]
  refine wpAnyH_take (i := 1) (v := ?_) rfl (by kernel_rfl) (by kernel_rfl) (by kernel_rfl) (fun _ _ _ h => h) (Or.inl ⟨by rfl, ?hy⟩) hS ?_
  case hy => rintro w' ⟨hw1, hw2⟩; go_simp; try with_reducible rfl
  simp only [gA, gS, gZ, Act.put, sA, sZ, sS]
  refine wpAnyH_take (i := 2) (v := ?_) rfl (by kernel_rfl) (by kernel_rfl) (by kernel_rfl) (fun _ _ _ h => h) (Or.inl ⟨by rfl, ?hy⟩) hS ?_
  case hy => rintro w' ⟨hw1, hw2⟩; go_simp; try with_reducible rfl
  simp only [gA, gS, gZ, Act.put, sA, sZ, sS]
  refine wpAnyH_take (i := 3) (v := ?_) rfl (by kernel_rfl) (by kernel_rfl) (by kernel_rfl) (fun _ _ _ h => h) (Or.inl ⟨by rfl, ?hy⟩) hS ?_
  case hy => rintro w' ⟨hw1, hw2⟩; go_simp; try with_reducible rfl
  simp only [gA, gS, gZ, Act.put, sA, sZ, sS]
  refine wpAnyH_take (i := 5) (v := ?_) rfl (by kernel_rfl) (by kernel_rfl) (by kernel_rfl) (fun _ _ _ h => h) (Or.inl ⟨by rfl, ?hy⟩) hS ?_
  case hy => rintro w' ⟨hw1, hw2⟩; go_simp; try with_reducible rfl
  simp only [gA, gS, gZ, Act.put, sA, sZ, sS]
  refine wpAnyH_take (i := 6) (v := ?_) rfl (by kernel_rfl) (by kernel_rfl) (by kernel_rfl) (fun _ _ _ h => h) (Or.inl ⟨by rfl, ?hy⟩) hS ?_
  case hy => rintro w' ⟨hw1, hw2⟩; go_simp; try with_reducible rfl
  simp only [gA, gS, gZ, Act.put, sA, sZ, sS]
  refine wpAnyH_take (i := 7) rfl (by kernel_rfl) (by kernel_rfl) (by kernel_rfl) (fun _ _ _ h => h) (yieldsIf_load_mid (by rfl) _ _ rfl gk (o + 4 * x.1) rfl (v4 (colOf key x.1)).toList _ (fun _ h => h.2) Tryz.underlying149 rfl (by rw [four4]; simp [v4])) hS ?_
  simp only [gA, gS, gZ, Act.put, sA, sZ, sS]
  refine wpAnyH_ready (rs := [4, 8]) (by kernel_rfl) (by simp) ?_
  have c4 : W.cell? ⟨w.heap.size, 1, none⟩ = some v := (cells_at H1.out 1).trans rfl
  have c4a : ∀ o, (W.alloc o).cell? ⟨w.heap.size, 1, none⟩ = some v := fun o => (World.cell?_of_block (heap_old' _ _ _ (by show w.heap.size < _; omega))).trans c4
  have hown : (W.drew.alloc (.cells (v4 (colOf key x.1)) 149)).ownsRow W0.heap.size 149 4 v pre.length (u8L (contL 4 key pre)) := World.ownsRow.alloc H2.out _
  have hnew : (W.drew.alloc (.cells (v4 (colOf key x.1)) 149)).heap[W.heap.size]? = some (.cells (v4 (colOf key x.1)) 149 (0, 0)) := heap_new' W.drew _
  have hbase : W0.heap.size <= (W.drew.alloc (.cells (v4 (colOf key x.1)) 149)).heap.size := by rw [World.size_alloc]; have := H5.out; show _ <= W.heap.size + 1; omega
  have hpl := HP.out
  obtain ⟨i0, hi, hz0, hz1, hz2⟩ := info_parts info4
  have hoa : ∀ k, k < W.heap.size -> (W.drew.alloc (.cells (v4 (colOf key x.1)) 149)).heap[k]? = W.heap[k]? := fun k hk => heap_old' W.drew _ k hk
  refine AllReadyH.cons rfl (fun K hK => ?_) ?_
  ·skip
   rw [if_pos (by rfl)]
   go_simp
   refine hK.out _ _ (hS) (fun hS1 => ?_)
   clear hK K;simp only [gA, gS, gZ, Act.put, sA, sZ, sS]
   refine wpAnyH_ready (rs := [8]) (by kernel_rfl) (by simp) ?_
   refine AllReadyH.cons rfl (fun K hK => ?_) AllReadyH.nil
   rw [if_pos (by rfl)]
   go_simp
   refine hK.out _ (W.drew.alloc (.cells (v4 (colOf key x.1)) 149)) (HS.out _ (hoa _ zB) (hoa _ (by have := HG.out; omega))) (fun hS2 => ?_)
   clear hK K;simp only [gA, gS, gZ, Act.put, sA, sZ, sS]
   refine wpAnyH_ready (rs := [9]) (by kernel_rfl) (by simp) ?_
   refine AllReadyH.cons rfl (fun K hK => ?_) AllReadyH.nil
   refine step_append_lies _ (by rfl) (.tmp 37) (.tmp 41) 143 (by rfl) W0.heap.size 149 i0 _ 4 4 Tryz.underlying143 hi hz0 hz1 hz2 rfl (by omega) v pre.length (u8L (contL 4 key pre)) (by rfl) hown ⟨W.heap.size, 0, none⟩ 1 1 (v4 (colOf key x.1)).toList (by rfl) (by simp [v4]) (World.news_of_block hnew) (v4_all _) (by omega) (by unfold maxLen; omega) (by omega) hbase _ rfl ?_
   intro g cp w1 hown1 hgrow hat hlt;have hkeep : ∀ k, k < W0.heap.size -> w1.heap[k]? = W.heap[k]? := fun k hk => (hgrow.block k (by rw [World.size_alloc]; have := H5.out; show k < W.heap.size + 1; omega) (fun e => by have := own_ge H2.out k e.symm; omega)).trans (heap_old' _ _ _ (by show k < W.heap.size; have := H5.out; omega))
   refine hK.out _ _ (HS.out w1 (hkeep _ (by have := HZ0.out; omega)) (hkeep _ (by have := HZ0.out; have := HG.out; omega))) (fun hS2a => ?_)
   clear hK K;simp only [gA, gS, gZ, Act.put, sA, sZ, sS]
   refine wpAnyH_take (i := 10) (v := ?_) rfl (by kernel_rfl) (by kernel_rfl) (by kernel_rfl) (fun _ _ _ h => h) (Or.inl ⟨by rfl, ?hy⟩) hS2a ?_
   case hy => rintro w' ⟨hw1, hw2⟩; go_simp; try with_reducible rfl
   simp only [gA, gS, gZ, Act.put, sA, sZ, sS]
   refine wpAnyH_take (i := 11) (v := ?_) rfl (by kernel_rfl) (by kernel_rfl) (by kernel_rfl) (fun _ _ _ h => h) (Or.inl ⟨by rfl, ?hy⟩) hS2a ?_
   case hy => rintro w' ⟨hw1, hw2⟩; go_simp; try with_reducible rfl
   simp only [gA, gS, gZ, Act.put, sA, sZ, sS]
   refine wpAnyH_ready (rs := [12]) (by kernel_rfl) (by simp) ?_
   refine AllReadyH.cons rfl (fun K hK => ?_) AllReadyH.nil
   have e1 := (hkeep _ (by have := HZ0.out; omega)).trans H1.out
   have cB := (cells_at e1 1).trans rfl
   have fB := free_at e1 1
   rw [if_pos (by rfl)]
   go_simp
   refine hK.out _ _ (HS.out _ ((Below.heap_setCell _ _ _ _ (by simp)).trans (hkeep _ (by have := HZ0.out; omega))) ((Below.heap_setCell _ _ _ _ (by have := HG.out; simp; omega)).trans (hkeep _ (by have := HZ0.out; have := HG.out; omega)))) (fun hS2ab => ?_)
   clear hK K;simp only [gA, gS, gZ, Act.put, sA, sZ, sS]
   change wpAnyH _ _ _ _ _ 0 _ _ _
   refine wpAnyH_done (by kernel_rfl) ?_ _
   change Exit.inBlock 2 _ .normal _ _
   have FIN := newI_step 4 b 10 w.heap.size (w.heap.size + 1) W0.heap.size key w pre x W v w1 g cp H1.out H2.out H3.out H4.out H5.out (by have := HZ0.out; omega) (by have := HZ0.out; omega) (by have := HZ0.out; omega) (by omega) (Nat.le_refl _) _ hgrow hown1
   gi_wp2
   exact FIN
  ·refine AllReadyH.cons rfl (fun K hK => ?_) AllReadyH.nil
   rw [if_pos (by rfl)]
   go_simp
   refine hK.out _ (W.drew.alloc (.cells (v4 (colOf key x.1)) 149)) (HS.out _ (hoa _ zB) (hoa _ (by have := HG.out; omega))) (fun hS1 => ?_)
   clear hK K;simp only [gA, gS, gZ, Act.put, sA, sZ, sS]
   refine wpAnyH_ready (rs := [4]) (by kernel_rfl) (by simp) ?_
   refine AllReadyH.cons rfl (fun K hK => ?_) AllReadyH.nil
   rw [if_pos (by rfl)]
   go_simp
   refine hK.out _ (W.drew.alloc (.cells (v4 (colOf key x.1)) 149)) (hS1) (fun hS2 => ?_)
   clear hK K;simp only [gA, gS, gZ, Act.put, sA, sZ, sS]
   refine wpAnyH_ready (rs := [9]) (by kernel_rfl) (by simp) ?_
   refine AllReadyH.cons rfl (fun K hK => ?_) AllReadyH.nil
   refine step_append_lies _ (by rfl) (.tmp 37) (.tmp 41) 143 (by rfl) W0.heap.size 149 i0 _ 4 4 Tryz.underlying143 hi hz0 hz1 hz2 rfl (by omega) v pre.length (u8L (contL 4 key pre)) (by rfl) hown ⟨W.heap.size, 0, none⟩ 1 1 (v4 (colOf key x.1)).toList (by rfl) (by simp [v4]) (World.news_of_block hnew) (v4_all _) (by omega) (by unfold maxLen; omega) (by omega) hbase _ rfl ?_
   intro g cp w1 hown1 hgrow hat hlt;have hkeep : ∀ k, k < W0.heap.size -> w1.heap[k]? = W.heap[k]? := fun k hk => (hgrow.block k (by rw [World.size_alloc]; have := H5.out; show k < W.heap.size + 1; omega) (fun e => by have := own_ge H2.out k e.symm; omega)).trans (heap_old' _ _ _ (by show k < W.heap.size; have := H5.out; omega))
   refine hK.out _ _ (HS.out w1 (hkeep _ (by have := HZ0.out; omega)) (hkeep _ (by have := HZ0.out; have := HG.out; omega))) (fun hS2a => ?_)
   clear hK K;simp only [gA, gS, gZ, Act.put, sA, sZ, sS]
   refine wpAnyH_take (i := 10) (v := ?_) rfl (by kernel_rfl) (by kernel_rfl) (by kernel_rfl) (fun _ _ _ h => h) (Or.inl ⟨by rfl, ?hy⟩) hS2a ?_
   case hy => rintro w' ⟨hw1, hw2⟩; go_simp; try with_reducible rfl
   simp only [gA, gS, gZ, Act.put, sA, sZ, sS]
   refine wpAnyH_take (i := 11) (v := ?_) rfl (by kernel_rfl) (by kernel_rfl) (by kernel_rfl) (fun _ _ _ h => h) (Or.inl ⟨by rfl, ?hy⟩) hS2a ?_
   case hy => rintro w' ⟨hw1, hw2⟩; go_simp; try with_reducible rfl
   simp only [gA, gS, gZ, Act.put, sA, sZ, sS]
   refine wpAnyH_ready (rs := [12]) (by kernel_rfl) (by simp) ?_
   refine AllReadyH.cons rfl (fun K hK => ?_) AllReadyH.nil
   have e1 := (hkeep _ (by have := HZ0.out; omega)).trans H1.out
   have cB := (cells_at e1 1).trans rfl
   have fB := free_at e1 1
   rw [if_pos (by rfl)]
   go_simp
   refine hK.out _ _ (HS.out _ ((Below.heap_setCell _ _ _ _ (by simp)).trans (hkeep _ (by have := HZ0.out; omega))) ((Below.heap_setCell _ _ _ _ (by have := HG.out; simp; omega)).trans (hkeep _ (by have := HZ0.out; have := HG.out; omega)))) (fun hS2ab => ?_)
   clear hK K;simp only [gA, gS, gZ, Act.put, sA, sZ, sS]
   change wpAnyH _ _ _ _ _ 0 _ _ _
   refine wpAnyH_done (by kernel_rfl) ?_ _
   change Exit.inBlock 2 _ .normal _ _
   have FIN := newI_step 4 b 10 w.heap.size (w.heap.size + 1) W0.heap.size key w pre x W v w1 g cp H1.out H2.out H3.out H4.out H5.out (by have := HZ0.out; omega) (by have := HZ0.out; omega) (by have := HZ0.out; omega) (by omega) (Nat.le_refl _) _ hgrow hown1
   gi_wp2
   exact FIN
end Go.Proofs.YtnmdjggdgakeoaaGreat
namespace Go.Proofs.YtnmdjggdgakeoaaGreat
open Go Go.RowKit GfM
def keyOf (a b : List Nat) (long : Bool) : List Nat := if long then a ++ b else a
def wordsK (key : List Nat) : List Nat := sched (key.length / 4) key (3 * (key.length / 4) + 28)
def roundsK (key : List Nat) : Nat := key.length / 4 + 6
theorem wordsK_len (key : List Nat) (h : key.length = 16 \/ key.length = 32) : (wordsK key).length = 16 * roundsK key + 16 := by
 unfold wordsK roundsK
 rcases h with h | h <;> rw [h] <;> rw [sched_len _ key (by rw [h])]
theorem new_c (b gk o cap : Nat) (key : List Nat) (h : key.length = 16) (hkb : ∀ x ∈ key, x < 256) (hcap : key.length <= cap) (w : World) (hB : IsBox w b) (hg : gk < w.heap.size)
  (hk : ∀ j, j < key.length -> w.cell? ⟨gk, o + j, none⟩ = some (.int .u8 ((key.getD j 0 : Nat) : Int))) :
  Calls Tryz.prog 43 #[.pointer (some ⟨b, 0, none⟩), .slice (some ⟨gk, o, none⟩) key.length cap] w fun e w' =>
   ∃ c g n cp, e = .returned (.tuple #[.pointer (some ⟨c, 0, none⟩), .int .i64 0]) /\ Cip w' c b g n cp (roundsK key) (wordsK key) /\ w.heap.size <= c /\ w.heap.size <= g /\ Below w.heap.size w w' := by
 have hw : wordsK key = sched 4 key 40 := by unfold wordsK; rw [h]
 have hr : roundsK key = 10 := by unfold roundsK; rw [h]
 rw [hw, hr, h]
 rw [h] at hcap hk;exact (new4_c b gk o cap key h hkb hcap w hB hg hk).mono fun e w' ⟨c, g, cp, h1, h2, h3⟩ => ⟨c, g, _, cp, h1, h2, h3⟩
def encK (key l : List Nat) : List Nat := encL (wordsK key) (roundsK key) l
theorem enc_c {c b g n cap : Nat} {key l : List Nat} (hkl : key.length = 16 \/ key.length = 32) (hl : By l) (w : World) (hC : Cip w c b g n cap (roundsK key) (wordsK key)) :
  Calls Tryz.prog 377 #[.pointer (some ⟨c, 0, none⟩), .agg (bA l)] w fun e w' => e = .returned (.agg (bA (encK key l))) /\ Below w.heap.size w w' :=
 encrypt_c c b g n cap _ _ l hl (by unfold roundsK; omega) (by rw [wordsK_len key hkl]; exact Nat.le_refl _) (by unfold roundsK; omega) w hC
theorem encK_by {key l : List Nat} (hkl : key.length = 16 \/ key.length = 32) (hl : By l) (hW : ∀ x ∈ wordsK key, x < 256) : By (encK key l) := by
 have h16 := wordsK_len key hkl
 unfold encK encL
 exact key_by _ _ _ (stp_shift.okay _ (stp_sub.okay _ (encS_by _ l hl hW _ (by omega)))) hW (by omega)
theorem own_keep {W W' : World} {base : Nat} {e : TypeId} {sz : Nat} {v : Value} {n : Nat} {xs : List Value} (h : W.ownsRow base e sz v n xs) (hb : ∀ k, base <= k -> k < W.heap.size -> W'.heap[k]? = W.heap[k]?) : W'.ownsRow base e sz v n xs := by
 refine ⟨h.1, ?_⟩
 rcases h.2 with h | ⟨g, cap, cur, e1, e2, e3, e4⟩
 ·exact .inl h
 ·exact .inr ⟨g, cap, cur, e1, e2, (hb g e2 (lt_of_block e3)).trans e3, e4⟩
theorem ctrB_by (e b l : Nat) : By (ctrB e b l) := by
 have h : ∀ x ∈ ctrB e b l, x < 256 := by
  intro x hx;simp only [ctrB, highB, List.mem_append, List.mem_map, List.mem_cons, List.not_mem_nil, or_false] at hx
  rcases hx with ⟨_, _, rfl⟩ | ⟨_, _, rfl⟩ | ⟨_, _, rfl⟩ | rfl | rfl <;> first | exact upB_lt _ _ | omega
 refine ⟨ctrB_len e b l, fun j hj => ?_⟩
 rw [List.getD_eq_getElem?_getD, List.getElem?_eq_getElem (by rw [ctrB_len]; exact hj)]
 exact h _ (List.getElem_mem _)
def strB (key : List Nat) (e b : Nat) : Nat -> List Nat
 | 0 => []
 | k + 1 => strB key e b k ++ encK key (ctrB e b k)
theorem encK_len (key l : List Nat) : (encK key l).length = 16 := by simp [encK, encL, keyL]
theorem strB_len (key : List Nat) (e b : Nat) : ∀ k, (strB key e b k).length = 16 * k
 | 0 => rfl
 | k + 1 => by rw [strB, List.length_append, strB_len key e b k, encK_len]; omega
theorem strB_get (key : List Nat) (e b : Nat) : ∀ k j, j < 16 * k -> (strB key e b k).getD j 0 = (encK key (ctrB e b (j / 16))).getD (j % 16) 0
 | 0, j, h => by omega
 | k + 1, j, h => by
  have hl := strB_len key e b k
  rw [strB, List.getD_eq_getElem?_getD]
  by_cases hj : j < 16 * k
  ·rw [List.getElem?_append_left (by omega), <- List.getD_eq_getElem?_getD]
   exact strB_get key e b k j hj
  ·rw [List.getElem?_append_right (by omega), hl, <- List.getD_eq_getElem?_getD, show j / 16 = k by omega, show j % 16 = j - 16 * k by omega]
theorem stream_c {c bx g n0 cp : Nat} {key : List Nat} (hkl : key.length = 16 \/ key.length = 32) (e b n : Nat) (he : e < 18446744073709551616) (hb : b < 4294967296) (h1 : 1 <= n) (hn : n <= 65536) (w : World) (hC : Cip w c bx g n0 cp (roundsK key) (wordsK key)) :
  Calls Tryz.prog 343 #[.pointer (some ⟨c, 0, none⟩), .int .u64 (e : Int), .int .u32 (b : Int), .int .i64 (n : Int)] w fun r w' =>
   ∃ q, r = .returned (.slice (some ⟨q, 0, none⟩) n n) /\ w.heap.size <= q /\ q < w'.heap.size /\ (∀ j, j < n -> w'.cell? ⟨q, j, none⟩ = some (.int .u8 (((encK key (ctrB e b (j / 16))).getD (j % 16) 0 : Nat) : Int))) /\ Below w.heap.size w w' := by
 obtain ⟨i0, hi, hz0, hz1, hz2⟩ := info_parts u8info
 have HC := Lib.hid hC;have HK := Lib.hid hkl;have hBB := fun (l : Nat) (hl : l < 65536) (w : World) => counter_c e b l he hb hl w
 have HBB := Lib.hid hBB;clear hC hkl he hb hBB;have d1 : decide ((n : Int) < 1) = false := by simp; omega
 have d2 : decide ((n : Int) > 65536) = false := by simp; omega
 go_enter Tryz.func343, Tryz.ntmps343
 go_wp2
 go_loopw [10, 11] (fun vs vi wr => ∃ k : Nat, 16 * k < n + 16 /\ vi = .int .i64 (k : Int) /\ Hid (wr.ownsRow w.heap.size 5 1 vs (16 * k) (bA (strB key e b k)).toList) /\ Hid (Below w.heap.size w wr)) (fun _ vi _ => n + 16 - 16 * (intOf vi).toNat)
 case atStart => exact ⟨0, by omega, rfl, ⟨rfl, .inl ⟨rfl, rfl⟩⟩, Below.refl _ _⟩
 case round =>
  obtain ⟨k, hk, rfl, hown, hbel⟩ := hrel
  have hlen : ∀ w' : World, True := fun _ => trivial
  clear hlen;have hv : ∃ s cap, u10 = .slice s (16 * k) cap /\ (k = 0 \/ 16 * k <= cap) := by
   rcases hown.out.2 with ⟨rfl, h⟩ | ⟨g', cap', cur, h, e2, e3, e4, e5, e6, e7⟩
   ·exact ⟨none, 0, by rw [h], .inl (by omega)⟩
   ·exact ⟨_, cap', h, .inr e4⟩
  obtain ⟨sa, capo, rfl, hcap⟩ := hv
  obtain ⟨m, hm⟩ : ∃ m, m = 16 * k := ⟨_, rfl⟩
  have HM := Lib.hid hm;rw [<- hm] at hown hcap ⊢
  clear hm
  by_cases hlt : m < n
  ·have hd : decide ((m : Int) < (n : Int)) = true := by simp; omega
   have hk16 : k < 65536 := by have := HM.out; omega
   have hw16 : IntKind.u16.wrap (k : Int) = (k : Int) := by rw [IntKind.wrap_u16]; omega
   have HHK := Lib.hid hk16;clear hk16;go_wp2_with fail
   refine (HBB.out k HHK.out wr).mono ?_
   rintro r w1 ⟨rfl, hb1⟩
   have HB1 : Hid (Below w.heap.size w w1) := hbel.out.trans (hb1.mono hbel.out.size)
   have HOW1 : Hid (w1.ownsRow w.heap.size 5 1 (.slice sa m capo) m (bA (strB key e b k)).toList) := own_keep hown.out (fun q hq hq2 => hb1.block q hq2)
   clear hb1;go_wp2_with fail
   refine (enc_c HK.out (ctrB_by e b k) w1 (HC.out.up HB1.out (Nat.le_refl _))).mono ?_
   rintro r w2 ⟨rfl, hb2⟩
   have HB2 : Hid (Below w.heap.size w w2) := HB1.out.trans (hb2.mono HB1.out.size)
   have HOW2 : Hid (w2.ownsRow w.heap.size 5 1 (.slice sa m capo) m (bA (strB key e b k)).toList) := own_keep HOW1.out (fun q hq hq2 => hb2.block q hq2)
   have HEL := Lib.hid (encK_len key (ctrB e b k))
   obtain ⟨X, hX⟩ : ∃ X, X = encK key (ctrB e b k) := ⟨_, rfl⟩
   have HX := Lib.hid hX;rw [<- hX] at HEL ⊢
   clear hb2 hX HOW1 HB1;go_wp2_with (first
    | (refine wpList_store_row rfl 478 (.tmp 12) (.tmp 33) rfl w2.heap.size _ rfl rfl 478 _ (heap_new' _ _) (by rw [zero16', bA_size, HEL.out]) (by rw [bA_size, HEL.out]; rfl) (bA_one _) ?_; generalize hW5 : World.setRow _ _ _ = W5; have HH5 : Hid (W5.heap[w2.heap.size]? = some (.cells (bA X) 478 (0, 0))) := (by rw [<- hW5]; exact setRow_heap _ _ _ _ _ _ (heap_new' w2 _)); have HB5 : Hid (Below w2.heap.size w2 W5) := (by rw [<- hW5]; exact below_setRow ((Below.refl _ _).alloc (Nat.le_refl _) _) (Nat.le_refl _) _); clear hW5; have HS5 : Hid (w2.heap.size < W5.heap.size) := lt_of_block HH5.out; have HOW5 : Hid (W5.ownsRow w.heap.size 5 1 (.slice sa m capo) m (bA (strB key e b k)).toList) := own_keep HOW2.out (fun q hq hq2 => HB5.out.block q hq2))
    | (refine wpList_append_lies _ rfl (.tmp 34) (.tmp 35) 22 rfl w.heap.size 5 i0 _ 1 1 Tryz.underlying22 hi hz0 hz1 hz2 rfl (by omega) (.slice sa m capo) m _ rfl HOW5.out ⟨w2.heap.size, 0, none⟩ 16 16 (bA X).toList rfl (by simp [bA_size, HEL.out]) (World.news_of_block HH5.out) (by simp [bA, Value.oneCell']) (by omega) (by unfold maxLen; omega) (by omega) (by have := HB5.out.size; have := HB2.out.size; omega) _ rfl ?_; intro g5 cap5 w6 hown6 hgrow hat hlt6)
    | fail)
   go_roundw
   case rel =>
    refine ⟨k + 1, by have := HM.out; omega, by go_num, ?_, ?_⟩
    ·have e : (bA (strB key e b (k + 1))).toList = (bA (strB key e b k)).toList ++ (bA X).toList := by rw [strB, HX.out]; simp [bA]
     rw [e, show 16 * (k + 1) = m + 16 by have := HM.out; omega]; exact hown6
    ·exact (HB2.out.trans (HB5.out.mono HB2.out.size)).grown hgrow (by have := HB2.out.size; have := HB5.out.size; omega) (fun q e => by have := own_ge HOW5.out q e; omega)
   case measure => simp [intOf]; have := HM.out; omega
  ·have hd : decide ((m : Int) < (n : Int)) = false := by simp; omega
   rcases hown.out.2 with ⟨h, h'⟩ | ⟨g', cap', cur, h, e2, e3, e4, e5, e6, e7⟩
   ·omega
   ·cases h
    have hs1 : (n : Int) <= (capo : Int) := by omega
    have HE3 := Lib.hid e3;have HE7 := Lib.hid e7;have HE2 := Lib.hid e2;clear e2 e3 e5 e6 e7 hi hz0 hz1 hz2;go_wp2
    go_ret
    refine ⟨g', rfl, HE2.out, lt_of_block HE3.out, fun j hj => ?_, hbel.out⟩
    rw [cells_at HE3.out j]
    have := congrArg (fun l => l[j]?) HE7.out
    simp only [Nat.mul_one] at this
    rw [List.getElem?_take_of_lt (by omega), Array.getElem?_toList, Array.getElem?_toList, bA_get _ j (by rw [strB_len]; have := HM.out; omega), strB_get _ _ _ _ _ (by have := HM.out; omega)] at this
    exact this
end Go.Proofs.YtnmdjggdgakeoaaGreat
