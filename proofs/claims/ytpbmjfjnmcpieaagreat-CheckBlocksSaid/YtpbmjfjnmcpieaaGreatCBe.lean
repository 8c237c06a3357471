/- Texts ChY, ChZ, ChMa, RCb, RCd, put together by pack.py. -/
import Derived.Test.YtpbmjfjnmcpieaaGreatCBd
import Derived.Test.YtpbmjfjnmcpieaaGreatCBb
set_option maxRecDepth 100000
set_option maxHeartbeats 16000000
set_option linter.unusedVariables false
set_option linter.unusedSimpArgs false
namespace Go.Proofs.YtpbmjfjnmcpieaaGreat
open Go Go.RowKit
attribute [local go_sem] Oper.semAt_some
def pcOf (b : List Nat) (j : Nat) : List Nat := (b.drop (16 * j)).take 16
/-- the page that sixteen bytes tell -/
def pgOf (e : List Nat) : Pg := ⟨leN (e.take 1), leN ((e.drop 1).take 1), leN ((e.drop 2).take 2), leN ((e.drop 4).take 4), leN ((e.drop 8).take 8)⟩
def pgsN (b : List Nat) : List Pg := (List.range 16).map fun j => pgOf (pcOf b j)
/-- a block's pages -/
def parseP (b : List Nat) : Option (List Pg) := if (pgsN b).all oneP then some (pgsN b) else none
theorem up_le : ∀ (l : List Nat) (k : Nat), (∀ x ∈ l, x < 256) -> k < l.length -> upB (leN l) k = l.getD k 0
 | [], k, _, hk => by simp at hk
 | c :: l, 0, h, _ => by
  have hc := h c List.mem_cons_self
  unfold upB leN
  simp; omega
 | c :: l, k + 1, h, hk => by
  have ih := up_le l k (fun x hx => h x (List.mem_cons_of_mem _ hx)) (by simpa using hk)
  have hc := h c List.mem_cons_self
  rw [List.getD_cons_succ, <- ih]
  unfold upB
  rw [leN, show 8 * (k + 1) = 8 + 8 * k by omega, Nat.pow_add, <- Nat.div_div_eq_div_mul]
  congr 2
  rw [show (2 : Nat) ^ 8 = 256 from rfl]; omega
theorem lowB_leN (l : List Nat) (n : Nat) (hn : l.length = n) (h : ∀ x ∈ l, x < 256) : lowB n (leN l) = l := by
 subst hn
 apply List.ext_getElem
 ·rw [lowB_len]
 ·intro k h1 h2
  have := up_le l k h h2
  rw [List.getD_eq_getElem?_getD, List.getElem?_eq_getElem h2] at this
  simp only [lowB, List.getElem_map, List.getElem_range]
  exact this
theorem one_of {l : List Nat} (h : l.length = 1) : l = [leN l] := by
 match l, h with
 | [x], _ => simp [leN]
theorem pgB_pgOf (e : List Nat) (h16 : e.length = 16) (h : ∀ x ∈ e, x < 256) : pgB (pgOf e) = e := by
 have hd : ∀ j, ∀ x ∈ e.drop j, x < 256 := fun j x hx => h x (List.mem_of_mem_drop hx)
 have ht : ∀ j n, ∀ x ∈ (e.drop j).take n, x < 256 := fun j n x hx => hd j x (List.mem_of_mem_take hx)
 have l1 : e.take 1 = [leN (e.take 1)] := one_of (by rw [List.length_take]; omega)
 have l2 : (e.drop 1).take 1 = [leN ((e.drop 1).take 1)] := one_of (by rw [List.length_take, List.length_drop]; omega)
 have m1 : leN (e.take 1) < 256 := by
  have := h (leN (e.take 1)) (List.mem_of_mem_take (i := 1) (by rw [l1]; simp [leN])); exact this
 have m2 : leN ((e.drop 1).take 1) < 256 := by
  have := ht 1 1 (leN ((e.drop 1).take 1)) (by rw [l2]; simp [leN]); exact this
 unfold pgB hdB pgOf
 simp only
 rw [lowB_leN _ 2 (by rw [List.length_take, List.length_drop]; omega) (ht 2 2), lowB_leN _ 4 (by rw [List.length_take, List.length_drop]; omega) (ht 4 4), lowB_leN _ 8 (by rw [List.length_take, List.length_drop]; omega) (ht 8 8), Nat.mod_eq_of_lt m1, Nat.mod_eq_of_lt m2]
 have e1 : e = e.take 1 ++ ((e.drop 1).take 1 ++ ((e.drop 2).take 2 ++ ((e.drop 4).take 4 ++ (e.drop 8).take 8))) := by
  have t8 : (e.drop 8).take 8 = e.drop 8 := List.take_of_length_le (by rw [List.length_drop]; omega)
  have s4 : e.drop 4 = (e.drop 4).take 4 ++ e.drop 8 := by
   conv => lhs; rw [<- List.take_append_drop 4 (e.drop 4), List.drop_drop]
  have s2 : e.drop 2 = (e.drop 2).take 2 ++ e.drop 4 := by
   conv => lhs; rw [<- List.take_append_drop 2 (e.drop 2), List.drop_drop]
  have s1 : e.drop 1 = (e.drop 1).take 1 ++ e.drop 2 := by
   conv => lhs; rw [<- List.take_append_drop 1 (e.drop 1), List.drop_drop]
  rw [t8, <- s4, <- s2, <- s1, List.take_append_drop]
 conv => rhs; rw [e1, l1, l2]
 rfl
theorem pgOf_lt (e : List Nat) (h : ∀ x ∈ e, x < 256) : (pgOf e).kind < 256 /\ (pgOf e).cls < 256 /\ (pgOf e).run < 65536 /\ (pgOf e).size < 4294967296 /\ (pgOf e).ser < 18446744073709551616 := by
 have key : ∀ j n, leN ((e.drop j).take n) < 2 ^ (8 * n) := fun j n => by
  have h1 := leN_lt ((e.drop j).take n) (fun x hx => h x (List.mem_of_mem_drop (List.mem_of_mem_take hx)))
  exact Nat.lt_of_lt_of_le h1 (Nat.pow_le_pow_right (by decide) (by rw [List.length_take]; omega))
 have k0 := key 0 1
 rw [List.drop_zero] at k0
 exact ⟨k0, key 1 1, key 2 2, key 4 4, key 8 8⟩
theorem nextG (e : List Nat) (j n : Nat) (h : j + n <= e.length) : nextN n (e.drop j) 0 = (e.drop j).take n /\ restN n (e.drop j) 0 = e.drop (j + n) /\ errN n (e.drop j) 0 = 0 := by
 have : ¬ (e.drop j).length < n := by rw [List.length_drop]; omega
 unfold nextN restN errN
 simp only [if_true, if_neg this, List.drop_drop]
 exact ⟨trivial, trivial, trivial⟩
def pgAt (b : List Nat) (x : Fin 16) : Pg := pgOf (pcOf b x.1)
theorem pgsN_all (b : List Nat) : (upF 16 16).map (pgAt b) = pgsN b := by
 have : upF 16 16 = List.finRange 16 := by unfold upF; exact List.take_of_length_le (by simp)
 rw [this]
 unfold pgsN
 rfl
/-- what is known from round to round -/
def PI (b : List Nat) (n1 b2 b3 b4 : Nat) (w : World) (pre : List (Fin 16)) (W : World) : Prop :=
 (∃ v, W.heap[b4]? = some (.cells #[v] 61 (0, 0)) /\ W.ownsRow n1 100 5 v pre.length (cellsP (pre.map (pgAt b)))) /\
 W.heap[b2]? = some (.cells #[.slice none 0 0] 61 (0, 0)) /\ W.heap[b3]? = some (.cells #[.int .i64 0] 38 (0, 0)) /\ Below w.heap.size w W /\ n1 <= W.heap.size /\ ∀ x ∈ pre, oneP (pgAt b x) = true
def PIx (b : List Nat) (b2 b3 : Nat) (w : World) (c : Code) (pre : List (Fin 16)) (W : World) : Prop :=
 c = .ret /\ W.heap[b2]? = some (.cells #[.slice none 0 0] 61 (0, 0)) /\ W.heap[b3]? = some (.cells #[.int .i64 4] 38 (0, 0)) /\ Below w.heap.size w W /\ ∃ x : Fin 16, oneP (pgAt b x) = false
theorem kept_cellsG {W W' : World} {row : Option Nat} (hg : W.grownBy W' row) (hr : ∀ r, row = some r -> ∃ o : Obj, W.heap[r]? = some o /\ o.isCells = false) {k : Nat} {A : Array Value} {t : TypeId} {z : Nat × Nat} (h : W.heap[k]? = some (.cells A t z)) :
  W'.heap[k]? = some (.cells A t z) := by
 refine (hg.block k (lt_of_block h) ?_).trans h
 intro e
 obtain ⟨o, ho, hc⟩ := hr k e.symm
 rw [h] at ho; cases ho; cases hc
theorem own_keptG {W W' : World} {row : Option Nat} (hg : W.grownBy W' row) (hr : ∀ r, row = some r -> ∃ o : Obj, W.heap[r]? = some o /\ o.isCells = false) {base n : Nat} {e : TypeId} {size : Nat} {v : Value} {xs : List Value} (h : W.ownsRow base e size v n xs) : W'.ownsRow base e size v n xs := by
 refine ⟨h.1, ?_⟩
 rcases h.2 with h | ⟨g, cap, cur, e1, e2, e3, e4⟩
 ·exact .inl h
 ·exact .inr ⟨g, cap, cur, e1, e2, kept_cellsG hg hr e3, e4⟩
theorem PI_own (b : List Nat) (n1 b2 b3 b4 : Nat) (w : World) (hn1 : w.heap.size <= n1) : OwnFrom n1 (PI b n1 b2 b3 b4 w) := by
 intro s W W' row h hg hr
 have hr' : ∀ r, row = some r -> ∃ o : Obj, W.heap[r]? = some o /\ o.isCells = false := fun r e => (hr r e).2
 obtain ⟨⟨v, h1, h2⟩, h3, h4, h5, h6, h7⟩ := h
 exact ⟨⟨v, kept_cellsG hg hr' h1, own_keptG hg hr' h2⟩, kept_cellsG hg hr' h3, kept_cellsG hg hr' h4, h5.grown hg h5.size (fun k e => Nat.le_trans hn1 (hr k e).1), Nat.le_trans h6 hg.size, h7⟩
theorem PIx_own (b : List Nat) (n1 b2 b3 : Nat) (w : World) (hn1 : w.heap.size <= n1) (c : Code) : OwnFrom n1 (PIx b b2 b3 w c) := by
 intro s W W' row h hg hr
 have hr' : ∀ r, row = some r -> ∃ o : Obj, W.heap[r]? = some o /\ o.isCells = false := fun r e => (hr r e).2
 obtain ⟨h1, h2, h3, h4, h5⟩ := h
 exact ⟨h1, kept_cellsG hg hr' h2, kept_cellsG hg hr' h3, h4.grown hg h4.size (fun k e => Nat.le_trans hn1 (hr k e).1), h5⟩
theorem keepsO_below {W W' : World} (h : Below W.heap.size W W') : KeepsOthers W W' := ⟨h.size, fun k o hk _ => (h.block k (Array.getElem?_eq_some_iff.1 hk).1).trans hk⟩
/-- what a round leaves as it was -/
def KpG (Bc n1 : Nat) (W W' : World) : Prop := W.heap.size <= W'.heap.size /\ ∀ k, k < n1 -> k ≠ Bc -> W'.heap[k]? = W.heap[k]?
theorem KpG_t (Bc n1 : Nat) {A B C : World} (h1 : KpG Bc n1 A B) (h2 : KpG Bc n1 B C) : KpG Bc n1 A C :=
 ⟨Nat.le_trans h1.1 h2.1, fun k hk hc => (h2.2 k hk hc).trans (h1.2 k hk hc)⟩
theorem KpG_cell (Bc n1 B o : Nat) (hB : B < n1) (hc : B ≠ Bc) {A C : World} (h : KpG Bc n1 A C) : C.cell? ⟨B, o, none⟩ = A.cell? ⟨B, o, none⟩ := World.cell?_of_block (h.2 B hB hc)
/-- what Parse answers -/
def ParsePg (B : Nat) (w' : World) (e : Ending) (b : List Nat) : Prop := match parseP b with
 | none => e = .returned (.tuple #[.slice none 0 0, .int .i64 4])
 | some L => ∃ v, e = .returned (.tuple #[v, .int .i64 0]) /\ w'.ownsRow B 100 5 v 16 (cellsP L)
theorem pparse_c (gk o cap m : Nat) (b : List Nat) (hlen : b.length = 256) (hm : m = 16 * 16) (hcap : 256 <= cap) (w : World) (hv : BytesAt w (some ⟨gk, o, none⟩) cap b) :
  Calls Tryz.prog 38 #[.slice (some ⟨gk, o, none⟩) m cap] w fun e w' => ParsePg w.heap.size w' e b /\ Below w.heap.size w w' := by
 have HV := Lib.hid hv
 have HLN := Lib.hid hlen
 have HM := Lib.hid hm
 have HC := Lib.hid hcap
 have dm : ((m : Int) == 256) = true := by rw [hm]; rfl
 have im : (m : Int) = 256 := by rw [hm]; rfl
 clear hv hlen hm hcap
 refine (callsIn_wide (n := 5)).1 ?_
 refine callsIn_of_wp_marks Tryz.func38 rfl trivial ?_ rfl
 simp only [Tryz.ntmps38, List.size_toArray, List.length_cons, List.length_nil, Nat.reduceAdd, Nat.reduceSub, Array.replicate_succ, Array.replicate_zero, List.push_toArray, List.append_toArray, List.nil_append, List.cons_append]
 gi_wp2_with fail
 refine ⟨trivial, callsIn_wide.2 ((chunkS_c _ _ _ _).mono ?_)⟩
 rintro e w1 ⟨rfl, rfl⟩
 gi_wp2
 obtain ⟨W0, hW0⟩ : ∃ W0, W0 = (((((w.alloc (.cells #[.slice none 0 0] 61)).alloc (.cells #[.int .i64 0] 38)).alloc (.cells #[.slice none 0 0] 61)).alloc (.cells #[.slice (some ⟨gk, o, none⟩) m cap] 47)).alloc (.cells #[.int .i64 16] 3)) := ⟨_, rfl⟩
 have z0 : W0.heap.size = w.heap.size + 5 := by rw [hW0]; simp
 have g0 : W0.heap[w.heap.size]? = some (.cells #[.slice none 0 0] 61 (0, 0)) := by
  rw [hW0, heap_old' _ _ _ (by simp <;> omega), heap_old' _ _ _ (by simp <;> omega), heap_old' _ _ _ (by simp <;> omega), heap_old' _ _ _ (by simp), heap_new']
 have g1 : W0.heap[w.heap.size + 1]? = some (.cells #[.int .i64 0] 38 (0, 0)) := by
  rw [hW0, heap_old' _ _ _ (by simp <;> omega), heap_old' _ _ _ (by simp <;> omega), heap_old' _ _ _ (by simp)]
  exact heap_new' (w.alloc _) _ |> fun h => by rw [World.size_alloc] at h; exact h
 have g2 : W0.heap[w.heap.size + 1 + 1]? = some (.cells #[.slice none 0 0] 61 (0, 0)) := by
  rw [hW0, heap_old' _ _ _ (by simp <;> omega), heap_old' _ _ _ (by simp)]
  exact heap_new' ((w.alloc _).alloc _) _ |> fun h => by rw [World.size_alloc, World.size_alloc] at h; exact h
 have g3 : W0.cell? ⟨w.heap.size + 1 + 1 + 1, 0, none⟩ = some (.slice (some ⟨gk, o, none⟩) (16 * 16) cap) := by
  have h : W0.heap[w.heap.size + 1 + 1 + 1]? = some (.cells #[.slice (some ⟨gk, o, none⟩) m cap] 47 (0, 0)) := by
   rw [hW0, heap_old' _ _ _ (by simp)]
   exact heap_new' (((w.alloc _).alloc _).alloc _) _ |> fun h => by rw [World.size_alloc, World.size_alloc, World.size_alloc] at h; exact h
  rw [HM.out] at h
  exact (cells_at h 0).trans rfl
 have g4 : W0.cell? ⟨w.heap.size + 1 + 1 + 1 + 1, 0, none⟩ = some (.int .i64 16) := by
  have h : W0.heap[w.heap.size + 1 + 1 + 1 + 1]? = some (.cells #[.int .i64 16] 3 (0, 0)) := by
   rw [hW0]
   exact heap_new' ((((w.alloc _).alloc _).alloc _).alloc _) _ |> fun h => by rw [World.size_alloc, World.size_alloc, World.size_alloc, World.size_alloc] at h; exact h
  exact (cells_at h 0).trans rfl
 have gb : Below w.heap.size w W0 := by rw [hW0]; exact (((((Below.refl _ _).alloc (Nat.le_refl _) _).alloc (by simp) _).alloc (by simp <;> omega) _).alloc (by simp <;> omega) _).alloc (by simp <;> omega) _
 rw [<- hW0]
 clear hW0
 have HI0 : Hid (PI b W0.heap.size w.heap.size (w.heap.size + 1) (w.heap.size + 1 + 1) w [] W0) := ⟨⟨_, g2, rfl, .inl ⟨rfl, rfl⟩⟩, g0, g1, gb, Nat.le_refl _, fun x h => by cases h⟩
 have HSEQ : Hid (SeqStopsK Fence.wide 4 Tryz.prog 91 #[.pointer (some ⟨w.heap.size + 1 + 1 + 1, 0, none⟩), .pointer (some ⟨w.heap.size + 1 + 1 + 1 + 1, 0, none⟩)] (fun x : Fin 16 => #[pcS gk o x.1]) (KpG (w.heap.size + 1 + 1) W0.heap.size) (fun xs => xs = upF 16 16) (fun _ => True) 16 W0) :=
  chunkS_stops 4 (w.heap.size + 1 + 1 + 1) (w.heap.size + 1 + 1 + 1 + 1) gk o cap 16 (by have := HC.out; omega) (by omega) _ (fun A B h => ⟨KpG_cell _ _ _ _ (by omega) (by omega) h, KpG_cell _ _ _ _ (by omega) (by omega) h, h.1⟩) W0 (by omega) (by omega) g3 g4
 have HZ0 := Lib.hid z0
 clear g0 g1 g2 g3 g4 gb z0
 refine wpIn_rangeFunc_ownF (α := Fin 16) rfl (by omega) (gf := 91) (lb := #[.pointer (some ⟨w.heap.size + 1 + 1 + 1, 0, none⟩), .pointer (some ⟨w.heap.size + 1 + 1 + 1 + 1, 0, none⟩)]) rfl trivial (enters_of Tryz.func91 (by kernel_rfl) rfl) HSEQ.out (fun h1 h2 => KpG_t _ _ h1 h2)
  (fun W l o o' hl ho hc _ => ⟨by simp, fun k hk hkc => World.putObj_heap_other (by omega)⟩) (Below.refl _ _) (fun _ => rfl) (PI b W0.heap.size w.heap.size (w.heap.size + 1) (w.heap.size + 1 + 1) w) (PIx b w.heap.size (w.heap.size + 1) w)
  (PI_own _ _ _ _ _ _ (by have := HZ0.out; omega)) (fun c => PIx_own _ _ _ _ _ (by have := HZ0.out; omega) c) HI0.out
  (fun x => { tmps := #[.slice (some ⟨gk, o, none⟩) m cap, undef, .pointer (some ⟨w.heap.size, 0, none⟩), .pointer (some ⟨w.heap.size + 1, 0, none⟩), .pointer (some ⟨w.heap.size + 1 + 1, 0, none⟩), pcS gk o x.1, undef, undef, .slice (some ⟨gk, o, none⟩) m cap, .int .i64 256, .bool false, .slice (some ⟨gk, o, none⟩) m cap, .func (.func 91) #[] #[.pointer (some ⟨w.heap.size + 1 + 1 + 1, 0, none⟩), .pointer (some ⟨w.heap.size + 1 + 1 + 1 + 1, 0, none⟩)], pcS gk o x.1, undef, undef, undef, undef, undef, undef, undef, undef, undef, undef, undef, undef, undef, undef, undef, undef, undef, undef, undef, undef, undef, undef, undef, undef, undef, undef, undef, undef, undef, undef, undef, undef], defers := [] }) ?assign ?body ?done ?stop
 case assign =>
  intro l x W K hK
  gi_wp2
  exact hK
 case stop =>
  rintro D c pre W hDn _ ⟨rfl, h2, h3, h4, x, hx⟩ hD
  clear HI0 HSEQ
  have HP : Hid (parseP b = none) := by
   show _ = _
   unfold parseP
   rw [if_neg]
   rw [<- pgsN_all, List.all_map, List.all_eq_true]
   intro h
   have := h x (by unfold upF; rw [List.take_of_length_le (by simp)]; exact List.mem_finRange x)
   simp only [Function.comp_apply] at this
   rw [hx] at this; cases this
  have HB := Lib.hid h4
  have c2 : ∀ o, (W.putObj D o).cell? ⟨w.heap.size, 0, none⟩ = some (.slice none 0 0) := fun o => by
   rw [World.cell?_of_block (World.putObj_heap_other (by rintro rfl; rw [h2] at hD; cases hD))]; exact (cells_at h2 0).trans rfl
  have c3 : ∀ o, (W.putObj D o).cell? ⟨w.heap.size + 1, 0, none⟩ = some (.int .i64 4) := fun o => by
   rw [World.cell?_of_block (World.putObj_heap_other (by rintro rfl; rw [h3] at hD; cases hD))]; exact (cells_at h3 0).trans rfl
  gi_wp2
  refine ⟨by simp, .inl ⟨_, _, rfl, run_takeDeferred hD, ?_⟩⟩
  refine ⟨.tuple #[.slice none 0 0, .int .i64 4], ?res, ?ans, ?bel⟩
  case res => simp [results, Tryz.f38, go_sem, c2, c3]
  case ans => unfold ParsePg; rw [HP.out]
  case bel => exact HB.out.grown (grownBy_putObj' _ _ _) HB.out.size (fun r e => by cases e; have := HZ0.out; omega)
 case done =>
  rintro D xs W hD rfl ⟨⟨v, i1, i2⟩, i3, i4, i5, i6, i7⟩ hDD
  clear HI0 HSEQ
  have HP : Hid (parseP b = some (pgsN b)) := by
   show _ = _
   unfold parseP
   rw [if_pos]
   rw [<- pgsN_all, List.all_map, List.all_eq_true]
   intro y hy
   exact i7 y hy
  rw [pgsN_all] at i2
  rw [upF_len _ _ (Nat.le_refl _)] at i2
  obtain ⟨va, vc, rfl⟩ := own_sliceR i2
  have HO := Lib.hid i2
  have HB := Lib.hid i5
  have hne2 : D ≠ w.heap.size := by rintro rfl; rw [i3] at hDD; cases hDD
  have hne3 : D ≠ w.heap.size + 1 := by rintro rfl; rw [i4] at hDD; cases hDD
  have f2 := free_at i3 0
  have f3 := free_at i4 0
  have c2 := (cells_at i3 0).trans (show _ = some (Value.slice none 0 0) from rfl)
  have c3 := (cells_at i4 0).trans (show _ = some (Value.int .i64 0) from rfl)
  have c4 := (cells_at i1 0).trans (show _ = some (Value.slice va 16 vc) from rfl)
  have n2 : (W.setCell ⟨w.heap.size, 0, none⟩ (.slice va 16 vc)).heap[w.heap.size]? = some (.cells #[.slice va 16 vc] 61 (0, 0)) := (block_at i3 0 (.slice va 16 vc)).trans rfl
  have n3 : ((W.setCell ⟨w.heap.size, 0, none⟩ (.slice va 16 vc)).setCell ⟨w.heap.size + 1, 0, none⟩ (.int .i64 0)).heap[w.heap.size + 1]? = some (.cells #[.int .i64 0] 38 (0, 0)) := (block_at ((Below.heap_setCell _ _ _ _ (by simp)).trans i4) 0 _).trans rfl
  have n2' : ((W.setCell ⟨w.heap.size, 0, none⟩ (.slice va 16 vc)).setCell ⟨w.heap.size + 1, 0, none⟩ (.int .i64 0)).heap[w.heap.size]? = some (.cells #[.slice va 16 vc] 61 (0, 0)) := (Below.heap_setCell _ _ _ _ (by simp)).trans n2
  have nD : ((W.setCell ⟨w.heap.size, 0, none⟩ (.slice va 16 vc)).setCell ⟨w.heap.size + 1, 0, none⟩ (.int .i64 0)).heap[D]? = some (.deferred (some [])) := (Below.heap_setCell _ _ _ _ (by simpa using hne3)).trans ((Below.heap_setCell _ _ _ _ (by simpa using hne2)).trans hDD)
  have NO : Hid (((W.setCell ⟨w.heap.size, 0, none⟩ (.slice va 16 vc)).setCell ⟨w.heap.size + 1, 0, none⟩ (.int .i64 0)).ownsRow W0.heap.size 100 5 (.slice va 16 vc) 16 (cellsP (pgsN b))) := ownsRow_setCell_below (ownsRow_setCell_below HO.out (by have := HZ0.out; show w.heap.size < _; omega) _) (by have := HZ0.out; show w.heap.size + 1 < _; omega) _
  have NB : Hid (Below w.heap.size w ((W.setCell ⟨w.heap.size, 0, none⟩ (.slice va 16 vc)).setCell ⟨w.heap.size + 1, 0, none⟩ (.int .i64 0))) := (HB.out.setCell (Nat.le_refl _) _).setCell (by show w.heap.size <= w.heap.size + 1; omega) _
  have N2 := Lib.hid n2'
  have N3 := Lib.hid n3
  have ND := Lib.hid nD
  clear n2 n2' n3 nD i1 i2 i3 i4 i5 i6 i7 hDD
  gi_wp2
  generalize (W.setCell ⟨w.heap.size, 0, none⟩ (.slice va 16 vc)).setCell ⟨w.heap.size + 1, 0, none⟩ (.int .i64 0) = W2 at *
  refine ⟨by simp, .inl ⟨_, _, rfl, run_takeDeferred ND.out, ?_⟩⟩
  have d2 : ∀ o, (W2.putObj D o).cell? ⟨w.heap.size, 0, none⟩ = some (Value.slice va 16 vc) := fun o => by
   rw [World.cell?_of_block (World.putObj_heap_other (Ne.symm hne2))]; exact (cells_at N2.out 0).trans rfl
  have d3 : ∀ o, (W2.putObj D o).cell? ⟨w.heap.size + 1, 0, none⟩ = some (.int .i64 0) := fun o => by
   rw [World.cell?_of_block (World.putObj_heap_other (Ne.symm hne3))]; exact (cells_at N3.out 0).trans rfl
  refine ⟨.tuple #[.slice va 16 vc, .int .i64 0], ?res, ?ans, ?bel⟩
  case res => simp [results, Tryz.f38, go_sem, d2, d3]
  case ans =>
   unfold ParsePg; rw [HP.out]
   exact ⟨_, rfl, own_mono (own_keptG (grownBy_putObj' _ _ _) (fun r e => by cases e; exact ⟨_, ND.out, rfl⟩) NO.out) (by have := HZ0.out; omega)⟩
  case bel => exact NB.out.grown (grownBy_putObj' _ _ _) NB.out.size (fun r e => by cases e; have := HZ0.out; omega)
 case body =>
  clear HI0 HSEQ
  rintro l pre x W ⟨⟨v, i1, i2⟩, i3, i4, i5, i6, i7⟩ hpre
  have hx16 := x.2
  have hgk : gk < w.heap.size := by
   obtain ⟨g', o', e1, _, e3, _⟩ := HV.out.2 (by rw [HLN.out]; omega)
   cases e1; exact e3
  have hpl : (pcOf b x.1).length = 16 := by unfold pcOf; rw [List.length_take, List.length_drop, HLN.out]; omega
  have hpb : ∀ y ∈ pcOf b x.1, y < 256 := fun y hy => HV.out.1 y (List.mem_of_mem_drop (List.mem_of_mem_take hy))
  have hsub : BytesAt W (some ⟨gk, o + 16 * x.1, none⟩) 16 (pcOf b x.1) := by
   refine ⟨hpb, fun _ => ⟨gk, _, rfl, by rw [hpl]; exact Nat.le_refl _, Nat.lt_of_lt_of_le hgk i5.size, fun j hj => ?_⟩⟩
   rw [hpl] at hj
   obtain ⟨g', o', e1, _, _, e4⟩ := HV.out.2 (by rw [HLN.out]; omega)
   cases e1
   rw [i5.cell (p := ⟨gk, o + 16 * x.1 + j, none⟩) hgk, Nat.add_assoc, e4 (16 * x.1 + j) (by rw [HLN.out]; omega), List.getD_eq_getElem?_getD, List.getD_eq_getElem?_getD]
   unfold pcOf
   rw [List.getElem?_take_of_lt hj, List.getElem?_drop]
  have hsl : SlAt W (.slice (some ⟨gk, o + 16 * x.1, none⟩) 16 16) (pcOf b x.1) := ⟨_, 16, by rw [hpl], hsub, (fun h => by cases h), by rw [hpl]; exact Nat.le_refl _, by unfold maxLen; omega⟩
  obtain ⟨e, he⟩ : ∃ e, e = pcOf b x.1 := ⟨_, rfl⟩
  have HPG : Hid (pgAt b x = pgOf e) := by show _ = _; rw [he]; rfl
  rw [<- he] at hpl hpb hsub hsl
  have HEL := Lib.hid hpl
  have HEB := Lib.hid hpb
  have HSUB := Lib.hid hsub
  have HOF := Lib.hid (rowof_c _ e (by rw [hpl]; omega) W hsl)
  have H1 := Lib.hid i1
  have H2 := Lib.hid i2
  have H3 := Lib.hid i3
  have H4 := Lib.hid i4
  have H5 := Lib.hid i5
  have H6 := Lib.hid i6
  have H7 := Lib.hid i7
  have HGK := Lib.hid hgk
  clear i1 i2 i3 i4 i5 i6 i7 hsl hsub hpb hpl he hgk
  unfold pcS
  gi_wp2_with fail
  refine ⟨trivial, CallsIn.inRound l (callsIn_wide.2 (HOF.out.mono ?_))⟩
  rintro q w2 ⟨rb, rfl, hrb, hr2, hb2⟩
  obtain ⟨p, hp⟩ : ∃ p, p = pgOf e := ⟨_, rfl⟩
  have HPE : Hid (pgB p = e) := by show _ = _; rw [hp]; exact pgB_pgOf e HEL.out HEB.out
  have hlt := pgOf_lt e HEB.out
  rw [<- hp] at hlt HPG
  have key : ∀ j n, j + n <= 16 -> leN (nextN n (e.drop j) 0) = leN ((e.drop j).take n) /\ restN n (e.drop j) 0 = e.drop (j + n) /\ errN n (e.drop j) 0 = 0 := fun j n h => by
   obtain ⟨k1, k2, k3⟩ := nextG e j n (by rw [HEL.out]; exact h)
   exact ⟨by rw [k1], k2, k3⟩
  obtain ⟨kd, cl, rn, zz, sr⟩ := p
  have hpf : kd = leN ((e.drop 0).take 1) /\ cl = leN ((e.drop 1).take 1) /\ rn = leN ((e.drop 2).take 2) /\ zz = leN ((e.drop 4).take 4) /\ sr = leN ((e.drop 8).take 8) := by
   unfold pgOf at hp
   injection hp with a1 a2 a3 a4 a5
   exact ⟨by rw [List.drop_zero]; exact a1, a2, a3, a4, a5⟩
  have K0 : Hid (leN (nextN 1 (e.drop 0) 0) = kd /\ restN 1 (e.drop 0) 0 = e.drop 1 /\ errN 1 (e.drop 0) 0 = 0) := by have := key 0 1 (by omega); rw [hpf.1]; exact this
  have K1 : Hid (leN (nextN 1 (e.drop 1) 0) = cl /\ restN 1 (e.drop 1) 0 = e.drop 2 /\ errN 1 (e.drop 1) 0 = 0) := by have := key 1 1 (by omega); rw [hpf.2.1]; exact this
  have K2 : Hid (leN (nextN 2 (e.drop 2) 0) = rn /\ restN 2 (e.drop 2) 0 = e.drop 4 /\ errN 2 (e.drop 2) 0 = 0) := by have := key 2 2 (by omega); rw [hpf.2.2.1]; exact this
  have K4 : Hid (leN (nextN 4 (e.drop 4) 0) = zz /\ restN 4 (e.drop 4) 0 = e.drop 8 /\ errN 4 (e.drop 4) 0 = 0) := by have := key 4 4 (by omega); rw [hpf.2.2.2.1]; exact this
  have K8 : Hid (leN (nextN 8 (e.drop 8) 0) = sr /\ restN 8 (e.drop 8) 0 = e.drop 16 /\ errN 8 (e.drop 8) 0 = 0) := by have := key 8 8 (by omega); rw [hpf.2.2.2.2]; exact this
  simp only at hlt
  obtain ⟨l1, l2, l3, l4, l5⟩ := hlt
  clear hpf key hp HOF
  have hrw2 : RowIs w2 rb (e.drop 0) 0 := hr2
  gi_wp2_with fail
  refine ⟨trivial, CallsIn.inRound l (callsIn_wide.2 ((num_c rb 1 (by omega) (by omega) 1 rfl (e.drop 0) (by rw [List.length_drop, HEL.out]; omega) 0 w2 hrw2).mono ?_))⟩
  rintro q w3 ⟨rfl, hrw3, hsw3⟩
  rw [K0.out.2.1, K0.out.2.2] at hrw3
  rw [K0.out.1]
  gi_wp2_with fail
  refine ⟨trivial, CallsIn.inRound l (callsIn_wide.2 ((num_c rb 1 (by omega) (by omega) 1 rfl (e.drop 1) (by rw [List.length_drop, HEL.out]; omega) 0 w3 hrw3).mono ?_))⟩
  rintro q w4 ⟨rfl, hrw4, hsw4⟩
  rw [K1.out.2.1, K1.out.2.2] at hrw4
  rw [K1.out.1]
  gi_wp2_with fail
  refine ⟨trivial, CallsIn.inRound l (callsIn_wide.2 ((num_c rb 2 (by omega) (by omega) 2 rfl (e.drop 2) (by rw [List.length_drop, HEL.out]; omega) 0 w4 hrw4).mono ?_))⟩
  rintro q w5 ⟨rfl, hrw5, hsw5⟩
  rw [K2.out.2.1, K2.out.2.2] at hrw5
  rw [K2.out.1]
  gi_wp2_with fail
  refine ⟨trivial, CallsIn.inRound l (callsIn_wide.2 ((num_c rb 4 (by omega) (by omega) 4 rfl (e.drop 4) (by rw [List.length_drop, HEL.out]; omega) 0 w5 hrw5).mono ?_))⟩
  rintro q w6 ⟨rfl, hrw6, hsw6⟩
  rw [K4.out.2.1, K4.out.2.2] at hrw6
  rw [K4.out.1]
  gi_wp2_with fail
  refine ⟨trivial, CallsIn.inRound l (callsIn_wide.2 ((num_c rb 8 (by omega) (by omega) 8 rfl (e.drop 8) (by rw [List.length_drop, HEL.out]; omega) 0 w6 hrw6).mono ?_))⟩
  rintro q w7 ⟨rfl, hrw7, hsw7⟩
  rw [K8.out.2.1, K8.out.2.2] at hrw7
  rw [K8.out.1]
  gi_wp2_with fail
  have hb7 : Below W.heap.size W w7 := ((((hb2.trans (hsw3.1.mono hrb)).trans (hsw4.1.mono hrb)).trans (hsw5.1.mono hrb)).trans (hsw6.1.mono hrb)).trans (hsw7.1.mono hrb)
  have HB8 : Hid (Below W.heap.size W (w7.alloc (.cells #[.int .i64 (kd : Int), .int .i64 (cl : Int), .int .i64 (rn : Int), .int .i64 (zz : Int), .int .u64 (sr : Int)] 100))) := hb7.trans ((below_box w7 _).mono hb7.size)
  have HP8 : Hid ((w7.alloc (.cells #[.int .i64 (kd : Int), .int .i64 (cl : Int), .int .i64 (rn : Int), .int .i64 (zz : Int), .int .u64 (sr : Int)] 100)).heap[w7.heap.size]? = some (.cells (pgA ⟨kd, cl, rn, zz, sr⟩) 100 (0, 0))) := heap_new' _ _
  have HWS : Hid (W.heap.size <= w7.heap.size) := hb7.size
  clear hb7 hrw2 hrw3 hrw4 hrw5 hrw6 hrw7 hsw3 hsw4 hsw5 hsw6 hsw7 hr2 hb2 hrb K0 K1 K2 K4 K8
  generalize w7.alloc (.cells #[.int .i64 (kd : Int), .int .i64 (cl : Int), .int .i64 (rn : Int), .int .i64 (zz : Int), .int .u64 (sr : Int)] 100) = w8 at *
  refine ⟨trivial, CallsIn.inRound l (callsIn_wide.2 ((pgbad_c ⟨kd, cl, rn, zz, sr⟩ (by show zz < _; omega) w8).mono ?_))⟩
  rintro q w9 ⟨rfl, hb9⟩
  have HB9 : Hid (Below W.heap.size W w9) := HB8.out.trans (hb9.mono HB8.out.size)
  have HP9 := Lib.hid ((hb9.block _ (lt_of_block HP8.out)).trans HP8.out)
  clear hb9 HB8 HP8
  cases hone : oneP ⟨kd, cl, rn, zz, sr⟩ with
  | false =>
   have HN : Hid (oneP (pgAt b x) = false) := by show _ = _; rw [HPG.out]; exact hone
   have h3 := (HB9.out.block _ (lt_of_block H3.out)).trans H3.out
   have h4 := (HB9.out.block _ (lt_of_block H4.out)).trans H4.out
   have f2 := free_at h3 0
   have f3 := free_at h4 0
   have c2 := (cells_at h3 0).trans (show _ = some (Value.slice none 0 0) from rfl)
   have c3 := (cells_at h4 0).trans (show _ = some (Value.int .i64 0) from rfl)
   have n2 : (w9.setCell ⟨w.heap.size, 0, none⟩ (.slice none 0 0)).heap[w.heap.size]? = some (.cells #[.slice none 0 0] 61 (0, 0)) := (block_at h3 0 _).trans rfl
   have n3 : Hid (((w9.setCell ⟨w.heap.size, 0, none⟩ (.slice none 0 0)).setCell ⟨w.heap.size + 1, 0, none⟩ (.int .i64 4)).heap[w.heap.size + 1]? = some (.cells #[.int .i64 4] 38 (0, 0))) := (block_at ((Below.heap_setCell _ _ _ _ (by simp)).trans h4) 0 _).trans rfl
   have n2' : Hid (((w9.setCell ⟨w.heap.size, 0, none⟩ (.slice none 0 0)).setCell ⟨w.heap.size + 1, 0, none⟩ (.int .i64 4)).heap[w.heap.size]? = some (.cells #[.slice none 0 0] 61 (0, 0))) := (Below.heap_setCell _ _ _ _ (by simp)).trans n2
   have NB : Hid (Below w.heap.size w ((w9.setCell ⟨w.heap.size, 0, none⟩ (.slice none 0 0)).setCell ⟨w.heap.size + 1, 0, none⟩ (.int .i64 4))) := ((H5.out.trans (HB9.out.mono H5.out.size)).setCell (Nat.le_refl _) _).setCell (by show w.heap.size <= w.heap.size + 1; omega) _
   have NK : Hid (KeepsOthers W ((w9.setCell ⟨w.heap.size, 0, none⟩ (.slice none 0 0)).setCell ⟨w.heap.size + 1, 0, none⟩ (.int .i64 4))) := by
    exact ((keepsO_below HB9.out).trans (KeepsOthers.setCell _ _ _)).trans (KeepsOthers.setCell _ _ _)
   clear n2 h3 h4 hone
   gi_wp2
   refine ⟨trivial, ?_⟩
   gi_wp2
   refine ⟨trivial, ?_⟩
   gi_wp2
   exact ⟨NK.out, rfl, n2'.out, n3.out, NB.out, x, HN.out⟩
  | true =>
   have HN : Hid (oneP (pgAt b x) = true) := by show _ = _; rw [HPG.out]; exact hone
   clear hone
   have q0 := (cells_at HP9.out 0).trans (show _ = some (Value.int .i64 (kd : Int)) from rfl)
   have q1 := (cells_at HP9.out 1).trans (show _ = some (Value.int .i64 (cl : Int)) from rfl)
   have q2 := (cells_at HP9.out 2).trans (show _ = some (Value.int .i64 (rn : Int)) from rfl)
   have q3 := (cells_at HP9.out 3).trans (show _ = some (Value.int .i64 (zz : Int)) from rfl)
   have q4 := (cells_at HP9.out 4).trans (show _ = some (Value.int .u64 (sr : Int)) from rfl)
   gi_wp2_with fail
   refine ⟨trivial, CallsIn.inRound l (callsIn_wide.2 ((pgbytes_c ⟨kd, cl, rn, zz, sr⟩ ⟨by show rn < _; omega, by show zz < _; omega, l5⟩ w9).mono ?_))⟩
   rintro q w10 ⟨v10, rfl, hown10, hb10⟩
   clear q0 q1 q2 q3 q4
   have HB10 : Hid (Below W.heap.size W w10) := HB9.out.trans (hb10.mono HB9.out.size)
   have HP10 := Lib.hid ((hb10.block _ (lt_of_block HP9.out)).trans HP9.out)
   rw [HPE.out, show (16 : Nat) = e.length from HEL.out.symm] at hown10
   obtain ⟨a10, c10, hv10, hbb10, _⟩ := own_bytes HEB.out hown10
   rw [HEL.out] at hv10
   subst hv10
   have HEQ : Hid (Calls Tryz.prog 66 #[.slice a10 16 c10, .slice (some ⟨gk, o + 16 * x.1, none⟩) 16 16] w10 fun e w' => e = .returned (.bool true) /\ w10 = w') := by
    have h := equal2_c a10 (some ⟨gk, o + 16 * x.1, none⟩) c10 16 16 16 e e HEL.out HEL.out w10 hbb10 (HSUB.out.up HB10.out (Nat.le_refl _))
    rw [show decide (e = e) = true by simp] at h
    exact h
   clear hown10 hbb10 hb10 HB9 HP9
   gi_wp2_with fail
   refine ⟨trivial, CallsIn.inRound l (callsIn_wide.2 (HEQ.out.mono ?_))⟩
   rintro q w11 ⟨rfl, rfl⟩
   have q0 := (cells_at HP10.out 0).trans (show _ = some (Value.int .i64 (kd : Int)) from rfl)
   have q1 := (cells_at HP10.out 1).trans (show _ = some (Value.int .i64 (cl : Int)) from rfl)
   have q2 := (cells_at HP10.out 2).trans (show _ = some (Value.int .i64 (rn : Int)) from rfl)
   have q3 := (cells_at HP10.out 3).trans (show _ = some (Value.int .i64 (zz : Int)) from rfl)
   have q4 := (cells_at HP10.out 4).trans (show _ = some (Value.int .u64 (sr : Int)) from rfl)
   have h1 := (HB10.out.block _ (lt_of_block H1.out)).trans H1.out
   obtain ⟨va, vc, rfl⟩ := own_sliceR H2.out
   have c4 := (cells_at h1 0).trans (show _ = some (Value.slice va pre.length vc) from rfl)
   have HOA : Hid ((w10.alloc (.cells (pgA ⟨kd, cl, rn, zz, sr⟩) 100)).ownsRow W0.heap.size 100 5 (.slice va pre.length vc) pre.length (cellsP (pre.map (pgAt b)))) := own_up (own_up H2.out HB10.out) (below_box w10 _)
   have HPA : Hid (PgsAt (w10.alloc (.cells (pgA ⟨kd, cl, rn, zz, sr⟩) 100)) (some ⟨w10.heap.size, 0, none⟩) [⟨kd, cl, rn, zz, sr⟩]) := pgs_blk (heap_new' w10 _)
   have HBA : Hid (W0.heap.size <= (w10.alloc (.cells (pgA ⟨kd, cl, rn, zz, sr⟩) 100)).heap.size) := by show _ <= _; rw [World.size_alloc]; have h1 := HB10.out.size; have h2 := H6.out; omega
   have HBB : Hid (Below W.heap.size W (w10.alloc (.cells (pgA ⟨kd, cl, rn, zz, sr⟩) 100))) := HB10.out.alloc HB10.out.size _
   have HPL : Hid (pre.length + 1 <= 1000000) := by show _ <= _; omega
   have Hb4 : Hid (w.heap.size + 1 + 1 < W.heap.size) := lt_of_block H1.out
   gi_wp2_with (first
    | (refine wpListIn_build_pg (p := ⟨kd, cl, rn, zz, sr⟩) rfl (.tmp 42) rfl rfl ?_)
    | (refine wpListIn_append_pgs (l := l) (base := W0.heap.size) (n := pre.length) (v := .slice va pre.length vc) (L := pre.map (pgAt b)) (m := 1) (M := [⟨kd, cl, rn, zz, sr⟩]) rfl (.tmp 41) (.tmp 43) rfl rfl HOA.out rfl rfl HPA.out (fun h => by cases h) (fun p hp => by cases hp; rfl) HPL.out HBA.out ?_; intro v12 w12 hown12 hgr12; have hlow : ∀ k, k < W0.heap.size -> w12.heap[k]? = W.heap[k]? := (fun k hk => (hgr12.block k (Nat.lt_of_lt_of_le hk HBA.out) (fun e => by have := (HOA.out.lt k e.symm).1; omega)).trans (HBB.out.block k (Nat.lt_of_lt_of_le hk H6.out))); have hc12 : w12.heap[w.heap.size + 1 + 1]? = some (.cells #[.slice va pre.length vc] 61 (0, 0)) := (hlow _ (by have := HZ0.out; omega)).trans H1.out; have c12 := (cells_at hc12 0).trans (show _ = some (Value.slice va pre.length vc) from rfl); have f12 := free_at hc12 0; obtain ⟨vb, vd, hv12⟩ := own_sliceR hown12; subst hv12; have HO12 := Lib.hid hown12; have HG12 := Lib.hid hgr12; have HL12 := Lib.hid hlow; have HC12 := Lib.hid hc12; clear hown12 hgr12 hlow hc12)
    | fail)
   have hset : ∀ k, k ≠ w.heap.size + 1 + 1 -> (w12.setCell ⟨w.heap.size + 1 + 1, 0, none⟩ (.slice vb (pre.length + 1) vd)).heap[k]? = w12.heap[k]? := fun k h => Below.heap_setCell _ _ _ _ (by simpa using h)
   have hss : (w12.setCell ⟨w.heap.size + 1 + 1, 0, none⟩ (.slice vb (pre.length + 1) vd)).heap.size = w12.heap.size := by simp [World.setCell]
   have hsz : W.heap.size <= w12.heap.size := Nat.le_trans HBB.out.size HG12.out.size
   have hmap : cellsP ((pre ++ [x]).map (pgAt b)) = cellsP (pre.map (pgAt b) ++ [⟨kd, cl, rn, zz, sr⟩]) := by rw [List.map_append, List.map_cons, List.map_nil, HPG.out]
   refine ⟨⟨by rw [hss]; exact hsz, fun k o h hcl => ?_⟩, ⟨by rw [hss]; exact hsz, fun k hk hkc => (hset k hkc).trans (HL12.out k hk)⟩, ⟨_, block_at HC12.out 0 _, ?_⟩, (hset _ (by omega)).trans ((HL12.out _ (by have := HZ0.out; omega)).trans H3.out), (hset _ (by omega)).trans ((HL12.out _ (by have := HZ0.out; omega)).trans H4.out), ?_, by rw [hss]; have := H6.out; omega, ?_⟩
   ·have hkc : k ≠ w.heap.size + 1 + 1 := by rintro rfl; rw [H1.out] at h; cases h; cases hcl
    have hkl : k < W.heap.size := (Array.getElem?_eq_some_iff.1 h).1
    rw [hset k hkc, HG12.out.block k (Nat.lt_of_lt_of_le hkl HBB.out.size) ?_, HBB.out.block k hkl]
    ·exact h
    ·intro e9
     rcases H2.out.2 with ⟨h9, _⟩ | ⟨g', cap', cur, e1, e2, e3, _⟩
     ·rw [h9] at e9; cases e9
     ·rw [e1] at e9; cases e9
      rw [e3] at h; cases h; cases hcl
   ·rw [hmap, List.length_append]
    refine ⟨?_, ?_⟩
    ·rw [cellsP_len, List.length_append, List.length_map]; simp
    ·rcases HO12.out.2 with ⟨h9, h8⟩ | ⟨g', cap', cur, e1, e2, e3, e4⟩
     ·omega
     ·refine .inr ⟨g', cap', cur, e1, e2, (hset g' (by have := HZ0.out; omega)).trans e3, e4⟩
   ·exact ((H5.out.trans (HBB.out.mono H5.out.size)).grown HG12.out (Nat.le_trans H5.out.size HBB.out.size) (fun k e9 => by have := (HOA.out.lt k e9).1; have := HZ0.out; omega)).setCell (by show w.heap.size <= w.heap.size + 1 + 1; omega) _
   ·intro y hy
    rcases List.mem_append.1 hy with h | h
    ·exact H7.out y h
    ·rw [List.mem_singleton] at h; subst h; exact HN.out
theorem own_noneP {w : World} {base : Nat} (h : base <= w.heap.size) : (w.alloc (Obj.cells #[] 100)).ownsRow base 100 5 (.slice (some ⟨w.heap.size, 0, none⟩) 0 0) 0 (cellsP []) :=
 ⟨rfl, .inr ⟨w.heap.size, 0, #[], rfl, h, heap_new' _ _, Nat.le_refl _, Nat.zero_le _, rfl, rfl⟩⟩
theorem clonep_c (g o n cap : Nat) (M : List Pg) (hn : M.length = n) (hnm : n <= 1000000) (w : World) (h : PgsAt w (some ⟨g, o, none⟩) M) :
  Calls Tryz.prog 39 #[.slice (some ⟨g, o, none⟩) n cap] w fun e w' => ∃ v, e = .returned v /\ w'.ownsRow w.heap.size 100 5 v n (cellsP M) /\ Below w.heap.size w w' := by
 have HE : Hid (M.length = n) := hn
 have HN : Hid (0 + n <= 1000000) := by show _ <= _; omega
 have HOWN0 : Hid ((w.alloc (Obj.cells #[] 100)).ownsRow w.heap.size 100 5 (.slice (some ⟨w.heap.size, 0, none⟩) 0 0) 0 (cellsP [])) := own_noneP (Nat.le_refl _)
 have HBE0 : Hid (Below w.heap.size w (w.alloc (Obj.cells #[] 100))) := below_box _ _
 have HB0 : Hid (PgsAt (w.alloc (Obj.cells #[] 100)) (some ⟨g, o, none⟩) M) := h.up HBE0.out (Nat.le_refl _)
 have hnn : ∀ w : World, (binOp .eql 61 (.slice (some ⟨g, o, none⟩) n cap) (.slice none 0 0)).run Tryz.prog w = .ok (.bool false) w := fun w => by first | rfl | kernel_rfl | (simp [binOp, Op.equal]; done)
 clear hn h
 go_enter Tryz.func39, Tryz.ntmps39
 go_wp2_with (first
  | (refine wpList_append_pgs (v := .slice (some ⟨w.heap.size, 0, none⟩) 0 0) (base := w.heap.size) (n := 0) (L := []) rfl (.tmp 5) (.tmp 6) rfl rfl HOWN0.out rfl HE.out HB0.out (fun h => by cases h) (fun p hp => by cases hp; rfl) HN.out (by rw [World.size_alloc]; omega) ?_; intro v1 w1 hown1 hgrow1; have HOWN1 := Lib.hid hown1; have HBEL : Hid (Below w.heap.size w w1) := HBE0.out.grown hgrow1 (by rw [World.size_alloc]; omega) (fun q e => by simp [Value.ownBlock] at e; omega); clear hown1 hgrow1)
  | fail)
 go_ret
 have hown := HOWN1.out
 rw [Nat.zero_add, List.nil_append] at hown
 exact ⟨_, rfl, hown, HBEL.out⟩
/-- what is known of a heap, as a value -/
def mtA (n : Nat) (R : List Nat) (v : Value) : Array Value := (Value.int .u64 (n : Int) :: (R.map (fun (k : Nat) => Value.int .u64 (k : Int)) ++ [v])).toArray
theorem mtA_size (n : Nat) (R : List Nat) (v : Value) : (mtA n R v).size = R.length + 2 := by simp [mtA]
theorem meta18 : (Tryz.prog.info? 63).map (·.size) = some 18 := by kernel_rfl
theorem mtA_get0 (n : Nat) (R : List Nat) (v : Value) : (mtA n R v)[0]? = some (.int .u64 (n : Int)) := rfl
theorem mtA_get17 (n : Nat) (R : List Nat) (v : Value) (h : R.length = 16) : (mtA n R v)[17]? = some v := by
 unfold mtA
 rw [List.getElem?_toArray, List.getElem?_cons_succ, List.getElem?_append_right (by simp [h])]; simp [h]
theorem mtA_one (n : Nat) (R : List Nat) (a : Option Addr) (k c : Nat) : (mtA n R (.slice a k c)).all (·.oneCell') = true := by
 rw [<- Array.all_toList]; simp [mtA, Value.oneCell']
def lateP (x : Nat) (p : Pg) : Bool := p.kind == 2 && decide (x <= p.ser)
def mayM (x : Nat) (P : List Pg) : Bool := decide (0 < x) && chkP P && !P.any (lateP x)
theorem mmay_c (x : Nat) (R : List Nat) (h16 : R.length = 16) (va : Option Addr) (n c : Nat) (t : Int) (hg : geoB n t = true) (P : List Pg) (hn : P.length = n) (hsz : ∀ p ∈ P, p.size < 4611686018427387904) (w : World) (hP : PgsAt w va P) :
  Calls Tryz.prog 40 #[.agg (mtA x R (.slice va n c)), .agg #[.int .i64 (n : Int), .int .i64 t]] w fun e w' => e = .returned (.bool (mayM x P)) /\ Below w.heap.size w w' := by
 have hn64 : n <= 64 := by have := (geoB_iff n t).1 hg; omega
 obtain ⟨W, hW⟩ : ∃ W, W = (w.alloc (.cells (mtA x R (.slice va n c)) 63)).alloc (.cells #[.int .i64 (n : Int), .int .i64 t] 31) := ⟨_, rfl⟩
 have hm : W.heap[w.heap.size]? = some (.cells (mtA x R (.slice va n c)) 63 (0, 0)) := by rw [hW, heap_old' _ _ _ (by simp)]; exact heap_new' _ _
 have hgg : W.heap[w.heap.size + 1]? = some (.cells #[.int .i64 (n : Int), .int .i64 t] 31 (0, 0)) := by
  rw [hW, show w.heap.size + 1 = (w.alloc (.cells (mtA x R (.slice va n c)) 63)).heap.size by simp]; exact heap_new' _ _
 have hE : Below w.heap.size w W := by rw [hW]; exact (below_box w _).alloc (by simp) _
 have HM := Lib.hid hm
 have HG := Lib.hid hgg
 have HE := Lib.hid hE
 have HGC := Lib.hid (fun w => gcheck_c n t w)
 rw [show geoE n t = 0 by unfold geoE; rw [if_pos hg]] at HGC
 have HPC : Hid (∀ w', Below w.heap.size w w' -> Calls Tryz.prog 71 #[.slice va n c] w' fun e w'' => e = .returned (.int .i64 (chkE P)) /\ Below w'.heap.size w' w'') := fun w' h => pcheck_c va n c P hn (by omega) hsz w' (hP.up h (Nat.le_refl _))
 have HCF : Hid (∀ w', Below w.heap.size w w' -> w'.heap[w.heap.size]? = some (.cells (mtA x R (.slice va n c)) 63 (0, 0)) -> Calls Tryz.prog 41 #[.slice va n c, .func (.func 70) #[] #[.pointer (some ⟨w.heap.size, 0, none⟩)]] w' fun e w'' => e = .returned (.bool (P.any (lateP x))) /\ Below w'.heap.size w' w'') := fun w' h hb =>
  cf_late_c va n c P hn (by omega) w.heap.size x w' (hP.up h (Nat.le_refl _)) ((cells_at hb 0).trans (mtA_get0 _ _ _)) (lt_of_block hb)
 have H16 := Lib.hid h16
 have hnn : ((n : Int) == (n : Int)) = true := beq_self_eq_true _
 clear hm hgg hE hg hn hsz hP h16 hn64
 go_enter Tryz.func40, Tryz.ntmps40
 go_wp2_with fail
 rw [<- hW]
 clear hW
 refine (HGC.out W).mono ?_
 rintro e w1 ⟨rfl, hb1⟩
 have HM1 := Lib.hid ((hb1.block _ (lt_of_block HM.out)).trans HM.out)
 have HG1 := Lib.hid ((hb1.block _ (lt_of_block HG.out)).trans HG.out)
 have HE1 : Hid (Below w.heap.size w w1) := HE.out.trans (hb1.mono HE.out.size)
 have a1 := (cells_at HM1.out 0).trans (mtA_get0 _ _ _)
 have b1 := (cells_at HM1.out 17).trans (mtA_get17 _ _ _ H16.out)
 have d1 := (cells_at HG1.out 0).trans (show _ = some (Value.int .i64 (n : Int)) from rfl)
 clear hb1
 by_cases hx : 0 < x
 ·have dx : decide ((x : Int) > 0) = true := by simp; omega
  have dx2 : decide (0 < x) = true := decide_eq_true hx
  have ix : 0 < (x : Int) := by omega
  have HR : Hid (mayM x P = (chkP P && !P.any (lateP x))) := by show _ = _; unfold mayM; rw [dx2, Bool.true_and]
  go_wp2_with fail
  refine (HPC.out w1 HE1.out).mono ?_
  rintro e w2 ⟨rfl, hb2⟩
  clear a1 b1 d1
  have HM2 := Lib.hid ((hb2.block _ (lt_of_block HM1.out)).trans HM1.out)
  have HG2 := Lib.hid ((hb2.block _ (lt_of_block HG1.out)).trans HG1.out)
  have HE2 : Hid (Below w.heap.size w w2) := HE1.out.trans (hb2.mono HE1.out.size)
  have a2 := (cells_at HM2.out 0).trans (mtA_get0 _ _ _)
  have b2 := (cells_at HM2.out 17).trans (mtA_get17 _ _ _ H16.out)
  have d2 := (cells_at HG2.out 0).trans (show _ = some (Value.int .i64 (n : Int)) from rfl)
  clear hb2
  cases hc : chkP P with
  | true =>
   have hce : chkE P = 0 := by unfold chkE; rw [hc]; rfl
   rw [hce]
   rw [hc, Bool.true_and] at HR
   clear hc hce
   go_wp2_with fail
   refine (HCF.out w2 HE2.out HM2.out).mono ?_
   rintro e w3 ⟨rfl, hb3⟩
   have HE3 : Hid (Below w.heap.size w w3) := HE2.out.trans (hb3.mono HE2.out.size)
   clear hb3 HCF HPC
   generalize P.any (lateP x) = r at *
   go_wp2
   go_ret
   exact ⟨by rw [HR.out]; rfl, HE3.out⟩
  | false =>
   have hce : chkE P = 4 := by unfold chkE; rw [hc]; rfl
   rw [hce]
   rw [hc, Bool.false_and] at HR
   clear hc hce
   go_wp2
   go_ret
   exact ⟨by rw [HR.out]; rfl, HE2.out⟩
 ·have dx : decide ((x : Int) > 0) = false := by simp; omega
  have dx2 : decide (0 < x) = false := decide_eq_false hx
  have ix : ¬ 0 < (x : Int) := by omega
  have HR : Hid (mayM x P = false) := by show _ = _; unfold mayM; rw [dx2]; rfl
  go_wp2
  go_ret
  exact ⟨by rw [HR.out]; rfl, HE1.out⟩
def mapsPg : List (List Nat) -> Option (List Pg)
 | [] => some []
 | b :: bs => match parseP b with
  | none => none
  | some P => (mapsPg bs).map (P ++ ·)
/-- what a heap's first blocks tell -/
def metaN (n : Nat) (L : List (List Nat)) : Option (Nat × List Nat × List Pg) :=
 match headN (L.getD 0 []) with
 | none => none
 | some (x, R) => match mapsPg (L.drop 1) with
  | none => none
  | some P => if mayM x (P.take n) && !(P.drop n).any (fun p => !freeP p) then some (x, R, P.take n) else none
theorem parseP_len {b : List Nat} {P : List Pg} (h : parseP b = some P) : P.length = 16 := by
 unfold parseP at h
 split at h
 ·cases h; simp [pgsN]
 ·cases h
theorem pgsN_size (b : List Nat) (h : ∀ x ∈ b, x < 256) : ∀ p ∈ pgsN b, p.size < 4294967296 := by
 intro p hp
 unfold pgsN at hp
 obtain ⟨j, _, rfl⟩ := List.mem_map.1 hp
 exact (pgOf_lt _ fun x hx => h x (List.mem_of_mem_drop (List.mem_of_mem_take hx))).2.2.2.1
theorem parseP_eq {b : List Nat} {P : List Pg} (h : parseP b = some P) : P = pgsN b /\ (pgsN b).all oneP = true := by
 unfold parseP at h
 split at h
 ·rename_i h1; cases h; exact ⟨rfl, h1⟩
 ·cases h
theorem mapsPg_cons (b : List Nat) (bs : List (List Nat)) : mapsPg (b :: bs) = match parseP b with
  | none => none
  | some P => (mapsPg bs).map (P ++ ·) := rfl
def subP (o cap l : Nat) : Nat := if cap = l then o else o + l * 5
theorem run_subPl (g o len cap l : Nat) (hl : l <= len) (w : World) :
  (Instr.sliceAt 61 (.slice (some ⟨g, o, none⟩) len cap) (some (.int .i64 (l : Int))) none none).run Tryz.prog w = .ok (.slice (some ⟨g, subP o cap l, none⟩) (len - l) (cap - l)) w := by
 obtain ⟨i0, hi, hz⟩ := Option.map_eq_some_iff.1 pginfo
 have he : Tryz.prog.elem 61 = 100 := by kernel_rfl
 have hu : Tryz.prog.underlying 61 = some (.slice (Tryz.prog.elem 61)) := by rw [he]; exact Tryz.underlying61
 rw [run_sliceAt_slice (h := hu), run_slice_l (ht := hu) (h0 := by omega) (h1 := by omega)]
 rw [he, run_sizeOf (w := w) hi, show Tryz.prog.cellsOf 100 = 5 from (by kernel_rfl)]
 simp only [Result.andThen_ok, sliced, Int.toNat_natCast]
 unfold subP
 split
 ·rfl
 ·simp only [Option.map_some]; rw [add_plain]
theorem run_subPh (g o len cap h : Nat) (hh : h <= cap) (w : World) :
  (Instr.sliceAt 61 (.slice (some ⟨g, o, none⟩) len cap) none (some (.int .i64 (h : Int))) none).run Tryz.prog w = .ok (.slice (some ⟨g, o, none⟩) h cap) w := by
 obtain ⟨i0, hi, hz⟩ := Option.map_eq_some_iff.1 pginfo
 have he : Tryz.prog.elem 61 = 100 := by kernel_rfl
 have hu : Tryz.prog.underlying 61 = some (.slice (Tryz.prog.elem 61)) := by rw [he]; exact Tryz.underlying61
 rw [run_sliceAt_slice (h := hu), run_slice_h (ht := hu) (h0 := by omega) (h2 := by omega)]
 rw [he, run_sizeOf (w := w) hi, show Tryz.prog.cellsOf 100 = 5 from (by kernel_rfl)]
 simp only [Result.andThen_ok, sliced, Int.toNat_natCast, Nat.zero_mul, Nat.sub_zero]
 split
 ·rfl
 ·simp only [Option.map_some]; rw [add_plain, Nat.add_zero]
theorem wpList_sliceP {w : World} {ops : Array Oper} {rest : List Oper} {op : Oper} {A : Act} {Q : Exit -> Act -> World -> Prop} (hw : Region.wanted op (yielded ops A.tmps) = true) {g o len cap l : Nat} (x y : Operand) (ho : op.op = .slice 61 x (some y) none none) (hx : A.eval x = .slice (some ⟨g, o, none⟩) len cap) (hy : A.eval y = .int .i64 (l : Int))
  (hl : l <= len) (hK : wpList Tryz.prog ops Q rest (A.put op.dst (.slice (some ⟨g, subP o cap l, none⟩) (len - l) (cap - l))) w) : wpList Tryz.prog ops Q (op :: rest) A w :=
 wpList_met hw fun _ hk => by
  unfold Oper.wp
  have : (execOp A.eval op).run Tryz.prog w = .ok (.value (.slice (some ⟨g, subP o cap l, none⟩) (len - l) (cap - l))) w := by
   unfold execOp
   simp only [ho, Option.map_some, Option.map_none, hx, hy, Sem.run_bind, run_subPl g o len cap l hl w, Result.andThen_ok]
   rfl
  rw [this]
  exact hk _ _ hK
theorem PgsAt.take {w : World} {a : Option Addr} {L : List Pg} (h : PgsAt w a L) (n : Nat) : PgsAt w a (L.take n) := by
 intro i p hp
 have hi : i < n := by
  have := (List.getElem?_eq_some_iff.1 hp).1
  rw [List.length_take] at this; omega
 rw [List.getElem?_take_of_lt hi] at hp
 exact h i p hp
theorem PgsAt.drop {w : World} {g o cap : Nat} {L : List Pg} (h : PgsAt w (some ⟨g, o, none⟩) L) (n : Nat) (hc : L.length <= cap) : PgsAt w (some ⟨g, subP o cap n, none⟩) (L.drop n) := by
 intro i p hp
 rw [List.getElem?_drop] at hp
 have hi := (List.getElem?_eq_some_iff.1 hp).1
 obtain ⟨g', o', e1, h2, h3⟩ := h (n + i) p hp
 cases e1
 have hs : subP o cap n = o + n * 5 := by unfold subP; rw [if_neg (by omega)]
 refine ⟨g, subP o cap n, rfl, h2, ?_⟩
 rw [hs, show o + n * 5 + i * 5 = o + (n + i) * 5 by rw [Nat.add_mul]; omega]
 exact h3
/-- rows of rows: what stands from l on -/
theorem RowsAt.drop {w : World} {g o cap : Nat} {L : List (List Nat)} (h : RowsAt w (some ⟨g, o, none⟩) L) (n : Nat) (hc : L.length <= cap) : RowsAt w (some ⟨g, subO o cap n, none⟩) (L.drop n) := by
 intro i p hp
 rw [List.getElem?_drop] at hp
 have hi := (List.getElem?_eq_some_iff.1 hp).1
 obtain ⟨g', o', v, e1, h2, h3, h4⟩ := h (n + i) p hp
 cases e1
 have hs : subO o cap n = o + n := by unfold subO; rw [if_neg (by omega)]
 exact ⟨g, subO o cap n, v, rfl, h2, by rw [hs, Nat.add_assoc]; exact h3, h4⟩
theorem RowsAt.take {w : World} {a : Option Addr} {L : List (List Nat)} (h : RowsAt w a L) (n : Nat) : RowsAt w a (L.take n) := by
 intro i p hp
 have hi : i < n := by
  have := (List.getElem?_eq_some_iff.1 hp).1
  rw [List.length_take] at this; omega
 rw [List.getElem?_take_of_lt hi] at hp
 exact h i p hp
theorem run_subRl (g o len cap l : Nat) (hl : l <= len) (w : World) :
  (Instr.sliceAt 32 (.slice (some ⟨g, o, none⟩) len cap) (some (.int .i64 (l : Int))) none none).run Tryz.prog w = .ok (.slice (some ⟨g, subO o cap l, none⟩) (len - l) (cap - l)) w := by
 obtain ⟨i0, hi, hz0, hz1, hz2⟩ := sl_parts
 have he : Tryz.prog.elem 32 = 47 := by kernel_rfl
 have hu : Tryz.prog.underlying 32 = some (.slice (Tryz.prog.elem 32)) := by rw [he]; exact Tryz.underlying32
 rw [run_sliceAt_slice (h := hu), run_slice_l (ht := hu) (h0 := by omega) (h1 := by omega)]
 rw [he, run_sizeOf (w := w) hi, show Tryz.prog.cellsOf 47 = 1 from (by kernel_rfl)]
 simp only [Result.andThen_ok, sliced, Int.toNat_natCast, Nat.mul_one]
 unfold subO
 split
 ·rfl
 ·simp only [Option.map_some]; rw [add_plain]
theorem run_subRh (g o len cap h : Nat) (hh : h <= cap) (w : World) :
  (Instr.sliceAt 32 (.slice (some ⟨g, o, none⟩) len cap) none (some (.int .i64 (h : Int))) none).run Tryz.prog w = .ok (.slice (some ⟨g, o, none⟩) h cap) w := by
 obtain ⟨i0, hi, hz0, hz1, hz2⟩ := sl_parts
 have he : Tryz.prog.elem 32 = 47 := by kernel_rfl
 have hu : Tryz.prog.underlying 32 = some (.slice (Tryz.prog.elem 32)) := by rw [he]; exact Tryz.underlying32
 rw [run_sliceAt_slice (h := hu), run_slice_h (ht := hu) (h0 := by omega) (h2 := by omega)]
 rw [he, run_sizeOf (w := w) hi, show Tryz.prog.cellsOf 47 = 1 from (by kernel_rfl)]
 simp only [Result.andThen_ok, sliced, Int.toNat_natCast, Nat.sub_zero]
 split
 ·rfl
 ·simp only [Option.map_some]; rw [add_plain]; simp
theorem wpList_sliceR {w : World} {ops : Array Oper} {rest : List Oper} {op : Oper} {A : Act} {Q : Exit -> Act -> World -> Prop} (hw : Region.wanted op (yielded ops A.tmps) = true) {g o len cap l : Nat} (x y : Operand) (ho : op.op = .slice 32 x (some y) none none) (hx : A.eval x = .slice (some ⟨g, o, none⟩) len cap) (hy : A.eval y = .int .i64 (l : Int))
  (hl : l <= len) (hK : wpList Tryz.prog ops Q rest (A.put op.dst (.slice (some ⟨g, subO o cap l, none⟩) (len - l) (cap - l))) w) : wpList Tryz.prog ops Q (op :: rest) A w :=
 wpList_met hw fun _ hk => by
  unfold Oper.wp
  have : (execOp A.eval op).run Tryz.prog w = .ok (.value (.slice (some ⟨g, subO o cap l, none⟩) (len - l) (cap - l))) w := by
   unfold execOp
   simp only [ho, Option.map_some, Option.map_none, hx, hy, Sem.run_bind, run_subRl g o len cap l hl w, Result.andThen_ok]
   rfl
  rw [this]
  exact hk _ _ hK
theorem page5R : (Tryz.prog.info? 78).map (·.size) = some 5 := by kernel_rfl
theorem eql_pgR (p q : Pg) (w : World) : (binOp .eql 78 (.agg (pgA p)) (.agg (pgA q))).run Tryz.prog w = .ok (.bool (pgEq p q)) w := by
 obtain ⟨a, b, c, d, s⟩ := p
 obtain ⟨a', b', c', d', s'⟩ := q
 unfold pgA pgEq
 simp only
 go_simp
 by_cases h1 : a = a'
 ·rw [if_pos (by omega)]
  by_cases h2 : b = b'
  ·rw [if_pos (by omega)]
   by_cases h3 : c = c'
   ·rw [if_pos (by omega)]
    by_cases h4 : d = d'
    ·rw [if_pos (by omega)]
     by_cases h5 : s = s'
     ·rw [if_pos (by omega)]
      simp [h1, h2, h3, h4, h5]
     ·rw [if_neg (by omega), show (s == s') = false by simpa using h5]; simp
    ·rw [if_neg (by omega), show (d == d') = false by simpa using h4]; simp
   ·rw [if_neg (by omega), show (c == c') = false by simpa using h3]; simp
  ·rw [if_neg (by omega), show (b == b') = false by simpa using h2]; simp
 ·rw [if_neg (by omega), show (a == a') = false by simpa using h1]; simp
theorem pginfoR : (Tryz.prog.info? 78).map (fun i => (i.zero, i.size, i.bytes)) = some (some (.agg (pgA ⟨0, 0, 0, 0, 0⟩)), 5, 40) := by kernel_rfl
theorem pgs_of_ownR {w : World} {base n : Nat} {a : Option Addr} {c : Nat} {L : List Pg} (hown : w.ownsRow base 78 5 (.slice a n c) n (cellsP L)) : PgsAt w a L := by
 intro i p hp
 have hi : i < L.length := (List.getElem?_eq_some_iff.1 hp).1
 have hn : n = L.length := by have := hown.1; rw [cellsP_len] at this; omega
 rcases hown.2 with ⟨h3, h4⟩ | ⟨g, cap, cur, h3, h4, h5, h6⟩
 ·omega
 ·cases h3
  refine ⟨g, 0, rfl, lt_of_block h5, fun j u hu => ?_⟩
  have hj : j < 5 := by have := (List.getElem?_eq_some_iff.1 hu).1; simpa [pgA] using this
  rw [Nat.zero_add, hown.cellAt (i * 5 + j) (by omega), cellsP_get L i j p hp hj]
  exact hu
/-- append of pages -/
theorem run_append_pgsR {w : World} (ty : TypeId) {base n : Nat} {v : Value} {L : List Pg} (hA : w.ownsRow base 78 5 v n (cellsP L)) {a : Option Addr} {m cap : Nat} {M : List Pg} (hm : M.length = m) (hM : PgsAt w a M) (hnil : a = none -> m = 0 /\ cap = 0) (hpl : ∀ p, a = some p -> p.spot = none) (h63 : n + m <= 1000000) (hbase : base <= w.heap.size) :
  ∃ v' w', (Builtin.append_ #[26, 26] ty #[v, .slice a m cap]).run Tryz.prog w = .ok v' w' /\ w'.ownsRow base 78 5 v' (n + m) (cellsP (L ++ M)) /\ w.grownBy w' v.ownBlock := by
 obtain ⟨i0, hi, h⟩ := Option.map_eq_some_iff.1 pginfoR
 simp only [Prod.mk.injEq] at h
 cases a with
 | none =>
  obtain ⟨rfl, rfl⟩ := hnil rfl
  have hl : M = [] := List.length_eq_zero_iff.1 hm
  subst hl
  refine ⟨v, w, run_append_owned_none w base 26 ty 78 i0 5 Tryz.underlying26 hi v n _ hA, ?_, World.grownBy.refl w _⟩
  simpa using hA
 | some ad =>
  obtain ⟨g, o, sp⟩ := ad
  have hsp : sp = none := hpl _ rfl
  subst hsp
  obtain ⟨v', w', h4, h5, h6, _⟩ := run_append_own_at (P := Tryz.prog) w base 26 ty 78 i0 _ 5 40 Tryz.underlying26 hi h.1 h.2.1 h.2.2 rfl (by omega) v n (cellsP L) hA ⟨g, o, none⟩ m cap (cellsP M) (by rw [cellsP_len, hm])
   (fun j u hu => by rw [add_plain]; exact pgs_cells (m := m) hM j u hu) (cellsP_oneCell M) (by unfold maxLen; omega) (by omega) hbase
  exact ⟨v', w', h4, by rw [cellsP_app]; exact h5, h6⟩
theorem wpList_append_pgsR {w : World} {ops : Array Oper} {rest : List Oper} {o : Oper} {A : Act} {Q : Exit -> Act -> World -> Prop} (hgd : o.guard = none) (s x : Operand)
  (ho : o.op = .call { callee := .builtin .append, args := #[s, x], argTypes := #[26, 26] }) {base n : Nat} {v : Value} {L : List Pg} (hs : A.eval s = v) (hA : w.ownsRow base 78 5 v n (cellsP L))
  {a : Option Addr} {m cap : Nat} {M : List Pg} (hx : A.eval x = .slice a m cap) (hm : M.length = m) (hM : PgsAt w a M) (hnil : a = none -> m = 0 /\ cap = 0) (hpl : ∀ p, a = some p -> p.spot = none) (h63 : n + m <= 1000000) (hbase : base <= w.heap.size)
  (h : ∀ v' w', w'.ownsRow base 78 5 v' (n + m) (cellsP (L ++ M)) -> w.grownBy w' v.ownBlock -> wpList Tryz.prog ops Q rest (A.put o.dst v') w') : wpList Tryz.prog ops Q (o :: rest) A w :=
 wpList_plain hgd fun _ hK => by
  obtain ⟨v', w', h1, h2, h3⟩ := run_append_pgsR o.type hA hm hM hnil hpl h63 hbase
  unfold Oper.wp execOp
  simp only [ho, resolve, invoke, builtin, Sem.run_bind, Sem.run_pure, Result.andThen_ok, List.map_toArray, List.map_cons, List.map_nil, hs, hx, h1]
  exact hK _ _ (h v' w' h2 h3)
theorem wpList_build_pgR {w : World} {ops : Array Oper} {rest : List Oper} {o : Oper} {A : Act} {Q : Exit -> Act -> World -> Prop} (hgd : o.guard = none) (x : Operand) (ho : o.op = .buildSlice 26 1 #[(0, x)])
  {p : Pg} (hx : A.eval x = .agg (pgA p)) (h : wpList Tryz.prog ops Q rest (A.put o.dst (.slice (some ⟨w.heap.size, 0, none⟩) 1 1)) (w.alloc (.cells (pgA p) 78))) : wpList Tryz.prog ops Q (o :: rest) A w := by
 obtain ⟨i0, hi, hh⟩ := Option.map_eq_some_iff.1 pginfoR
 simp only [Prod.mk.injEq] at hh
 refine wpList_buildSlice hgd 26 78 1 _ ho (pgA p) i0 _ Tryz.underlying26 hi hh.1 (by rw [hh.2.1]; decide) (by rw [hh.2.1]; decide) ?_ h
 rw [hh.2.1]
 rw [show (Array.map (fun x : Nat × Operand => match x with | (i, x) => (i, A.eval x)) #[(0, x)]).toList = [(0, A.eval x)] by simp, hx]
 exact fillP_any p _ (by simp [pgA, Value.cells])
theorem run_subPlR (g o len cap l : Nat) (hl : l <= len) (w : World) :
  (Instr.sliceAt 26 (.slice (some ⟨g, o, none⟩) len cap) (some (.int .i64 (l : Int))) none none).run Tryz.prog w = .ok (.slice (some ⟨g, subP o cap l, none⟩) (len - l) (cap - l)) w := by
 obtain ⟨i0, hi, hz⟩ := Option.map_eq_some_iff.1 pginfoR
 have he : Tryz.prog.elem 26 = 78 := by kernel_rfl
 have hu : Tryz.prog.underlying 26 = some (.slice (Tryz.prog.elem 26)) := by rw [he]; exact Tryz.underlying26
 rw [run_sliceAt_slice (h := hu), run_slice_l (ht := hu) (h0 := by omega) (h1 := by omega)]
 rw [he, run_sizeOf (w := w) hi, show Tryz.prog.cellsOf 78 = 5 from (by kernel_rfl)]
 simp only [Result.andThen_ok, sliced, Int.toNat_natCast]
 unfold subP
 split
 ·rfl
 ·simp only [Option.map_some]; rw [add_plain]
theorem run_subPhR (g o len cap h : Nat) (hh : h <= cap) (w : World) :
  (Instr.sliceAt 26 (.slice (some ⟨g, o, none⟩) len cap) none (some (.int .i64 (h : Int))) none).run Tryz.prog w = .ok (.slice (some ⟨g, o, none⟩) h cap) w := by
 obtain ⟨i0, hi, hz⟩ := Option.map_eq_some_iff.1 pginfoR
 have he : Tryz.prog.elem 26 = 78 := by kernel_rfl
 have hu : Tryz.prog.underlying 26 = some (.slice (Tryz.prog.elem 26)) := by rw [he]; exact Tryz.underlying26
 rw [run_sliceAt_slice (h := hu), run_slice_h (ht := hu) (h0 := by omega) (h2 := by omega)]
 rw [he, run_sizeOf (w := w) hi, show Tryz.prog.cellsOf 78 = 5 from (by kernel_rfl)]
 simp only [Result.andThen_ok, sliced, Int.toNat_natCast, Nat.zero_mul, Nat.sub_zero]
 split
 ·rfl
 ·simp only [Option.map_some]; rw [add_plain, Nat.add_zero]
theorem rsize_c (c : Nat) (w : World) :
  Calls Tryz.prog 56 #[.int .i64 (c : Int)] w fun e w' => e = .returned (.int .i64 (sz c : Int)) /\ w = w' := by
 by_cases h8 : c < 8
 ·have hc : c = 0 \/ c = 1 \/ c = 2 \/ c = 3 \/ c = 4 \/ c = 5 \/ c = 6 \/ c = 7 := by omega
  clear h8
  rcases hc with rfl | rfl | rfl | rfl | rfl | rfl | rfl | rfl
  all_goals
   go_enter Tryz.func56, Tryz.ntmps56
   go_wp2
   go_ret
   exact ⟨rfl, rfl⟩
 ·have hz := sz_big c (by omega)
  rw [hz]
  have e0 : ¬ (c : Int) = 0 := by omega
  have d0 : decide ((c : Int) = 0) = false := by simp; omega
  have e1 : ¬ (c : Int) = 1 := by omega
  have d1 : decide ((c : Int) = 1) = false := by simp; omega
  have e2 : ¬ (c : Int) = 2 := by omega
  have d2 : decide ((c : Int) = 2) = false := by simp; omega
  have e3 : ¬ (c : Int) = 3 := by omega
  have d3 : decide ((c : Int) = 3) = false := by simp; omega
  have e4 : ¬ (c : Int) = 4 := by omega
  have d4 : decide ((c : Int) = 4) = false := by simp; omega
  have e5 : ¬ (c : Int) = 5 := by omega
  have d5 : decide ((c : Int) = 5) = false := by simp; omega
  have e6 : ¬ (c : Int) = 6 := by omega
  have d6 : decide ((c : Int) = 6) = false := by simp; omega
  have e7 : ¬ (c : Int) = 7 := by omega
  have d7 : decide ((c : Int) = 7) = false := by simp; omega
  clear h8 hz
  go_enter Tryz.func56, Tryz.ntmps56
  go_wp2
  go_ret
  exact ⟨rfl, rfl⟩
theorem slots_bound : ∀ c, c < 8 -> slotsN c <= 16 /\ sz c <= 120 /\ (∀ k, k < slotsN c -> (k + 1) * (sz c + 8) <= 256) /\ 256 < (slotsN c + 1) * (sz c + 8) := by decide +kernel
theorem rslots_c (c : Nat) (w : World) :
  Calls Tryz.prog 57 #[.int .i64 (c : Int)] w fun e w' => e = .returned (.int .i64 (slotsN c : Int)) /\ w = w' := by
 by_cases h8 : c < 8
 ·obtain ⟨hN, hz, hlo, hhi⟩ := slots_bound c h8
  have e1 : ¬ (c : Int) < 0 := by omega
  have e2 : ¬ (c : Int) > 7 := by omega
  have e3 : decide ((c : Int) > 7) = false := by simp; omega
  have HZ := Lib.hid (fun w => rsize_c c w)
  obtain ⟨z, hz0⟩ : ∃ z, z = sz c := ⟨_, rfl⟩
  obtain ⟨N, hN0⟩ : ∃ N, N = slotsN c := ⟨_, rfl⟩
  rw [<- hz0] at HZ hz
  rw [<- hz0, <- hN0] at hlo hhi
  rw [<- hN0] at hN ⊢
  have HLO := Lib.hid hlo
  have HHI := Lib.hid hhi
  have HN := Lib.hid hN
  have HZB := Lib.hid hz
  clear hz0 hN0 hlo hhi hN hz h8
  go_enter Tryz.func57, Tryz.ntmps57
  go_wp2
  go_loop [3] (fun vi => ∃ k : Nat, vi = .int .i64 (k : Int) /\ Hid (k <= N)) (fun vi => 17 - (intOf vi).toNat)
  case atStart => exact ⟨0, rfl, Nat.zero_le _⟩
  case round =>
   obtain ⟨k, rfl, hk⟩ := hrel
   obtain ⟨k1, hk1⟩ : ∃ k1, k1 = k + 1 := ⟨_, rfl⟩
   obtain ⟨z8, hz8⟩ : ∃ z8, z8 = z + 8 := ⟨_, rfl⟩
   obtain ⟨p, hp⟩ : ∃ p, p = k1 * z8 := ⟨_, rfl⟩
   have i1 : (k : Int) + 1 = (k1 : Int) := by omega
   have i2 : (z : Int) + 8 = (z8 : Int) := by omega
   have i3 : (k1 : Int) * (z8 : Int) = (p : Int) := by rw [hp]; simp
   have hpb : p <= 17 * 128 := by rw [hp]; exact Nat.mul_le_mul (by have := hk.out; have := HN.out; omega) (by have := HZB.out; omega)
   have w1 : IntKind.i64.wrap (k1 : Int) = (k1 : Int) := IntWalk.i64_in _ (by have := hk.out; have := HN.out; omega)
   have w2 : IntKind.i64.wrap (z8 : Int) = (z8 : Int) := IntWalk.i64_in _ (by have := HZB.out; omega)
   have w3 : IntKind.i64.wrap (p : Int) = (p : Int) := IntWalk.i64_in _ (by omega)
   have HK1 : Hid (k1 = k + 1) := hk1
   by_cases he : k = N
   ·have hT : ¬ (p : Int) <= 256 := by have h := HHI.out; rw [<- he, <- hk1, <- hz8, <- hp] at h; omega
    have HE := Lib.hid he
    clear he hp hk1 hz8 hpb
    go_wp2_with fail
    refine (HZ.out _).mono ?_
    rintro e w' ⟨rfl, rfl⟩
    go_wp2
    go_ret
    exact ⟨by rw [<- HE.out]; rfl, rfl⟩
   ·have hlt : k < N := by have := hk.out; omega
    have hT : (p : Int) <= 256 := by have h := HLO.out k hlt; rw [<- hk1, <- hz8, <- hp] at h; omega
    have HLT := Lib.hid hlt
    clear he hp hk1 hz8 hpb hlt
    go_wp2_with fail
    refine (HZ.out _).mono ?_
    rintro e w' ⟨rfl, rfl⟩
    go_wp2
    go_round
    case rel => exact ⟨k1, rfl, by have h1 := HLT.out; have h2 := HK1.out; show _ <= _; omega⟩
    case measure => simp [intOf]; have h1 := HLT.out; have h2 := HK1.out; have h3 := HN.out; omega
 ·have hz : slotsN c = 0 := by unfold slotsN; rw [if_pos (sz_big c (by omega))]
  have HZ : Hid (slotsN c = 0) := hz
  have e1 : ¬ (c : Int) < 0 := by omega
  have e2 : (c : Int) > 7 := by omega
  have e3 : decide ((c : Int) > 7) = true := by simp; omega
  clear h8 hz
  go_enter Tryz.func57, Tryz.ntmps57
  go_wp2
  go_ret
  exact ⟨by rw [HZ.out]; rfl, rfl⟩
theorem rpages_no (n : Int) (h : n <= 120 \/ 4096 < n) (w : World) :
  Calls Tryz.prog 97 #[.int .i64 n] w fun e w' => e = .returned (.tuple #[.int .i64 0, .bool false]) /\ w = w' := by
 by_cases a1 : n < 121
 ·go_enter Tryz.func97, Tryz.ntmps97
  go_wp2
  go_ret2
  exact ⟨rfl, rfl⟩
 ·have a2 : (4096 : Int) < n := by omega
  go_enter Tryz.func97, Tryz.ntmps97
  go_wp2
  go_ret2
  exact ⟨rfl, rfl⟩
theorem rpages_yes (n : Nat) (h1 : 120 < n) (h2 : n <= 4096) (w : World) :
  Calls Tryz.prog 97 #[.int .i64 (n : Int)] w fun e w' => e = .returned (.tuple #[.int .i64 (pagesOf n : Int), .bool true]) /\ w = w' := by
 have a1 : ¬ (n : Int) < 121 := by omega
 have a2 : ¬ (4096 : Int) < n := by omega
 have HP : Hid (pagesOf n = (n + 255) / 256) := rfl
 go_enter Tryz.func97, Tryz.ntmps97
 go_wp2
 go_loop [4] (fun vi => ∃ k : Nat, 1 <= k /\ k <= (n + 255) / 256 /\ vi = .int .i64 k) (fun vi => 20 - (intOf vi).toNat)
 case atStart => exact ⟨1, by omega, by omega, rfl⟩
 case round =>
  obtain ⟨k, hk1, hk, rfl⟩ := hrel
  by_cases he : 256 * k < n
  ·have hT : (256 : Int) * k < n := by omega
   go_wp2
   go_round
   case rel => exact ⟨k + 1, by omega, by omega, by go_num⟩
   case measure => simp [intOf]; omega
  ·have hT : ¬ (256 : Int) * k < n := by omega
   go_wp2
   go_ret2
   exact ⟨by rw [show k = pagesOf n by rw [HP.out]; omega]; rfl, rfl⟩
theorem rone_c (p : Pg) (hsz : p.size < 4611686018427387904) (w : World) :
  Calls Tryz.prog 83 #[.agg (pgA p)] w fun e w' => e = .returned (.bool (oneP p)) /\ Below w.heap.size w w' := by
 have HBLK := Lib.hid (heap_new' w (.cells (pgA p) 78))
 have HE := Lib.hid (below_box w (.cells (pgA p) 78))
 have c0 := (cells_at HBLK.out 0).trans (show _ = some (Value.int .i64 (p.kind : Int)) from rfl)
 have c1 := (cells_at HBLK.out 1).trans (show _ = some (Value.int .i64 (p.cls : Int)) from rfl)
 have c2 := (cells_at HBLK.out 2).trans (show _ = some (Value.int .i64 (p.run : Int)) from rfl)
 have c3 := (cells_at HBLK.out 3).trans (show _ = some (Value.int .i64 (p.size : Int)) from rfl)
 have c4 := (cells_at HBLK.out 4).trans (show _ = some (Value.int .u64 (p.ser : Int)) from rfl)
 have HK : Hid (p.kind = 0 -> oneP p = pgEq p ⟨0, 0, 0, 0, 0⟩) := fun h => by unfold oneP freeP slotsP headP tailP pgEq; simp [h]
 have HK3 : Hid (p.kind = 3 -> oneP p = pgEq p ⟨3, 0, 0, 0, 0⟩) := fun h => by unfold oneP freeP slotsP headP tailP pgEq; simp [h]
 have HK1 : Hid (p.kind = 1 -> oneP p = (pgEq p ⟨1, p.cls, 0, 0, 0⟩ && decide (0 < sz p.cls))) := fun h => by
  have hd : decide (p.cls < 8) = decide (0 < sz p.cls) := by
   have := sz_zero p.cls
   rw [decide_eq_decide]; omega
  unfold oneP freeP slotsP headP tailP pgEq; rw [hd]; simp [h]
 have HK2 : Hid (p.kind = 2 -> oneP p = (decide (120 < p.size /\ p.size <= 4096) && (p.run == pagesOf p.size) && (p.cls == 0) && decide (0 < p.ser) && decide (p.ser < 281474976710656))) := fun h => by
  unfold oneP freeP slotsP headP tailP
  by_cases h1 : 120 < p.size <;> by_cases h2 : p.size <= 4096 <;> simp [h, h1, h2]
  cases h5 : (p.cls == 0) <;> cases h6 : (p.run == pagesOf p.size) <;> simp_all
 have HK9 : Hid (p.kind ≠ 0 -> p.kind ≠ 1 -> p.kind ≠ 2 -> p.kind ≠ 3 -> oneP p = false) := fun h0 h1 h2 h3 => by
  unfold oneP freeP slotsP headP tailP
  simp [h0, h1, h2, h3]
 by_cases k0 : p.kind = 0
 ·have HEQ : Hid (∀ w, (binOp .eql 78 (.agg (pgA p)) (.agg (pgA ⟨0, 0, 0, 0, 0⟩))).run Tryz.prog w = .ok (.bool (pgEq p ⟨0, 0, 0, 0, 0⟩)) w) := fun w => eql_pgR p _ w
  have HR := Lib.hid (HK.out k0)
  generalize pgEq p ⟨0, 0, 0, 0, 0⟩ = r at *
  rw [k0] at c0
  go_enter Tryz.func83, Tryz.ntmps83
  cases r with
  | false =>
   go_wp2_with (first | (refine wpList_load_row rfl 78 (.tmp 1) rfl w.heap.size rfl _ _ _ _ HBLK.out Tryz.underlying78 rfl (by rw [page5R]; rfl) ?_) | (refine wpList_eql_agg rfl 78 _ (.tmp 10) (.tmp 13) rfl (pgA p) (pgA ⟨0, 0, 0, 0, 0⟩) rfl rfl (by kernel_rfl) false (HEQ.out _) ?_) | fail)
   go_ret
   exact ⟨by rw [HR.out]; rfl, HE.out⟩
  | true =>
   go_wp2_with (first | (refine wpList_load_row rfl 78 (.tmp 1) rfl w.heap.size rfl _ _ _ _ HBLK.out Tryz.underlying78 rfl (by rw [page5R]; rfl) ?_) | (refine wpList_eql_agg rfl 78 _ (.tmp 10) (.tmp 13) rfl (pgA p) (pgA ⟨0, 0, 0, 0, 0⟩) rfl rfl (by kernel_rfl) true (HEQ.out _) ?_) | fail)
   go_ret
   exact ⟨by rw [HR.out]; rfl, HE.out⟩
 by_cases k3 : p.kind = 3
 ·have HEQ : Hid (∀ w, (binOp .eql 78 (.agg (pgA p)) (.agg (pgA ⟨3, 0, 0, 0, 0⟩))).run Tryz.prog w = .ok (.bool (pgEq p ⟨3, 0, 0, 0, 0⟩)) w) := fun w => eql_pgR p _ w
  have HR := Lib.hid (HK3.out k3)
  generalize pgEq p ⟨3, 0, 0, 0, 0⟩ = r at *
  rw [k3] at c0
  go_enter Tryz.func83, Tryz.ntmps83
  cases r with
  | false =>
   go_wp2_with (first | (refine wpList_load_row rfl 78 (.tmp 1) rfl w.heap.size rfl _ _ _ _ HBLK.out Tryz.underlying78 rfl (by rw [page5R]; rfl) ?_) | (refine wpList_eql_agg rfl 78 _ (.tmp 10) (.tmp 13) rfl (pgA p) (pgA ⟨3, 0, 0, 0, 0⟩) rfl rfl (by kernel_rfl) false (HEQ.out _) ?_) | fail)
   go_ret
   exact ⟨by rw [HR.out]; rfl, HE.out⟩
  | true =>
   go_wp2_with (first | (refine wpList_load_row rfl 78 (.tmp 1) rfl w.heap.size rfl _ _ _ _ HBLK.out Tryz.underlying78 rfl (by rw [page5R]; rfl) ?_) | (refine wpList_eql_agg rfl 78 _ (.tmp 10) (.tmp 13) rfl (pgA p) (pgA ⟨3, 0, 0, 0, 0⟩) rfl rfl (by kernel_rfl) true (HEQ.out _) ?_) | fail)
   go_ret
   exact ⟨by rw [HR.out]; rfl, HE.out⟩
 by_cases k1 : p.kind = 1
 ·have HEQ : Hid (∀ w, (binOp .eql 78 (.agg (pgA p)) (.agg (pgA ⟨1, p.cls, 0, 0, 0⟩))).run Tryz.prog w = .ok (.bool (pgEq p ⟨1, p.cls, 0, 0, 0⟩)) w) := fun w => eql_pgR p _ w
  have HR := Lib.hid (HK1.out k1)
  obtain ⟨z, hz⟩ : ∃ z, z = sz p.cls := ⟨_, rfl⟩
  have HS := Lib.hid (fun w => rsize_c p.cls w)
  rw [<- hz] at HS HR
  generalize pgEq p ⟨1, p.cls, 0, 0, 0⟩ = r at *
  rw [k1] at c0
  clear hz
  go_enter Tryz.func83, Tryz.ntmps83
  cases r with
  | false =>
   go_wp2_with (first | (refine wpList_load_row rfl 78 (.tmp 1) rfl w.heap.size rfl _ _ _ _ HBLK.out Tryz.underlying78 rfl (by rw [page5R]; rfl) ?_) | (refine wpList_eql_agg rfl 78 _ (.tmp 17) (.tmp 20) rfl (pgA p) (pgA ⟨1, p.cls, 0, 0, 0⟩) rfl rfl (by kernel_rfl) false (HEQ.out _) ?_) | fail)
   go_ret
   exact ⟨by rw [HR.out]; rfl, HE.out⟩
  | true =>
   go_wp2_with (first | (refine wpList_load_row rfl 78 (.tmp 1) rfl w.heap.size rfl _ _ _ _ HBLK.out Tryz.underlying78 rfl (by rw [page5R]; rfl) ?_) | (refine wpList_eql_agg rfl 78 _ (.tmp 17) (.tmp 20) rfl (pgA p) (pgA ⟨1, p.cls, 0, 0, 0⟩) rfl rfl (by kernel_rfl) true (HEQ.out _) ?_) | fail)
   refine (HS.out _).mono ?_
   rintro e w1 ⟨rfl, rfl⟩
   go_wp2
   go_ret
   exact ⟨by rw [HR.out]; simp, HE.out⟩
 by_cases k2 : p.kind = 2
 ·have HR := Lib.hid (HK2.out k2)
  rw [k2] at c0
  by_cases hs : 120 < p.size /\ p.size <= 4096
  ·have HP := Lib.hid (fun w => rpages_yes p.size hs.1 hs.2 w)
   have HS := Lib.hid hs
   obtain ⟨q, hq⟩ : ∃ q, q = pagesOf p.size := ⟨_, rfl⟩
   rw [<- hq] at HP HR
   rw [show decide (120 < p.size /\ p.size <= 4096) = true by simp; omega, Bool.true_and] at HR
   clear hq hs
   have ne : ∀ a b : Nat, ((a : Int) == (b : Int)) = (a == b) := fun a b => by rw [Bool.eq_iff_iff]; simp; omega
   by_cases h1 : p.run = q
   ·by_cases h2 : p.cls = 0
    ·by_cases h3 : 0 < p.ser
     ·have a1 : (p.run : Int) = (q : Int) := by omega
      have a2 : (p.cls : Int) = 0 := by omega
      have a3 : (p.ser : Int) > 0 := by omega
      have HG : Hid (oneP p = decide ((p.ser : Int) < 281474976710656)) := by
       show _ = _
       rw [HR.out, h1, h2]
       have : decide (p.ser < 281474976710656) = decide ((p.ser : Int) < 281474976710656) := by rw [decide_eq_decide]; omega
       rw [this]; simp [h3]
      clear HR ne
      go_enter Tryz.func83, Tryz.ntmps83
      go_wp2_with fail
      refine (HP.out _).mono ?_
      rintro e w1 ⟨rfl, rfl⟩
      go_wp2
      go_ret
      exact ⟨by rw [HG.out]; rfl, HE.out⟩
     ·have a1 : (p.run : Int) = (q : Int) := by omega
      have a2 : (p.cls : Int) = 0 := by omega
      have a3 : ¬ (p.ser : Int) > 0 := by omega
      have HG : Hid (oneP p = false) := by show _ = _; rw [HR.out]; simp [h3]
      clear HR ne
      go_enter Tryz.func83, Tryz.ntmps83
      go_wp2_with fail
      refine (HP.out _).mono ?_
      rintro e w1 ⟨rfl, rfl⟩
      go_wp2
      go_ret
      exact ⟨by rw [HG.out]; rfl, HE.out⟩
    ·have a1 : (p.run : Int) = (q : Int) := by omega
     have a2 : ¬ (p.cls : Int) = 0 := by omega
     have HG : Hid (oneP p = false) := by show _ = _; rw [HR.out]; simp [h2]
     clear HR ne
     go_enter Tryz.func83, Tryz.ntmps83
     go_wp2_with fail
     refine (HP.out _).mono ?_
     rintro e w1 ⟨rfl, rfl⟩
     go_wp2
     go_ret
     exact ⟨by rw [HG.out]; rfl, HE.out⟩
   ·have a1 : ¬ (p.run : Int) = (q : Int) := by omega
    have HG : Hid (oneP p = false) := by show _ = _; rw [HR.out]; simp [h1]
    clear HR ne
    go_enter Tryz.func83, Tryz.ntmps83
    go_wp2_with fail
    refine (HP.out _).mono ?_
    rintro e w1 ⟨rfl, rfl⟩
    go_wp2
    go_ret
    exact ⟨by rw [HG.out]; rfl, HE.out⟩
  ·have HP := Lib.hid (fun w => rpages_no p.size (by omega) w)
   have HG : Hid (oneP p = false) := by show _ = _; rw [HR.out]; rw [show decide (120 < p.size /\ p.size <= 4096) = false by simpa using hs]; simp
   clear HR hs
   go_enter Tryz.func83, Tryz.ntmps83
   go_wp2_with fail
   refine (HP.out _).mono ?_
   rintro e w1 ⟨rfl, rfl⟩
   go_wp2
   go_ret
   exact ⟨by rw [HG.out]; rfl, HE.out⟩
 ·have HR := Lib.hid (HK9.out k0 k1 k2 k3)
  have a0 : ¬ (p.kind : Int) = 0 := by omega
  have a1 : ¬ (p.kind : Int) = 1 := by omega
  have a2 : ¬ (p.kind : Int) = 2 := by omega
  have a3 : ¬ (p.kind : Int) = 3 := by omega
  go_enter Tryz.func83, Tryz.ntmps83
  go_wp2
  go_ret
  exact ⟨by rw [HR.out]; rfl, HE.out⟩
def goA (l : List Pg) : Bool := l.all oneP && goP 0 l
def nP (p : Pg) : Nat := if p.kind = 2 then p.run else 1
theorem goA_cons (p : Pg) (l : List Pg) : goA (p :: l) = if (!oneP p || p.kind == 3) = true then false else if nP p > l.length + 1 then false else if ((l.take (nP p - 1)).all fun q => oneP q && q.kind == 3) = true then goA (l.drop (nP p - 1)) else false := by
 have h := ref_go (l.length + 1) (p :: l) (by simp)
 unfold goA
 rw [<- h, refP]
 simp only
 rw [show (if p.kind = 2 then p.run else 1) = nP p from rfl]
 rw [ref_go l.length (l.drop (nP p - 1)) (by rw [List.length_drop]; omega)]
theorem chk_goA {L : List Pg} (h : L.length <= 64) : chkP L = goA L := by
 unfold chkP goA
 rw [show decide (L.length <= 64) = true by simpa using h, Bool.true_and]
theorem rpmay_c (a0 : Option Addr) (n cap : Nat) (L : List Pg) (hn : L.length = n) (hnm : n <= 1000) (hsz : ∀ p ∈ L, p.size < 4611686018427387904) (hrn : ∀ p ∈ L, p.run < 4611686018427387904) (w : World) (hP : PgsAt w a0 L) :
  Calls Tryz.prog 84 #[.slice a0 n cap] w fun e w' => e = .returned (.bool (chkP L)) /\ Below w.heap.size w w' := by
 have HP := Lib.hid hP
 have HN := Lib.hid hn
 have HSZ := Lib.hid hsz
 have HRN := Lib.hid hrn
 by_cases h64 : n > 64
 ·have d1 : decide ((n : Int) > 64) = true := by simp; omega
  have d2 : (n : Int) > 64 := by omega
  have HC : Hid (chkP L = false) := by show _ = _; unfold chkP; rw [show decide (L.length <= 64) = false by rw [hn]; simp; omega]; rfl
  clear h64 hP hn hsz hrn hnm
  go_enter Tryz.func84, Tryz.ntmps84
  go_wp2
  go_ret
  exact ⟨by rw [HC.out]; rfl, Below.refl _ _⟩
 ·have d1 : decide ((n : Int) > 64) = false := by simp; omega
  have d2 : ¬ (n : Int) > 64 := by omega
  have H64 : Hid (n <= 64) := by show _ <= _; omega
  have HC : Hid (chkP L = goA L) := chk_goA (by omega)
  clear h64 hP hn hsz hrn hnm
  go_enter Tryz.func84, Tryz.ntmps84
  go_wp2
  go_loopw [3, 4, 5] (fun vk v4 v5 wr => ∃ k : Nat, vk = .int .i64 (k : Int) /\ Hid (k <= n) /\ Hid (goA L = goA (L.drop k)) /\ Hid (Below w.heap.size w wr)) (fun vk _ _ _ => n - (intOf vk).toNat)
  case atStart => exact ⟨0, rfl, Nat.zero_le _, rfl, Below.refl _ _⟩
  case round =>
   obtain ⟨k, rfl, hk, hgo, hbel⟩ := hrel
   have hkn : k <= n := hk
   by_cases hlt : k < n
   ·have hd : decide ((k : Int) < (n : Int)) = true := by simp; omega
    have dl : (k : Int) < (n : Int) := by omega
    have d0 : ¬ (k : Int) < 0 := by omega
    have hkL : k < L.length := by rw [HN.out]; exact hlt
    obtain ⟨p, hp⟩ : ∃ p, p = L[k] := ⟨_, rfl⟩
    have hget : L[k]? = some p := by rw [hp]; exact List.getElem?_eq_getElem hkL
    obtain ⟨g, o, rfl, hgl, hcell⟩ := HP.out k p hget
    have hcr : wr.rangeAt g (o + k * 5) (pgA p).toList := fun j u hu => (hbel.out.cell (p := ⟨g, o + k * 5 + j, none⟩) hgl).trans (hcell j u hu)
    have HCR := Lib.hid hcr
    have hdrop : L.drop k = p :: L.drop (k + 1) := by rw [hp]; exact List.drop_eq_getElem_cons hkL
    have hgo2 := hgo.out
    rw [hdrop, goA_cons] at hgo2
    have hlen : (L.drop (k + 1)).length + 1 = n - k := by rw [List.length_drop, HN.out]; omega
    rw [hlen] at hgo2
    have HO := Lib.hid (rone_c p (HSZ.out p (by rw [hp]; exact List.getElem_mem _)))
    have hpr := HRN.out p (by rw [hp]; exact List.getElem_mem _)
    have HGL := Lib.hid hgl
    have HCELL := Lib.hid hcell
    have HKN := Lib.hid hlt
    obtain ⟨kd, hkd⟩ : ∃ kd, kd = p.kind := ⟨_, rfl⟩
    obtain ⟨q, hq⟩ : ∃ q, q = oneP p := ⟨_, rfl⟩
    rw [<- hq] at HO hgo2
    rw [<- hkd] at hgo2
    clear hp hget hdrop hcell hgl hcr hkL hlen hkn hk hgo hlt
    cases q with
    | false =>
     have HF : Hid (goA L = false) := by show _ = _; rw [hgo2]; rfl
     clear hgo2 hq hpr hkd
     go_wp2_with (first
      | (refine wpList_load_mid rfl 78 (.tmp 15) rfl g (o + k * 5) rfl _ _ HCR.out Tryz.underlying78 rfl (by rw [page5R]; rfl) ?_)
      | fail)
     refine (HO.out _).mono ?_
     rintro e w1 ⟨rfl, hb1⟩
     have HE1 : Hid (Below w.heap.size w w1) := hbel.out.trans (hb1.mono hbel.out.size)
     clear hb1
     go_wp2
     go_ret
     exact ⟨by rw [HC.out, HF.out]; rfl, HE1.out⟩
    | true =>
     rw [Bool.not_true, Bool.false_or] at hgo2
     have HQ := Lib.hid hq
     have HKD := Lib.hid hkd
     have HGO := Lib.hid hgo2
     have HPR := Lib.hid hpr
     clear hq hkd hgo2 hpr
     go_wp2_with (first
      | (refine wpList_load_mid rfl 78 (.tmp 15) rfl g (o + k * 5) rfl _ _ HCR.out Tryz.underlying78 rfl (by rw [page5R]; rfl) ?_)
      | fail)
     refine (HO.out _).mono ?_
     rintro e w1 ⟨rfl, hb1⟩
     have HE1 : Hid (Below w.heap.size w w1) := hbel.out.trans (hb1.mono hbel.out.size)
     have c0 : w1.cell? ⟨g, o + k * 5, none⟩ = some (.int .i64 (kd : Int)) := by rw [HKD.out]; exact (HE1.out.cell (p := ⟨g, o + k * 5, none⟩) HGL.out).trans (HCELL.out 0 _ rfl)
     have c2 : w1.cell? ⟨g, o + k * 5 + 2, none⟩ = some (.int .i64 (p.run : Int)) := (HE1.out.cell (p := ⟨g, o + k * 5 + 2, none⟩) HGL.out).trans (HCELL.out 2 _ rfl)
     have hgo2 := HGO.out
     have hkd := HKD.out
     have hpr := HPR.out
     clear hb1 HCR HO hbel HGO HPR
     by_cases h3 : kd = 3
     ·have HF : Hid (goA L = false) := by show _ = _; rw [hgo2, h3]; rfl
      rw [h3] at c0
      clear hgo2 hpr hkd c2 h3
      go_wp2
      go_ret
      exact ⟨by rw [HC.out, HF.out]; rfl, HE1.out⟩
     ·have n3 : ¬ (kd : Int) = 3 := by omega
      have n3d : decide ((kd : Int) = 3) = false := by simp; omega
      rw [if_neg (by simpa using h3)] at hgo2
      obtain ⟨r, hr⟩ : ∃ r, r = n - k := ⟨_, rfl⟩
      have ir : (n : Int) - (k : Int) = (r : Int) := by have := HKN.out; omega
      have wr0 : IntKind.i64.wrap (r : Int) = (r : Int) := IntWalk.i64_in _ (by have := H64.out; omega)
      obtain ⟨k1, hk1⟩ : ∃ k1, k1 = k + 1 := ⟨_, rfl⟩
      have i1 : (k : Int) + 1 = (k1 : Int) := by omega
      have w1k : IntKind.i64.wrap (k1 : Int) = (k1 : Int) := IntWalk.i64_in _ (by have := H64.out; have := HKN.out; omega)
      have HK1 := Lib.hid hk1
      have HR := Lib.hid hr
      rw [<- hr] at hgo2
      by_cases h2 : kd = 2
      ·have hnp : nP p = p.run := by unfold nP; rw [<- hkd, if_pos h2]
       have hpos := run_pos HQ.out.symm (by rw [<- hkd]; exact h2)
       rw [hnp] at hgo2
       obtain ⟨rn, hrn⟩ : ∃ rn, rn = p.run := ⟨_, rfl⟩
       rw [<- hrn] at hgo2 c2 hpr hpos
       have HPOS := Lib.hid hpos
       rw [h2] at c0
       by_cases hbig : rn > r
       ·have b1 : (rn : Int) > (r : Int) := by omega
        have b2 : decide ((rn : Int) > (r : Int)) = true := by simp; omega
        have HF : Hid (goA L = false) := by show _ = _; rw [hgo2, if_pos hbig]
        clear hgo2 hkd h3 h2 n3 n3d hnp hrn hpr hpos hk1 hr hbig
        go_wp2
        go_ret
        exact ⟨by rw [HC.out, HF.out]; rfl, HE1.out⟩
       ·have b1 : ¬ (rn : Int) > (r : Int) := by omega
        have b2 : decide ((rn : Int) > (r : Int)) = false := by simp; omega
        have b3 : decide (r < rn) = false := by simp; omega
        have b4 : ¬ r < rn := by omega
        rw [if_neg hbig] at hgo2
        have HG2 := Lib.hid hgo2
        obtain ⟨e, he⟩ : ∃ e, e = k + rn := ⟨_, rfl⟩
        have ie : (k : Int) + (rn : Int) = (e : Int) := by omega
        have we : IntKind.i64.wrap (e : Int) = (e : Int) := IntWalk.i64_in _ (by have := H64.out; have := HKN.out; omega)
        have HEE : Hid (e = k + rn /\ k + rn <= n /\ 1 <= rn) := ⟨he, by have := HKN.out; omega, hpos⟩
        clear hgo2 hkd h3 h2 n3 n3d hnp hrn hpr hpos hk1 hr hbig he
        go_wp2
        go_loopw [5] (fun vi wq => ∃ i : Nat, vi = .int .i64 (i : Int) /\ Hid (k1 <= i /\ i <= e) /\ Hid (((L.drop (k + 1)).take (i - k1)).all (fun q => oneP q && q.kind == 3) = true) /\ Hid (Below w.heap.size w wq)) (fun vi _ => e - (intOf vi).toNat)
        case atStart => exact ⟨k1, rfl, ⟨Nat.le_refl _, by have h1 := HK1.out; have h2 := HEE.out; omega⟩, by show _ = _; rw [Nat.sub_self]; rfl, HE1.out⟩
        case round =>
         obtain ⟨i, rfl, hi, hal, hbq⟩ := hrel
         have hi2 := hi.out
         by_cases hil : i < e
         ·have f1 : decide ((i : Int) < (e : Int)) = true := by simp; omega
          have f2 : (i : Int) < (e : Int) := by omega
          have f0 : ¬ (i : Int) < 0 := by omega
          have fn : (i : Int) < (n : Int) := by have := HEE.out; omega
          have hiL : i < L.length := by rw [HN.out]; have := HEE.out; omega
          obtain ⟨p2, hp2⟩ : ∃ p2, p2 = L[i] := ⟨_, rfl⟩
          have hget2 : L[i]? = some p2 := by rw [hp2]; exact List.getElem?_eq_getElem hiL
          obtain ⟨g', o', e9, hgl2, hcell2⟩ := HP.out i p2 hget2
          cases e9
          have hcr2 : wr.rangeAt g (o + i * 5) (pgA p2).toList := fun j u hu => (hbq.out.cell (p := ⟨g, o + i * 5 + j, none⟩) hgl2).trans (hcell2 j u hu)
          have HCR2 := Lib.hid hcr2
          have HO2 := Lib.hid (rone_c p2 (HSZ.out p2 (by rw [hp2]; exact List.getElem_mem _)))
          have hsn : ((L.drop (k + 1)).take (i + 1 - k1)).all (fun q => oneP q && q.kind == 3) = (oneP p2 && p2.kind == 3) := by
           have h1 := HK1.out
           rw [show i + 1 - k1 = (i - k1) + 1 by omega, List.take_add_one, List.all_append, hal.out, List.getElem?_drop, show k + 1 + (i - k1) = i by omega, hget2]
           simp
          have hbad : (oneP p2 && p2.kind == 3) = false -> ((L.drop (k + 1)).take (rn - 1)).all (fun q => oneP q && q.kind == 3) = false := fun hb => by
           have h1 := HK1.out
           have h2 := HEE.out
           rw [Bool.eq_false_iff]
           intro h9
           rw [List.all_eq_true] at h9
           have h8 := h9 p2 (List.mem_of_getElem? (i := i - k1) (by rw [List.getElem?_take_of_lt (by omega), List.getElem?_drop, show k + 1 + (i - k1) = i by omega]; exact hget2))
           rw [hb] at h8; cases h8
          have HSN := Lib.hid hsn
          have HBAD := Lib.hid hbad
          obtain ⟨i1', hi1'⟩ : ∃ x, x = i + 1 := ⟨_, rfl⟩
          have ii1 : (i : Int) + 1 = (i1' : Int) := by omega
          have wi1 : IntKind.i64.wrap (i1' : Int) = (i1' : Int) := IntWalk.i64_in _ (by have := H64.out; have := HEE.out; omega)
          have HI1 : Hid (i1' = i + 1 /\ i < e /\ k1 <= i) := ⟨hi1', hil, hi2.1⟩
          obtain ⟨kd2, hkd2⟩ : ∃ kd2, kd2 = p2.kind := ⟨_, rfl⟩
          obtain ⟨q2, hq2⟩ : ∃ q2, q2 = oneP p2 := ⟨_, rfl⟩
          rw [<- hq2] at HO2 HSN HBAD
          rw [<- hkd2] at HSN HBAD
          have c02 : ∀ wz, Below w.heap.size w wz -> wz.cell? ⟨g, o + i * 5, none⟩ = some (.int .i64 (kd2 : Int)) := fun wz hz => by rw [hkd2]; exact (hz.cell (p := ⟨g, o + i * 5, none⟩) hgl2).trans (hcell2 0 _ rfl)
          have HC02 := Lib.hid c02
          clear hp2 hget2 hgl2 hcell2 hcr2 hiL hsn hbad hi1' hil hi hi2 hq2 hkd2 hal c02 c0 c2 d0
          cases q2 with
          | false =>
           have HF : Hid (goA L = false) := by show _ = _; rw [HG2.out, HBAD.out rfl]; rfl
           go_wp2_with (first
            | (refine wpList_load_mid rfl 78 (.tmp 55) rfl g (o + i * 5) rfl _ _ HCR2.out Tryz.underlying78 rfl (by rw [page5R]; rfl) ?_)
            | fail)
           refine (HO2.out _).mono ?_
           rintro e9 w9 ⟨rfl, hb9⟩
           have HE9 : Hid (Below w.heap.size w w9) := hbq.out.trans (hb9.mono hbq.out.size)
           clear hb9
           go_wp2
           go_ret
           exact ⟨by rw [HC.out, HF.out]; rfl, HE9.out⟩
          | true =>
           go_wp2_with (first
            | (refine wpList_load_mid rfl 78 (.tmp 55) rfl g (o + i * 5) rfl _ _ HCR2.out Tryz.underlying78 rfl (by rw [page5R]; rfl) ?_)
            | fail)
           refine (HO2.out _).mono ?_
           rintro e9 w9 ⟨rfl, hb9⟩
           have HE9 : Hid (Below w.heap.size w w9) := hbq.out.trans (hb9.mono hbq.out.size)
           have cc := HC02.out w9 HE9.out
           clear hb9
           by_cases h3 : kd2 = 3
           ·have HSN2 : Hid (((L.drop (k + 1)).take (i1' - k1)).all (fun q => oneP q && q.kind == 3) = true) := by
             show _ = _
             rw [HI1.out.1, HSN.out, h3]; rfl
            rw [h3] at cc
            clear h3
            go_wp2
            go_roundw
            case rel => exact ⟨i1', rfl, ⟨by have := HI1.out; omega, by have := HI1.out; omega⟩, HSN2.out, HE9.out⟩
            case measure => simp [intOf]; have := HI1.out; omega
           ·have n3 : ¬ (kd2 : Int) = 3 := by omega
            have n3b : ((kd2 : Int) == 3) = false := by simp; omega
            have HF : Hid (goA L = false) := by show _ = _; rw [HG2.out, HBAD.out (by simpa using h3)]; rfl
            go_wp2
            go_ret
            exact ⟨by rw [HC.out, HF.out]; rfl, HE9.out⟩
         ·have hie : i = e := by omega
          have f1 : decide ((i : Int) < (e : Int)) = false := by simp; omega
          have f2 : ¬ (i : Int) < (e : Int) := by omega
          have HG3 : Hid (goA L = goA (L.drop e)) := by
           have h1 := HK1.out
           have h2 := HEE.out
           have h3 := hal.out
           rw [show i - k1 = rn - 1 by omega] at h3
           show _ = _
           rw [HG2.out, if_pos h3, List.drop_drop, show k + 1 + (rn - 1) = e by omega]
          clear hie hil hi hi2 hal c0 c2
          go_wp2
          go_roundw
          case rel => exact ⟨e, rfl, by have := HEE.out; show _ <= _; omega, HG3.out, hbq.out⟩
          case measure => simp [intOf]; have := HEE.out; have := HKN.out; omega
      ·have n2 : ¬ (kd : Int) = 2 := by omega
       have n2d : decide ((kd : Int) = 2) = false := by simp; omega
       have hnp : nP p = 1 := by unfold nP; rw [<- hkd, if_neg h2]
       have b1 : ¬ (1 : Int) > (r : Int) := by have := HKN.out; omega
       have b2 : decide ((1 : Int) > (r : Int)) = false := by simp; have := HKN.out; omega
       rw [hnp, if_neg (by have := HKN.out; omega), Nat.sub_self] at hgo2
       have HG3 : Hid (goA L = goA (L.drop k1)) := by show _ = _; rw [hgo2, hk1]; rfl
       clear hgo2 hkd h3 h2 hnp hpr hk1 hr c2
       go_wp2
       go_loopw [5] (fun vi wq => vi = .int .i64 (k1 : Int) /\ Hid (Below w.heap.size w wq)) (fun vi _ => 0)
       case atStart => exact ⟨rfl, HE1.out⟩
       case round =>
        obtain ⟨rfl, hbq⟩ := hrel
        have f1 : decide ((k1 : Int) < (k1 : Int)) = false := by simp
        clear c0
        go_wp2
        go_roundw
        case rel => exact ⟨k1, rfl, by have h1 := HKN.out; have h2 := HK1.out; show _ <= _; omega, HG3.out, hbq.out⟩
        case measure => simp [intOf]; have h1 := HKN.out; have h2 := HK1.out; omega
   ·have hkn2 : k = n := by omega
    have hd : decide ((k : Int) < (n : Int)) = false := by simp; omega
    have dl : ¬ (k : Int) < (n : Int) := by omega
    have HF : Hid (goA L = true) := by
     show _ = _
     rw [hgo.out, List.drop_eq_nil_of_le (by rw [HN.out]; omega)]; rfl
    clear hkn2 hlt hkn hk hgo
    go_wp2
    go_ret
    exact ⟨by rw [HC.out, HF.out]; rfl, hbel.out⟩
end Go.Proofs.YtpbmjfjnmcpieaaGreat
