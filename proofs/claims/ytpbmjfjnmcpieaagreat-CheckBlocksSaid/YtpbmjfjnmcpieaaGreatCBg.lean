/- Texts ChLa, ChLb, ChLc, ChLd, ChLe, ChLf, Late, ChLg, put together by pack.py. -/
import Derived.Test.YtpbmjfjnmcpieaaGreatCBf
import Derived.Test.YtpbmjfjnmcpieaaGreatCBc
set_option maxRecDepth 100000
set_option maxHeartbeats 16000000
set_option linter.unusedVariables false
set_option linter.unusedSimpArgs false
namespace Go.Proofs.YtpbmjfjnmcpieaaGreat
open Go Go.RowKit
/-- a looker's cells -/
def lkA (x : Nat) (R : List Nat) (pv qv fv av : Value) : Array Value := (mtA x R pv) ++ #[qv, fv, av]
theorem lkA_0 {x : Nat} {R : List Nat} (h : R.length = 16) (pv qv fv av : Value) : (lkA x R pv qv fv av)[0]? = some (.int .u64 (x : Int)) := by
 unfold lkA; rw [Array.getElem?_append_left (by rw [mtA_size]; omega)]; exact mtA_get0 _ _ _
theorem lkA_17 {x : Nat} {R : List Nat} (h : R.length = 16) (pv qv fv av : Value) : (lkA x R pv qv fv av)[17]? = some pv := by
 unfold lkA; rw [Array.getElem?_append_left (by rw [mtA_size]; omega)]; exact mtA_get17 _ _ _ h
theorem lkA_18 {x : Nat} {R : List Nat} (h : R.length = 16) (pv qv fv av : Value) : (lkA x R pv qv fv av)[18]? = some qv := by
 unfold lkA; rw [Array.getElem?_append_right (by rw [mtA_size]; omega), mtA_size, h]; rfl
theorem lkA_19 {x : Nat} {R : List Nat} (h : R.length = 16) (pv qv fv av : Value) : (lkA x R pv qv fv av)[19]? = some fv := by
 unfold lkA; rw [Array.getElem?_append_right (by rw [mtA_size]; omega), mtA_size, h]; rfl
theorem lkA_20 {x : Nat} {R : List Nat} (h : R.length = 16) (pv qv fv av : Value) : (lkA x R pv qv fv av)[20]? = some av := by
 unfold lkA; rw [Array.getElem?_append_right (by rw [mtA_size]; omega), mtA_size, h]; rfl
theorem lkA_set19 {x : Nat} {R : List Nat} (h : R.length = 16) (pv qv fv av u : Value) : (lkA x R pv qv fv av).setIfInBounds 19 u = lkA x R pv qv u av := by
 unfold lkA
 rw [Array.setIfInBounds_append_right (by rw [mtA_size]; omega), mtA_size, h]; rfl
theorem lkA_R {x : Nat} {R : List Nat} (h : R.length = 16) (pv qv fv av : Value) (j : Nat) (u : Value) (hu : (R.map fun (k : Nat) => Value.int .u64 (k : Int))[j]? = some u) : (lkA x R pv qv fv av)[1 + j]? = some u := by
 have hj : j < 16 := by have := (List.getElem?_eq_some_iff.1 hu).1; rw [List.length_map, h] at this; exact this
 unfold lkA; rw [Array.getElem?_append_left (by rw [mtA_size]; omega)]
 unfold mtA
 rw [List.getElem?_toArray, Nat.add_comm, List.getElem?_cons_succ, List.getElem?_append_left (by rw [List.length_map, h]; exact hj)]
 exact hu
theorem pgA_0 {p : Pg} (h : p.kind = 0) : (pgA p)[0]? = some (Value.int .i64 0) := by
 show some (Value.int .i64 ((p.kind : Nat) : Int)) = _; rw [h]; rfl
/-- a looker in memory -/
abbrev LkAt (w : World) (lk x : Nat) (R : List Nat) (pv qv fv av : Value) : Prop := w.heap[lk]? = some (.cells (lkA x R pv qv fv av) 71 (0, 0))
theorem lend_c (lk x : Nat) (R : List Nat) (h16 : R.length = 16) (va : Option Addr) (n pc : Nat) (qv fv av : Value) (P : List Pg) (hn : P.length = n) (hnm : n <= 64) (hz : ∀ p ∈ P, p.kind = 0) (k : Nat) (hk : k < n) (w : World) (h : LkAt w lk x R (.slice va n pc) qv fv av) (hP : PgsAt w va P) :
  Calls Tryz.prog 43 #[.pointer (some ⟨lk, 0, none⟩), .int .i64 (k : Int)] w fun e w' => e = .returned (.int .i64 0) /\ Below w.heap.size w w' := by
 have a1 := (cells_at h 17).trans (lkA_17 h16 _ _ _ _)
 have hkl : k < P.length := by omega
 obtain ⟨p, hp⟩ : ∃ p, p = P[k] := ⟨_, rfl⟩
 have hget : P[k]? = some p := by rw [hp]; exact List.getElem?_eq_getElem hkl
 obtain ⟨g, o, rfl, hg, hcell⟩ := hP k p hget
 have HC : Hid (w.rangeAt g (o + k * 5) (pgA p).toList) := hcell
 have hp0 : p.kind = 0 := hz p (List.mem_of_getElem? hget)
 have dl : (k : Int) < (n : Int) := by omega
 have d0 : ¬ (k : Int) < 0 := by omega
 have HZ : Hid ((w.alloc (.cells #[.int .i64 0, .int .i64 0, .int .i64 0, .int .i64 0, .int .u64 0] 100)).heap[w.heap.size]? = some (.cells (pgA ⟨0, 0, 0, 0, 0⟩) 100 (0, 0))) := heap_new' _ _
 have HE1 : Hid (Below w.heap.size w (w.alloc (.cells #[.int .i64 0, .int .i64 0, .int .i64 0, .int .i64 0, .int .u64 0] 100))) := below_box w _
 have HP0 := Lib.hid hp0
 clear h h16 hn hnm hz hk hP hkl hp hget hg hcell hp0
 go_enter Tryz.func43, Tryz.ntmps43
 go_wp2_with (first
  | (refine wpList_load_mid rfl 100 (.tmp 13) rfl g (o + k * 5) rfl _ _ HC.out Tryz.underlying100 rfl (by rw [page5]; rfl) ?_)
  | (refine wpList_store_row rfl 100 (.tmp 5) (.tmp 14) rfl w.heap.size (pgA p) rfl rfl 100 _ HZ.out (by rw [page5]; rfl) rfl (pgA_one _) ?_; generalize hW1 : World.setRow _ _ _ = w1; have HZ1 : Hid (w1.heap[w.heap.size]? = some (.cells (pgA p) 100 (0, 0))) := (by show _ = _; rw [<- hW1]; exact setRow_heap _ _ _ _ _ _ HZ.out); have HE2 : Hid (Below w.heap.size w w1) := (by rw [<- hW1]; exact below_setRow HE1.out (Nat.le_refl _) _); have c0 := (cells_at HZ1.out 0).trans (show _ = some (Value.int .i64 0) from pgA_0 HP0.out); clear hW1)
  | fail)
 go_ret
 exact ⟨rfl, HE2.out⟩
theorem lfind_c (lk x : Nat) (R : List Nat) (h16 : R.length = 16) (va : Option Addr) (n pc : Nat) (qv fv av : Value) (P : List Pg) (hn : P.length = n) (hnm : n <= 64) (hz : ∀ p ∈ P, p.kind = 0) (w : World) (h : LkAt w lk x R (.slice va n pc) qv fv av) (hP : PgsAt w va P) :
  Calls Tryz.prog 24 #[.pointer (some ⟨lk, 0, none⟩)] w fun e w' => (∃ u, e = .returned u) /\ Below w.heap.size w w' := by
 have a1 := (cells_at h 17).trans (lkA_17 h16 _ _ _ _)
 have HN := Lib.hid hn
 have HNM := Lib.hid hnm
 have HZ0 := Lib.hid hz
 have HR := Lib.hid hP
 clear h hP hn hnm hz h16
 go_enter Tryz.func24, Tryz.ntmps24
 go_wp2
 clear a1
 go_loopw [14] (fun vi wr => ∃ k : Nat, k <= n /\ vi = .int .i64 (k : Int) /\ Hid (Below w.heap.size w wr)) (fun vi _ => n - (intOf vi).toNat)
 case atStart => exact ⟨0, by omega, rfl, Below.refl _ _⟩
 case round =>
  obtain ⟨k, hk, rfl, hbel⟩ := hrel
  by_cases hlt : k < n
  ·have hd : decide ((k : Int) < (n : Int)) = true := by simp; omega
   have dl : (k : Int) < (n : Int) := by omega
   have d0 : ¬ (k : Int) < 0 := by omega
   have hkl : k < P.length := by rw [HN.out]; exact hlt
   have hget := List.getElem?_eq_getElem hkl
   obtain ⟨p, hp⟩ : ∃ p, p = P[k] := ⟨_, rfl⟩
   rw [<- hp] at hget
   obtain ⟨g, o, rfl, hg, hcell⟩ := HR.out k p hget
   have HC : Hid (wr.rangeAt g (o + k * 5) (pgA p).toList) := fun j u hu => (hbel.out.cell (p := ⟨g, o + k * 5 + j, none⟩) hg).trans (hcell j u hu)
   have HP0 := Lib.hid (HZ0.out p (List.mem_of_getElem? hget))
   have HK := Lib.hid hlt
   have ek : IntKind.i64.wrap ((k : Int) + 1) = (k : Int) + 1 := by have := HNM.out; exact IntWalk.i64_in _ (by omega)
   have HZ : Hid ((wr.alloc (.cells #[.int .i64 0, .int .i64 0, .int .i64 0, .int .i64 0, .int .u64 0] 100)).heap[wr.heap.size]? = some (.cells (pgA ⟨0, 0, 0, 0, 0⟩) 100 (0, 0))) := heap_new' _ _
   have HE1 : Hid (Below w.heap.size w (wr.alloc (.cells #[.int .i64 0, .int .i64 0, .int .i64 0, .int .i64 0, .int .u64 0] 100))) := hbel.out.trans ((below_box wr _).mono hbel.out.size)
   clear hget hp hkl hg hcell hk hlt
   go_wp2_with (first
    | (refine wpList_load_mid rfl 100 (.tmp 17) rfl g (o + k * 5) rfl _ _ HC.out Tryz.underlying100 rfl (by rw [page5]; rfl) ?_)
    | (refine wpList_store_row rfl 100 (.tmp 3) (.tmp 18) rfl wr.heap.size (pgA p) rfl rfl 100 _ HZ.out (by rw [page5]; rfl) rfl (pgA_one _) ?_; generalize hW1 : World.setRow _ _ _ = w1; have HZ1 : Hid (w1.heap[wr.heap.size]? = some (.cells (pgA p) 100 (0, 0))) := (by show _ = _; rw [<- hW1]; exact setRow_heap _ _ _ _ _ _ HZ.out); have HE2 : Hid (Below w.heap.size w w1) := (by rw [<- hW1]; exact below_setRow HE1.out hbel.out.size _); have c0 := (cells_at HZ1.out 0).trans (pgA_0 HP0.out); clear hW1)
    | fail)
   go_roundw
   case rel => exact ⟨k + 1, by have := HK.out; omega, by go_num, HE2.out⟩
   case measure => simp [intOf]; have := HK.out; omega
  ·have hd : decide ((k : Int) < (n : Int)) = false := by simp; omega
   have dl : ¬ (k : Int) < (n : Int) := by omega
   go_wp2
   (try simp only [Exit.inBlock, Exit.then]); refine bodyPost_end (results_none rfl _ _ _) rfl ?_
   exact ⟨⟨_, rfl⟩, hbel.out⟩
theorem lserials_c (lk x : Nat) (R : List Nat) (h16 : R.length = 16) (pv qv fv : Value) (w : World) (h : LkAt w lk x R pv qv fv (.slice none 0 0)) :
  Calls Tryz.prog 25 #[.pointer (some ⟨lk, 0, none⟩)] w fun e w' => (∃ u, e = .returned u) /\ Below w.heap.size w w' := by
 have a1 := (cells_at h 20).trans (lkA_20 h16 _ _ _ _)
 clear h h16
 go_enter Tryz.func25, Tryz.ntmps25
 go_wp2
 clear a1
 go_loopw [10] (fun vi wr => vi = .int .i64 0 /\ Hid (Below w.heap.size w wr)) (fun vi _ => 0)
 case atStart => exact ⟨rfl, Below.refl _ _⟩
 case round =>
  obtain ⟨rfl, hbel⟩ := hrel
  go_wp2
  (try simp only [Exit.inBlock, Exit.then]); refine bodyPost_end (results_none rfl _ _ _) rfl ?_
  exact ⟨⟨_, rfl⟩, hbel.out⟩
structure Ft where
 k : Int
 a : Int
def ftA (f : Ft) : Array Value := #[.int .i64 f.k, .int .i64 f.a]
theorem ftA_one (f : Ft) : (ftA f).all (·.oneCell') = true := by simp [ftA, Value.oneCell']
def FtsAt (w : World) (a : Option Addr) (L : List Ft) : Prop := ∀ (i : Nat) (p : Ft), L[i]? = some p -> ∃ g o, a = some ⟨g, o, none⟩ /\ g < w.heap.size /\ w.rangeAt g (o + i * 2) (ftA p).toList
theorem FtsAt.up {w w' : World} {a : Option Addr} {L : List Ft} (h : FtsAt w a L) {B : Nat} (hb : Below B w w') (hB : w.heap.size <= B) : FtsAt w' a L := by
 intro i p hp
 obtain ⟨g, o, h1, h2, h3⟩ := h i p hp
 exact ⟨g, o, h1, Nat.lt_of_lt_of_le h2 hb.size, fun j u hu => (hb.cell (p := ⟨g, o + i * 2 + j, none⟩) (Nat.lt_of_lt_of_le h2 hB)).trans (h3 j u hu)⟩
def rowF (p : Ft) : List Value := (ftA p).toList
def cellsF (L : List Ft) : List Value := L.flatMap rowF
theorem rowF_len (p : Ft) : (rowF p).length = 2 := rfl
theorem cellsF_len (L : List Ft) : (cellsF L).length = L.length * 2 := by
 induction L with
 | nil => rfl
 | cons x xs ih => unfold cellsF at *; rw [List.flatMap_cons, List.length_append, ih, rowF_len, List.length_cons]; omega
theorem cellsF_app (L M : List Ft) : cellsF (L ++ M) = cellsF L ++ cellsF M := by unfold cellsF; rw [List.flatMap_append]
theorem cellsF_get : ∀ (L : List Ft) (i j : Nat) (p : Ft), L[i]? = some p -> j < 2 -> (cellsF L)[i * 2 + j]? = (rowF p)[j]?
 | [], i, j, p, h, hj => by cases h
 | x :: xs, 0, j, p, h, hj => by
  have hx : x = p := by simpa using h
  subst hx
  show (rowF x ++ cellsF xs)[0 * 2 + j]? = _
  rw [Nat.zero_mul, Nat.zero_add, List.getElem?_append_left (by rw [rowF_len]; exact hj)]
 | x :: xs, i + 1, j, p, h, hj => by
  show (rowF x ++ cellsF xs)[(i + 1) * 2 + j]? = _
  rw [List.getElem?_append_right (by rw [rowF_len]; omega), rowF_len, show (i + 1) * 2 + j - 2 = i * 2 + j by omega]
  exact cellsF_get xs i j p (by simpa using h) hj
theorem cellsF_oneCell (L : List Ft) : ∀ v ∈ cellsF L, v.oneCell' = true := by
 intro v hv
 unfold cellsF at hv
 obtain ⟨p, _, hp⟩ := List.mem_flatMap.1 hv
 have := ftA_one p
 rw [<- Array.all_toList, List.all_eq_true] at this
 exact this v hp
theorem ftinfo : (Tryz.prog.info? 67).map (fun i => (i.zero, i.size, i.bytes)) = some (some (.agg (ftA ⟨0, 0⟩))  , 2, 16) := by kernel_rfl
theorem fts_of_own {w : World} {base n : Nat} {a : Option Addr} {c : Nat} {L : List Ft} (hown : w.ownsRow base 67 2 (.slice a n c) n (cellsF L)) : FtsAt w a L := by
 intro i p hp
 have hi : i < L.length := (List.getElem?_eq_some_iff.1 hp).1
 have hn : n = L.length := by have := hown.1; rw [cellsF_len] at this; omega
 rcases hown.2 with ⟨h3, h4⟩ | ⟨g, cap, cur, h3, h4, h5, h6⟩
 ·omega
 ·cases h3
  refine ⟨g, 0, rfl, lt_of_block h5, fun j u hu => ?_⟩
  have hj : j < 2 := by have := (List.getElem?_eq_some_iff.1 hu).1; simpa [ftA] using this
  rw [Nat.zero_add, hown.cellAt (i * 2 + j) (by omega), cellsF_get L i j p hp hj]
  exact hu
theorem fts_cells {w : World} {g o m : Nat} {M : List Ft} (h : FtsAt w (some ⟨g, o, none⟩) M) : ∀ j u, (cellsF M)[j]? = some u -> w.cell? ⟨g, o + j, none⟩ = some u := by
 intro j u hu
 have hj : j < M.length * 2 := by have := (List.getElem?_eq_some_iff.1 hu).1; rwa [cellsF_len] at this
 have hq : j / 2 < M.length := by omega
 obtain ⟨g', o', e1, _, h3⟩ := h (j / 2) M[j / 2] (List.getElem?_eq_getElem hq)
 cases e1
 have e : j / 2 * 2 + j % 2 = j := by omega
 have h4 := cellsF_get M (j / 2) (j % 2) _ (List.getElem?_eq_getElem hq) (by omega)
 rw [e, hu] at h4
 have h5 := h3 (j % 2) u h4.symm
 rw [Nat.add_assoc, e] at h5
 exact h5
/-- append of pages -/
theorem run_append_fts {w : World} (ty : TypeId) {base n : Nat} {v : Value} {L : List Ft} (hA : w.ownsRow base 67 2 v n (cellsF L)) {a : Option Addr} {m cap : Nat} {M : List Ft} (hm : M.length = m) (hM : FtsAt w a M) (hnil : a = none -> m = 0 /\ cap = 0) (hpl : ∀ p, a = some p -> p.spot = none) (h63 : n + m <= 1000000) (hbase : base <= w.heap.size) :
  ∃ v' w', (Builtin.append_ #[37, 37] ty #[v, .slice a m cap]).run Tryz.prog w = .ok v' w' /\ w'.ownsRow base 67 2 v' (n + m) (cellsF (L ++ M)) /\ w.grownBy w' v.ownBlock := by
 obtain ⟨i0, hi, h⟩ := Option.map_eq_some_iff.1 ftinfo
 simp only [Prod.mk.injEq] at h
 cases a with
 | none =>
  obtain ⟨rfl, rfl⟩ := hnil rfl
  have hl : M = [] := List.length_eq_zero_iff.1 hm
  subst hl
  refine ⟨v, w, run_append_owned_none w base 37 ty 67 i0 2 Tryz.underlying37 hi v n _ hA, ?_, World.grownBy.refl w _⟩
  simpa using hA
 | some ad =>
  obtain ⟨g, o, sp⟩ := ad
  have hsp : sp = none := hpl _ rfl
  subst hsp
  obtain ⟨v', w', h4, h5, h6, _⟩ := run_append_own_at (P := Tryz.prog) w base 37 ty 67 i0 _ 2 16 Tryz.underlying37 hi h.1 h.2.1 h.2.2 rfl (by omega) v n (cellsF L) hA ⟨g, o, none⟩ m cap (cellsF M) (by rw [cellsF_len, hm])
   (fun j u hu => by rw [add_plain]; exact fts_cells (m := m) hM j u hu) (cellsF_oneCell M) (by unfold maxLen; omega) (by omega) hbase
  exact ⟨v', w', h4, by rw [cellsF_app]; exact h5, h6⟩
theorem wpList_append_fts {w : World} {ops : Array Oper} {rest : List Oper} {o : Oper} {A : Act} {Q : Exit -> Act -> World -> Prop} (hgd : o.guard = none) (s x : Operand)
  (ho : o.op = .call { callee := .builtin .append, args := #[s, x], argTypes := #[37, 37] }) {base n : Nat} {v : Value} {L : List Ft} (hs : A.eval s = v) (hA : w.ownsRow base 67 2 v n (cellsF L))
  {a : Option Addr} {m cap : Nat} {M : List Ft} (hx : A.eval x = .slice a m cap) (hm : M.length = m) (hM : FtsAt w a M) (hnil : a = none -> m = 0 /\ cap = 0) (hpl : ∀ p, a = some p -> p.spot = none) (h63 : n + m <= 1000000) (hbase : base <= w.heap.size)
  (h : ∀ v' w', w'.ownsRow base 67 2 v' (n + m) (cellsF (L ++ M)) -> w.grownBy w' v.ownBlock -> wpList Tryz.prog ops Q rest (A.put o.dst v') w') : wpList Tryz.prog ops Q (o :: rest) A w :=
 wpList_plain hgd fun _ hK => by
  obtain ⟨v', w', h1, h2, h3⟩ := run_append_fts o.type hA hm hM hnil hpl h63 hbase
  unfold Oper.wp execOp
  simp only [ho, resolve, invoke, builtin, Sem.run_bind, Sem.run_pure, Result.andThen_ok, List.map_toArray, List.map_cons, List.map_nil, hs, hx, h1]
  exact hK _ _ (h v' w' h2 h3)
theorem fillF_any (p : Ft) (B : Array Value) (hB : B.size = 2) : Instr.fill (fun i => some (i * 2, 2)) B [(0, .agg (ftA p))] = some (ftA p) := by
 obtain ⟨l⟩ := B
 match l, hB with
 | [b0, b1], _ =>
  unfold Instr.fill
  simp only [Value.cells, ftA, Nat.zero_mul]
  simp [Instr.fill]
theorem wpList_build_ft {w : World} {ops : Array Oper} {rest : List Oper} {o : Oper} {A : Act} {Q : Exit -> Act -> World -> Prop} (hgd : o.guard = none) (x : Operand) (ho : o.op = .buildSlice 37 1 #[(0, x)])
  {p : Ft} (hx : A.eval x = .agg (ftA p)) (h : wpList Tryz.prog ops Q rest (A.put o.dst (.slice (some ⟨w.heap.size, 0, none⟩) 1 1)) (w.alloc (.cells (ftA p) 67))) : wpList Tryz.prog ops Q (o :: rest) A w := by
 obtain ⟨i0, hi, hh⟩ := Option.map_eq_some_iff.1 ftinfo
 simp only [Prod.mk.injEq] at hh
 refine wpList_buildSlice hgd 37 67 1 _ ho (ftA p) i0 _ Tryz.underlying37 hi hh.1 (by rw [hh.2.1]; decide) (by rw [hh.2.1]; decide) ?_ h
 rw [hh.2.1]
 rw [show (Array.map (fun x : Nat × Operand => match x with | (i, x) => (i, A.eval x)) #[(0, x)]).toList = [(0, A.eval x)] by simp, hx]
 exact fillF_any p _ (by simp [ftA, Value.cells])
theorem fts_blk {w : World} {g : Nat} {p : Ft} {t : TypeId} {z : Nat × Nat} (h : w.heap[g]? = some (.cells (ftA p) t z)) : FtsAt w (some ⟨g, 0, none⟩) [p] := by
 intro i q hq
 have hi : i = 0 := by have := (List.getElem?_eq_some_iff.1 hq).1; simpa using this
 subst hi
 have hpq : p = q := by simpa using hq
 subst hpq
 refine ⟨g, 0, rfl, lt_of_block h, fun j u hu => ?_⟩
 rw [Nat.zero_mul, Nat.zero_add, cells_at h j, <- hu, Array.getElem?_toList]
theorem setCell_other (w : World) (b o : Nat) (v : Value) {q : Nat} (h : q ≠ b) : (w.setCell ⟨b, o, none⟩ v).heap[q]? = w.heap[q]? := by
 simp [World.setCell, Array.getElem?_modify, Ne.symm h]
theorem lwrong_c (B lk x : Nat) (hB : lk < B) (R : List Nat) (h16 : R.length = 16) (pv qv fv av : Value) (n : Nat) (F : List Ft) (hn : n <= 2000) (kd ix : Int) (w : World) (h : LkAt w lk x R pv qv fv av) (hBw : B <= w.heap.size) (hown : w.ownsRow B 67 2 fv n (cellsF F)) :
  Calls Tryz.prog 45 #[.pointer (some ⟨lk, 0, none⟩), .int .i64 kd, .int .i64 ix] w fun e w' => (∃ u, e = .returned u) /\ ∃ fv', LkAt w' lk x R pv qv fv' av /\ w'.ownsRow B 67 2 fv' (n + 1) (cellsF (F ++ [⟨kd, ix⟩])) /\ Below lk w w' /\ ∀ q, q < w.heap.size -> q ≠ lk -> fv.ownBlock ≠ some q -> w'.heap[q]? = w.heap[q]? := by
 have a1 := (cells_at h 19).trans (lkA_19 h16 _ _ _ _)
 have hlt := lt_of_block h
 obtain ⟨w1, hw1⟩ : ∃ w1, w1 = w.alloc (.cells (ftA ⟨kd, ix⟩) 67) := ⟨_, rfl⟩
 have hb1 : Below w.heap.size w w1 := by rw [hw1]; exact below_box _ _
 have HG : Hid (LkAt w1 lk x R pv qv fv av) := (hb1.block _ hlt).trans h
 have HO : Hid (w1.ownsRow B 67 2 fv n (cellsF F)) := own_up hown hb1
 have HF : Hid (FtsAt w1 (some ⟨w.heap.size, 0, none⟩) [⟨kd, ix⟩]) := by rw [hw1]; exact fts_blk (heap_new' _ _)
 have HE : Hid (Below lk w w1) := hb1.mono (by omega)
 have HS : Hid (B <= w1.heap.size) := Nat.le_trans hBw hb1.size
 have HQ1 : Hid (∀ q, q < w.heap.size -> w1.heap[q]? = w.heap[q]?) := fun q hq => hb1.block q hq
 have HSZ : Hid (w.heap.size <= w1.heap.size) := hb1.size
 have HLB := Lib.hid hB
 have HN := Lib.hid hn
 have H16 := Lib.hid h16
 have HBK : Hid (∀ k, fv.ownBlock = some k -> B <= k) := fun k hk => own_base hown k hk
 clear h hown hlt hb1 hn h16 hB hBw
 go_enter Tryz.func45, Tryz.ntmps45
 go_wp2_with (first
  | (refine wpList_build_ft (p := ⟨kd, ix⟩) rfl (.tmp 13) rfl rfl ?_; rw [<- hw1])
  | (refine wpList_append_fts (v := fv) (base := B) (n := n) (L := F) rfl (.tmp 10) (.tmp 14) rfl rfl HO.out rfl (M := [⟨kd, ix⟩]) rfl HF.out (fun h => by cases h) (fun p hp => by cases hp; rfl) (by have := HN.out; omega) HS.out ?_; intro v2 w2 hown2 hgrow2; obtain ⟨va2, vc2, rfl⟩ := own_sliceR hown2; have HL2 : Hid (LkAt w2 lk x R pv qv fv av) := (hgrow2.block _ (lt_of_block HG.out) (fun e => by have := HBK.out _ e.symm; have := HLB.out; omega)).trans HG.out; have HO2 := Lib.hid hown2; have HE2 : Hid (Below lk w w2) := HE.out.grown hgrow2 (by have := HS.out; have := HLB.out; omega) (fun k hk => by have := HBK.out k hk; have := HLB.out; omega); have HQ2 : Hid (∀ q, q < w.heap.size -> fv.ownBlock ≠ some q -> w2.heap[q]? = w.heap[q]?) := fun q hq hqo => (hgrow2.block q (by have := HSZ.out; omega) (fun e => hqo e.symm)).trans (HQ1.out q hq); have f2 := free_at HL2.out 19; have a2 := (cells_at HL2.out 19).trans (lkA_19 H16.out _ _ _ _); clear hown2 hgrow2)
  | fail)
 refine bodyPost_end (results_none rfl _ _ _) rfl ?_
 have hb := block_at HL2.out 19 (.slice va2 (n + 1) vc2)
 rw [lkA_set19 H16.out] at hb
 exact ⟨⟨_, rfl⟩, _, hb, ownsRow_setCell_below HO2.out HLB.out _, HE2.out.setCell (Nat.le_refl _) _, fun q hq hql hqo => (setCell_other _ _ _ _ hql).trans (HQ2.out q hq hqo)⟩
theorem zres : hRes (hOK 0) (hPage 0) (hSlot 0) (hSer 0) = .tuple #[.agg (plA 0 0 0), .bool false] := by
 rw [show hOK 0 = false by decide]; rfl
theorem lroots_c (lk x : Nat) (pv qv fv av : Value) (w : World) (h : LkAt w lk x zeroR pv qv fv av) :
  Calls Tryz.prog 26 #[.pointer (some ⟨lk, 0, none⟩)] w fun e w' => (∃ u, e = .returned u) /\ Below w.heap.size w w' := by
 have HC : Hid (w.rangeAt lk 1 (zeroR.map fun (k : Nat) => Value.int .u64 (k : Int))) := fun j u hu => (cells_at h (1 + j)).trans (lkA_R rfl _ _ _ _ j u hu)
 clear h
 have HPL := Lib.hid (hplace_c 0 (by omega))
 rw [zres] at HPL
 go_enter Tryz.func26, Tryz.ntmps26
 go_wp2_with (first
  | (refine wpList_load_mid rfl 58 (.tmp 10) rfl lk 1 rfl _ _ HC.out Tryz.underlying58 rfl (by kernel_rfl) ?_)
  | fail)
 clear HC
 go_loopw [12] (fun vi wr => ∃ k : Nat, k <= 16 /\ vi = .int .i64 (k : Int) /\ Hid (Below w.heap.size w wr)) (fun vi _ => 16 - (intOf vi).toNat)
 case atStart => exact ⟨0, by omega, rfl, Below.refl _ _⟩
 case round =>
  obtain ⟨k, hk, rfl, hbel⟩ := hrel
  by_cases hlt : k < 16
  ·have hd : decide ((k : Int) < 16) = true := by simp; omega
   have dl : (k : Int) < 16 := by omega
   have d0 : ¬ (k : Int) < 0 := by omega
   have hidx : ∀ w, (Instr.index 58 (.agg (zeroR.map fun (n : Nat) => Value.int .u64 (n : Int)).toArray) (.int .i64 (k : Int))).run Tryz.prog w = .ok (.int .u64 0) w := fun w => by
    have h := index_H zeroR rfl k hlt w
    rw [show zeroR.getD k 0 = 0 by unfold zeroR; rw [List.getD_eq_getElem?_getD, List.getElem?_replicate, if_pos hlt]; rfl] at h
    exact h
   have HK := Lib.hid hlt
   have ek : IntKind.i64.wrap ((k : Int) + 1) = (k : Int) + 1 := IntWalk.i64_in _ (by omega)
   clear hlt hk
   go_wp2_with fail
   refine (HPL.out wr).mono ?_
   rintro e w1 ⟨rfl, hb1⟩
   have HE1 : Hid (Below w.heap.size w w1) := hbel.out.trans (hb1.mono hbel.out.size)
   have HZ : Hid ((w1.alloc (.cells #[.int .i64 0, .int .i64 0, .int .u64 0] 106)).heap[w1.heap.size]? = some (.cells (plA 0 0 0) 106 (0, 0))) := heap_new' _ _
   have HE2 : Hid (Below w.heap.size w (w1.alloc (.cells #[.int .i64 0, .int .i64 0, .int .u64 0] 106))) := HE1.out.trans ((below_box w1 _).mono HE1.out.size)
   clear hb1 hbel hidx
   go_wp2_with (first
    | (refine wpList_store_row rfl 106 (.tmp 4) (.tmp 19) rfl w1.heap.size (plA 0 0 0) rfl rfl 106 _ HZ.out (by rw [place3]; rfl) rfl (plA_one _ _ _) ?_; generalize hW1 : World.setRow _ _ _ = w2; have HE3 : Hid (Below w.heap.size w w2) := (by rw [<- hW1]; exact below_setRow HE2.out HE1.out.size _); clear hW1)
    | fail)
   go_quiet (fail)
   go_wp2
   go_roundw
   case rel => exact ⟨k + 1, by have := HK.out; omega, by go_num, below_drewG HE3.out _⟩
   case measure => simp [intOf]; have := HK.out; omega
  ·have hd : decide ((k : Int) < 16) = false := by simp; omega
   have dl : ¬ (k : Int) < 16 := by omega
   go_wp2
   refine bodyPost_end (results_none rfl _ _ _) rfl ?_
   exact ⟨⟨_, rfl⟩, hbel.out⟩
/-- the traces in the first k blocks -/
def trK (L : List (List Nat)) : Nat -> List Ft
 | 0 => []
 | k + 1 => trK L k ++ (if zeroB (L.getD k []) then [] else [⟨5, k⟩])
theorem trK_len (L : List (List Nat)) : ∀ k, (trK L k).length <= k
 | 0 => Nat.le_refl _
 | k + 1 => by
  have := trK_len L k
  unfold trK
  rw [List.length_append]
  split
  ·simp; omega
  ·simp; omega
theorem lbytes_c2 (lk x : Nat) (R : List Nat) (h16 : R.length = 16) (va : Option Addr) (n pc : Nat) (qa : Option Addr) (qc : Nat) (av : Value) (P : List Pg) (hn : P.length = n) (hnm : n <= 64) (hz : ∀ p ∈ P, p.kind = 0) (L : List (List Nat)) (hL : L.length = n) (h256 : ∀ l ∈ L, l.length = 256) (w : World) (h : LkAt w lk x R (.slice va n pc) (.slice qa n qc) (.slice none 0 0) av) (hP : ∀ w', Below lk w w' -> PgsAt w' va P) (hQ : ∀ w', Below lk w w' -> RowsAt w' qa L) :
  Calls Tryz.prog 23 #[.pointer (some ⟨lk, 0, none⟩)] w fun e w' => (∃ u, e = .returned u) /\ ∃ fv, LkAt w' lk x R (.slice va n pc) (.slice qa n qc) fv av /\ w'.ownsRow w.heap.size 67 2 fv (trK L n).length (cellsF (trK L n)) /\ Below lk w w' /\ ∀ q, q < w.heap.size -> q ≠ lk -> w'.heap[q]? = w.heap[q]? := by
 have a1 := (cells_at h 18).trans (lkA_18 h16 _ _ _ _)
 have HL0 := Lib.hid h
 have HLS : Hid (lk < w.heap.size) := lt_of_block h
 have HNM := Lib.hid hnm
 have HLN := Lib.hid hL
 have H16 := Lib.hid h16
 have H256 := Lib.hid h256
 have HQ := Lib.hid hQ
 have HEND : Hid (∀ k, k < n -> ∀ w' fv, Below lk w w' -> LkAt w' lk x R (.slice va n pc) (.slice qa n qc) fv av -> Calls Tryz.prog 43 #[.pointer (some ⟨lk, 0, none⟩), .int .i64 (k : Int)] w' fun e w'' => e = .returned (.int .i64 0) /\ Below w'.heap.size w' w'') := fun k hk w' fv hb h' =>
  lend_c lk x R h16 va n pc _ fv av P hn hnm hz k hk w' h' (hP w' hb)
 clear h h16 hn hnm hz hL h256 hP hQ
 go_enter Tryz.func23, Tryz.ntmps23
 go_wp2
 clear a1
 go_loopw [10] (fun vi wr => ∃ k : Nat, k <= n /\ vi = .int .i64 (k : Int) /\ ∃ fv, Hid (LkAt wr lk x R (.slice va n pc) (.slice qa n qc) fv av) /\ Hid (wr.ownsRow w.heap.size 67 2 fv (trK L k).length (cellsF (trK L k))) /\ Hid (Below lk w wr) /\ Hid (w.heap.size <= wr.heap.size) /\ Hid (∀ q, q < w.heap.size -> q ≠ lk -> wr.heap[q]? = w.heap[q]?)) (fun vi _ => n - (intOf vi).toNat)
 case atStart => exact ⟨0, by omega, rfl, _, HL0.out, World.ownsRow_nil _ _ _ _, Below.refl _ _, Nat.le_refl _, fun _ _ _ => rfl⟩
 case round =>
  obtain ⟨k, hk, rfl, fv, hlk, hown, hbel, hsz, hsv⟩ := hrel
  by_cases hlt : k < n
  ·have hd : decide ((k : Int) < (n : Int)) = true := by simp; omega
   have dl : (k : Int) < (n : Int) := by omega
   have d0 : ¬ (k : Int) < 0 := by omega
   have hkl : k < L.length := by rw [HLN.out]; exact hlt
   obtain ⟨b, hb⟩ : ∃ b, b = L[k] := ⟨_, rfl⟩
   have hget : L[k]? = some b := by rw [hb]; exact List.getElem?_eq_getElem hkl
   have hbl : b.length = 256 := H256.out _ (List.mem_of_getElem? hget)
   obtain ⟨g, o, v, rfl, hg, hc0, hs0⟩ := HQ.out wr hbel.out k b hget
   obtain ⟨a0, c0, rfl, hbb, hn0, hlc, hcm⟩ := hs0
   obtain ⟨gk, ok, rfl, _, hgk, _⟩ := hbb.2 (by rw [hbl]; omega)
   have hTR : trK L (k + 1) = trK L k ++ (if zeroB b then [] else [⟨5, k⟩]) := by
    show trK L k ++ (if zeroB (L.getD k []) then [] else [⟨5, k⟩]) = _
    rw [List.getD_eq_getElem?_getD, hget]; rfl
   have HTR := Lib.hid hTR
   have HE := Lib.hid (HEND.out k hlt wr fv hbel.out hlk.out)
   have HBY : Hid (∀ w', Below wr.heap.size wr w' -> BytesAt w' (some ⟨gk, subO ok c0 0, none⟩) (c0 - 0) b) := fun w' hw => by
    obtain ⟨g', o', v', e1, _, hc2, hs2⟩ := HQ.out w' (hbel.out.trans (hw.mono (by have := hsz.out; have := HLS.out; omega))) k b hget
    cases e1
    have hcell := (hw.cell (p := ⟨g, o + k, none⟩) hg).trans hc0
    rw [hcell] at hc2
    obtain ⟨a9, c9, e9, hb9, _⟩ := hs2
    rw [Option.some.inj hc2.symm] at e9
    cases e9
    have := hb9.sub (lo := 0) (hi := b.length) (by omega) (by omega)
    simp only [List.drop_zero, Nat.sub_zero, List.take_length] at this ⊢
    exact this
   have hsl : ∀ w : World, (Instr.sliceAt 47 (.slice (some ⟨gk, ok, none⟩) 256 c0) (some (.int .i64 0)) none none).run Tryz.prog w = .ok (.slice (some ⟨gk, subO ok c0 0, none⟩) 256 (c0 - 0)) w := fun w => run_subF gk ok 256 c0 0 (by omega) w
   have HBL := Lib.hid hbl
   have HK := Lib.hid hlt
   have HLEN := Lib.hid (trK_len L k)
   have ek : IntKind.i64.wrap ((k : Int) + 1) = (k : Int) + 1 := by have := HNM.out; exact IntWalk.i64_in _ (by omega)
   rw [hbl] at hc0
   clear hb hget hkl hbl hg hbb hn0 hlc hcm hgk hTR hlt hk
   go_wp2_with fail
   refine HE.out.mono ?_
   rintro e w1 ⟨rfl, hb1⟩
   have HL1 : Hid (LkAt w1 lk x R (.slice va n pc) (.slice (some ⟨g, o, none⟩) n qc) fv av) := (hb1.block _ (lt_of_block hlk.out)).trans hlk.out
   have HO1 := Lib.hid (own_up hown.out hb1)
   have HE1 : Hid (Below lk w w1) := hbel.out.trans (hb1.mono (by have := hsz.out; have := HLS.out; omega))
   have HV1 : Hid (∀ q, q < w.heap.size -> q ≠ lk -> w1.heap[q]? = w.heap[q]?) := fun q hq hql => (hb1.block q (by have := hsz.out; omega)).trans (hsv.out q hq hql)
   have HS1 : Hid (w.heap.size <= w1.heap.size) := Nat.le_trans hsz.out hb1.size
   have HZC := Lib.hid (zero_c (some ⟨gk, subO ok c0 0, none⟩) 256 (c0 - 0) b HBL.out (by omega) w1 (HBY.out w1 hb1))
   clear hb1 hlk hown hbel hsv hsz HE hc0 HBY
   obtain ⟨z, hz⟩ : ∃ z, z = zeroB b := ⟨_, rfl⟩
   rw [<- hz] at HZC HTR
   clear hz
   go_wp2_with fail
   refine HZC.out.mono ?_
   rintro e w2 ⟨rfl, rfl⟩
   cases z with
   | true =>
    have hTR := HTR.out
    rw [if_pos rfl, List.append_nil] at hTR
    have HT2 := Lib.hid hTR
    clear hTR HTR
    go_wp2
    go_roundw
    case rel => exact ⟨k + 1, by have := HK.out; omega, by go_num, fv, HL1.out, by rw [HT2.out]; exact HO1.out, HE1.out, HS1.out, HV1.out⟩
    case measure => simp [intOf]; have := HK.out; omega
   | false =>
    have hTR := HTR.out
    rw [if_neg (by simp)] at hTR
    have HT2 := Lib.hid hTR
    have HWR := Lib.hid (lwrong_c w.heap.size lk x HLS.out R H16.out _ _ fv av (trK L k).length (trK L k) (by have := HLEN.out; have := HNM.out; have := HK.out; omega) 5 (k : Int) w1 HL1.out HS1.out HO1.out)
    clear hTR HTR
    go_wp2_with fail
    refine HWR.out.mono ?_
    rintro e w3 ⟨⟨u, rfl⟩, fv3, hl3, ho3, hb3, hq3⟩
    have HL3 := Lib.hid hl3
    have HO3 := Lib.hid ho3
    have HE3 : Hid (Below lk w w3) := HE1.out.trans hb3
    have HS3 : Hid (w.heap.size <= w3.heap.size) := Nat.le_trans HS1.out hb3.size
    have HV3 : Hid (∀ q, q < w.heap.size -> q ≠ lk -> w3.heap[q]? = w.heap[q]?) := fun q hq hql => (hq3 q (Nat.lt_of_lt_of_le hq HS1.out) hql (fun e => by have := own_base HO1.out q e; omega)).trans (HV1.out q hq hql)
    clear hl3 ho3 hb3 hq3
    go_wp2
    go_roundw
    case rel => exact ⟨k + 1, by have := HK.out; omega, by go_num, fv3, HL3.out, by rw [HT2.out, List.length_append]; exact HO3.out, HE3.out, HS3.out, HV3.out⟩
    case measure => simp [intOf]; have := HK.out; omega
  ·have hd : decide ((k : Int) < (n : Int)) = false := by simp; omega
   have dl : ¬ (k : Int) < (n : Int) := by omega
   have hkn : k = n := by omega
   subst hkn
   go_wp2
   refine bodyPost_end (results_none rfl _ _ _) rfl ?_
   exact ⟨⟨_, rfl⟩, fv, hlk.out, hown.out, hbel.out, hsv.out⟩
theorem blk1_c (a : Option Addr) (n cap : Nat) (w : World) :
  Calls Tryz.prog 17 #[.slice a n cap] w fun e w' => e = .returned (.bool (!(n == 256))) /\ w = w' := by
 by_cases h : n = 256
 ·subst h
  go_enter Tryz.func17, Tryz.ntmps17
  go_wp2
  go_ret
  exact ⟨by first | rfl | simp, rfl⟩
 ·have h1 : (n == 256) = false := by simp [h]
  have h2 : ((n : Int) == 256) = false := by simp; omega
  rw [h1]
  go_enter Tryz.func17, Tryz.ntmps17
  go_wp2
  go_ret
  exact ⟨by first | rfl | (rw [h2]; rfl) | (simp [h2]; done) | (simp; omega), rfl⟩
theorem ix_long_c (a : Option Addr) (n cap : Nat) (L : List (List Nat)) (hn : L.length = n) (hnm : n <= 1000000)  (w : World) (hR : RowsAt w a L) :
  Calls Tryz.prog 35 #[.slice a n cap, .func (.func 17) #[] #[]] w fun e w' => (∃ r : Int, e = .returned (.int .i64 r) /\ decide (r >= 0) = L.any (fun l => !(l.length == 256))) /\ Below w.heap.size w w' := by
 have HR := Lib.hid hR
 have HN := Lib.hid hn
 have HNM := Lib.hid hnm
 clear hR hn hnm
 go_enter Tryz.func35, Tryz.ntmps35
 go_wp2
 go_loopw [8] (fun vi wr => ∃ k : Nat, k <= n /\ vi = .int .i64 (k : Int) /\ Hid ((L.take k).any (fun l => !(l.length == 256)) = false) /\ Hid (Below w.heap.size w wr)) (fun vi _ => n - (intOf vi).toNat)
 case atStart => exact ⟨0, by omega, rfl, rfl, Below.refl _ _⟩
 case round =>
  obtain ⟨k, hk, rfl, hall, hbel⟩ := hrel
  by_cases hlt : k < n
  ·have hd : decide ((k : Int) < (n : Int)) = true := by simp; omega
   have dl : (k : Int) < (n : Int) := by omega
   have d0 : ¬ (k : Int) < 0 := by omega
   have hkl : k < L.length := by rw [HN.out]; exact hlt
   have hget := List.getElem?_eq_getElem hkl
   obtain ⟨p, hp⟩ : ∃ p, p = L[k] := ⟨_, rfl⟩
   rw [<- hp] at hget
   obtain ⟨g, o, v0, rfl, hg, hcell, hs⟩ := HR.out k p hget
   obtain ⟨a0, c0, rfl, _⟩ := hs
   have hc0 := (hbel.out.cell (p := ⟨g, o + k, none⟩) hg).trans hcell
   have HG := Lib.hid hget
   have HK := Lib.hid hlt
   have ek : IntKind.i64.wrap ((k : Int) + 1) = (k : Int) + 1 := by have := HNM.out; exact IntWalk.i64_in _ (by omega)
   have HB := Lib.hid (blk1_c a0 p.length c0 wr)
   clear hget hp hkl hg hcell hk hlt
   cases ht : (fun l => !(l.length == 256)) p with
   | false =>
    have HT : Hid ((L.take (k + 1)).any (fun l => !(l.length == 256)) = false) := any_snoc L _ k p HG.out hall.out ht
    simp only [] at ht
    rw [ht] at HB
    obtain ⟨m9, hm9⟩ : ∃ m9, m9 = p.length := ⟨_, rfl⟩
    rw [<- hm9] at HB hc0
    clear hm9
    clear ht hall
    go_wp2_with fail
    refine HB.out.mono ?_
    rintro e w1 ⟨rfl, rfl⟩
    have HE1 : Hid (Below w.heap.size w wr) := hbel.out
    clear hbel
    go_wp2
    go_roundw
    case rel => exact ⟨k + 1, by have := HK.out; omega, by go_num, HT.out, HE1.out⟩
    case measure => simp [intOf]; have := HK.out; omega
   | true =>
    have HT : Hid (L.any (fun l => !(l.length == 256)) = true) := any_at L _ k p HG.out ht
    simp only [] at ht
    rw [ht] at HB
    obtain ⟨m9, hm9⟩ : ∃ m9, m9 = p.length := ⟨_, rfl⟩
    rw [<- hm9] at HB hc0
    clear hm9
    clear ht hall
    go_wp2_with fail
    refine HB.out.mono ?_
    rintro e w1 ⟨rfl, rfl⟩
    have HE1 : Hid (Below w.heap.size w wr) := hbel.out
    clear hbel
    go_wp2
    go_ret
    exact ⟨⟨_, rfl, by rw [HT.out]; simp⟩, HE1.out⟩
  ·have hkn : k = n := by omega
   have hd : decide ((k : Int) < (n : Int)) = false := by simp; omega
   have dl : ¬ (k : Int) < (n : Int) := by omega
   have HT : Hid (L.any (fun l => !(l.length == 256)) = false) := by
    have h := hall.out
    rw [List.take_of_length_le (by rw [HN.out]; omega)] at h; exact h
   clear hall hkn hk hlt
   go_wp2
   go_ret
   exact ⟨⟨_, rfl, by rw [HT.out]; decide⟩, hbel.out⟩
theorem cf_long_c (a : Option Addr) (n cap : Nat) (L : List (List Nat)) (hn : L.length = n) (hnm : n <= 1000000)  (w : World) (hR : RowsAt w a L) :
  Calls Tryz.prog 20 #[.slice a n cap, .func (.func 17) #[] #[]] w fun e w' => e = .returned (.bool (L.any (fun l => !(l.length == 256)))) /\ Below w.heap.size w w' := by
 have HC := Lib.hid (ix_long_c a n cap L hn hnm  w hR)
 clear hR hn hnm
 go_enter Tryz.func20, Tryz.ntmps20
 go_wp2_with fail
 refine HC.out.mono ?_
 rintro e w1 ⟨⟨r, rfl, hr⟩, hb1⟩
 have HE1 := Lib.hid hb1
 clear hb1
 go_wp2
 go_ret
 first
  | exact ⟨by rw [<- hr]; rfl, HE1.out⟩
  | (simp only [ge_iff_le] at hr; exact ⟨by rw [<- hr]; rfl, HE1.out⟩)
namespace Fre
section
variable {P : Program} {ops : Array Oper}
theorem any_tail1 {md : Region.Mode} {Q : Exit -> Act -> World -> Prop} {N n0 : Nat} (hf : Fits md ops N) (ht : tailFit md ops n0 = true) :
  ∀ (fuel k : Nat) (listed : Array Bool) (a : Act) (w : World), listed.size = ops.size -> n0 <= k + 1 -> ops.size - k <= fuel -> (∀ j, j < ops.size -> listed.getD j true = decide (j < k)) ->
   wpList P ops Q (ops.toList.drop k) a w -> wpAny P md ops Q fuel listed a w := by
 have hw := tailFit_spec ht
 have hrd : ∀ (k : Nat) (listed : Array Bool), listed.size = ops.size -> n0 <= k + 1 -> (∀ j, j < ops.size -> listed.getD j true = decide (j < k)) -> ∀ i, i ∈ Region.ready md ops listed ↔ i = k /\ k < ops.size := by
  intro k listed hl hk hls i
  constructor
  ·intro hi
   obtain ⟨hun, o, ho, hdep⟩ := mem_ready.1 hi
   have hlt : i < ops.size := (Array.getElem?_eq_some_iff.1 ho).1
   have hik : k <= i := by have := hls i hlt; rw [hun] at this; simpa using this.symm
   rcases Nat.eq_or_lt_of_le hik with h | h
   ·subst h; exact ⟨rfl, hlt⟩
   ·exfalso
    have hwi := hw i k hlt (by omega) h
    unfold waits at hwi
    rw [ho] at hwi
    simp only [Option.map_some, Option.getD_some, Array.any_eq_true', Bool.and_eq_true, beq_iff_eq] at hwi
    obtain ⟨e, he, hb, hek⟩ := hwi
    have h1 := hdep e he hb
    rw [hek] at h1
    have h2 := hls k (by omega)
    simp only [Nat.lt_irrefl, decide_false] at h2
    rw [Array.getD_eq_getD_getElem?, Array.getElem?_eq_getElem (by omega)] at h1 h2
    simp only [Option.getD_some] at h1 h2
    rw [h1] at h2; cases h2
  ·rintro ⟨rfl, hlt⟩
   refine mem_ready.2 ⟨by rw [hls i hlt]; simp, ops[i], Array.getElem?_eq_getElem hlt, fun e he hb => ?_⟩
   have hbk := hf.back i ops[i] e (Array.getElem?_eq_getElem hlt) he hb
   have h2 := hls e.on (by omega)
   rw [decide_eq_true hbk] at h2
   rw [Array.getD_eq_getD_getElem?, Array.getElem?_eq_getElem (by omega)] at h2 ⊢
   exact h2
 intro fuel
 induction fuel with
 | zero =>
  intro k listed a w hl hk hfu hls h
  have hke : ops.size <= k := by omega
  have hr : Region.ready md ops listed = [] := by
   cases hrr : Region.ready md ops listed with
   | nil => rfl
   | cons x xs =>
    have := (hrd k listed hl hk hls x).1 (by rw [hrr]; simp)
    omega
  rw [List.drop_of_length_le (by simpa using hke)] at h
  exact ⟨hr, h⟩
 | succ fuel ih =>
  intro k listed a w hl hk hfu hls h
  refine ⟨fun hr => ?_, fun i hi => ?_⟩
  ·have hke : ops.size <= k := by
    rcases Nat.lt_or_ge k ops.size with h' | h'
    ·have := (hrd k listed hl hk hls k).2 ⟨rfl, h'⟩
     rw [hr] at this; cases this
    ·exact h'
   rw [List.drop_of_length_le (by simpa using hke)] at h
   exact h
  ·obtain ⟨rfl, hlt⟩ := (hrd k listed hl hk hls i).1 hi
   have hdr : ops.toList.drop i = ops[i] :: ops.toList.drop (i + 1) := by
    rw [List.drop_eq_getElem_cons (by simpa using hlt)]; simp
   rw [hdr] at h
   unfold wpOp
   rw [Array.getElem?_eq_getElem hlt]
   simp only
   have hls' : ∀ j, j < ops.size -> (listed.setIfInBounds i true).getD j true = decide (j < i + 1) := by
    intro j hj
    by_cases hji : j = i
    ·subst hji
     simp [Array.getD_eq_getD_getElem?, Array.getElem?_setIfInBounds, hl, hlt]
    ·have := hls j hj
     have e1 : (listed.setIfInBounds i true).getD j true = listed.getD j true := by
      simp [Array.getD_eq_getD_getElem?, Array.getElem?_setIfInBounds, Ne.symm hji]
     rw [e1, this, decide_eq_decide]; omega
   have hmn : ∀ a w, wpList P ops Q (ops.toList.drop (i + 1)) a w -> wpAny P md ops Q fuel (listed.setIfInBounds i true) a w := fun a w h => ih (i + 1) _ a w (by simp [hl]) (by omega) (by omega) hls' h
   unfold wpList at h
   split
   ·rename_i hwn
    rw [if_pos hwn] at h
    exact h.imp (Oper.wp_mono hmn) id
   ·rename_i hwn
    rw [if_neg hwn] at h
    exact hmn _ _ h
/-- from number n0 on each operation waits for all before it; but n0 need not wait for ℓ -/
def lateFit (md : Region.Mode) (ops : Array Oper) (n0 ℓ : Nat) : Bool :=
 (List.range ops.size).all fun i => decide (i < n0) || (List.range i).all fun j => waits md ops i j || (i == n0 && j == ℓ)
theorem lateFit_spec {md : Region.Mode} {n0 ℓ : Nat} (h : lateFit md ops n0 ℓ = true) : ∀ i j, i < ops.size -> n0 <= i -> j < i -> waits md ops i j = true \/ (i = n0 /\ j = ℓ) := by
 intro i j hi hn hj
 unfold lateFit at h
 rw [List.all_eq_true] at h
 have := h i (List.mem_range.2 hi)
 simp only [Bool.or_eq_true, decide_eq_true_eq, List.all_eq_true, Bool.and_eq_true, beq_iff_eq] at this
 rcases this with h1 | h1
 ·omega
 ·exact h1 j (List.mem_range.2 hj)
theorem lateFit_tail {md : Region.Mode} {n0 ℓ : Nat} (h : lateFit md ops n0 ℓ = true) : tailFit md ops (n0 + 1) = true := by
 unfold tailFit
 rw [List.all_eq_true]
 intro i hi
 have hi := List.mem_range.1 hi
 rcases Nat.lt_or_ge i (n0 + 1) with h1 | h1
 ·simp [h1]
 ·simp only [Bool.or_eq_true, decide_eq_true_eq, List.all_eq_true]
  right
  intro j hj
  rcases lateFit_spec h i j hi (by omega) (List.mem_range.1 hj) with h2 | h2
  ·exact h2
  ·omega
theorem any_late1 {md : Region.Mode} {Q : Exit -> Act -> World -> Prop} {N n0 ℓ : Nat} (hf : Fits md ops N) (ht1 : tailFit md ops (n0 + 1) = true) (hℓ : ℓ < n0) :
  ∀ (fuel : Nat) (listed : Array Bool) (a : Act) (w : World), listed.size = ops.size -> (hn9 : n0 < ops.size) -> ops.size - n0 <= fuel -> (∀ j, j < ops.size -> listed.getD j true = decide (j < n0 + 1 /\ j ≠ ℓ)) ->
   wpList P ops Q (ops[ℓ] :: ops.toList.drop (n0 + 1)) a w -> wpAny P md ops Q fuel listed a w := by
 have hw := tailFit_spec ht1
 intro fuel listed a w hl hn9 hfu hls h
 have hlt9 : ℓ < ops.size := by omega
 have hgf : ∀ j, j < ops.size -> listed.getD j false = listed.getD j true := fun j hj => by
  simp [Array.getD_eq_getD_getElem?, hl, hj]
 have hrd : ∀ i, i ∈ Region.ready md ops listed -> i = ℓ := by
  intro i hi
  obtain ⟨hun, o, ho, hdep⟩ := mem_ready.1 hi
  have hlt : i < ops.size := (Array.getElem?_eq_some_iff.1 ho).1
  have h1 := hls i hlt
  rw [hun] at h1
  have h2 : ¬ (i < n0 + 1 /\ i ≠ ℓ) := of_decide_eq_false h1.symm
  apply Classical.byContradiction
  intro hne
  have hge : n0 + 1 <= i := by
   rcases Nat.lt_or_ge i (n0 + 1) with h3 | h3
   ·exact absurd ⟨h3, hne⟩ h2
   ·exact h3
  have hwi := hw i ℓ hlt hge (by omega)
  unfold waits at hwi
  rw [ho] at hwi
  simp only [Option.map_some, Option.getD_some, Array.any_eq_true', Bool.and_eq_true, beq_iff_eq] at hwi
  obtain ⟨e, he, hb, hek⟩ := hwi
  have h5 := hdep e he hb
  rw [hek, hgf ℓ hlt9, hls ℓ hlt9] at h5
  simp at h5
 have hmem : ℓ ∈ Region.ready md ops listed := by
  refine mem_ready.2 ⟨by rw [hls ℓ hlt9]; simp, ops[ℓ], Array.getElem?_eq_getElem hlt9, fun e he hb => ?_⟩
  have hbk := hf.back ℓ ops[ℓ] e (Array.getElem?_eq_getElem hlt9) he hb
  rw [hgf e.on (by omega), hls e.on (by omega)]
  simp; omega
 cases fuel with
 | zero => omega
 | succ fuel =>
  refine ⟨fun hr => by { rw [hr] at hmem; cases hmem }, fun i hi => ?_⟩
  obtain rfl := hrd i hi
  have hmn : ∀ a w, wpList P ops Q (ops.toList.drop (n0 + 1)) a w -> wpAny P md ops Q fuel (listed.setIfInBounds i true) a w := fun a w h =>
   any_tail1 hf ht1 fuel (n0 + 1) _ a w (by simp [hl]) (by omega) (by omega) (fun j hj => by
    by_cases hji : j = i
    ·subst hji
     simp [Array.getD_eq_getD_getElem?, Array.getElem?_setIfInBounds, hl, hlt9]; omega
    ·have e1 : (listed.setIfInBounds i true).getD j true = listed.getD j true := by
      simp [Array.getD_eq_getD_getElem?, Array.getElem?_setIfInBounds, Ne.symm hji]
     rw [e1, hls j hj, decide_eq_decide]; omega) h
  unfold wpOp
  rw [Array.getElem?_eq_getElem hlt9]
  simp only
  unfold wpList at h
  split
  ·rename_i hwn
   rw [if_pos hwn] at h
   exact h.imp (Oper.wp_mono hmn) id
  ·rename_i hwn
   rw [if_neg hwn] at h
   exact hmn _ _ h
/-- the law, where operation ℓ may come up behind the first of the tail -/
theorem region_late {id : Nat} {Q : Exit -> Act -> World -> Prop} {a0 : Act} {w0 : World} (N n0 ℓ : Nat) (hℓ : ℓ < n0) (hn9 : n0 < ops.size) (hm : P.follows .mixedOrders = true) (hf : fit .any ops N = true) (hN : a0.tmps.size = N) (ht : lateFit .any ops n0 ℓ = true) (hn0 : n0 <= ops.size) (V : Nat -> Value -> World -> Prop)
  (hst : ∀ j v w w', j < n0 -> V j v w -> Kept w w' -> V j v w') (hop : ∀ i, i < n0 -> StepB P ops a0 w0 V Kept i)
  (hQ : ∀ (vs : Nat -> Value) w, (∀ j, j < n0 -> V j (vs j) w) -> Kept w0 w -> wpList P ops Q (ops.toList.drop n0) ⟨finT ops vs a0.tmps n0, a0.defers⟩ w) 
  (hQ2 : ∀ (vs : Nat -> Value) w, (∀ j, j < n0 -> j ≠ ℓ -> V j (vs j) w) -> (∀ t, dstOf ops ℓ = some t -> a0.tmps[t]? = some (vs ℓ)) -> Kept w0 w -> wpList P ops Q (ops[n0] :: ops[ℓ] :: ops.toList.drop (n0 + 1)) ⟨finT ops vs a0.tmps n0, a0.defers⟩ w) : (Code.region id ops true).wp P Q a0 w0 := by
 refine wp_region_any hm ?_
 have hfs := fits_of (md := .any) hf
 have hw := lateFit_spec ht
 have ht1 := lateFit_tail ht
 have hgf : ∀ (listed : Array Bool), listed.size = ops.size -> ∀ j, j < ops.size -> listed.getD j false = listed.getD j true := fun listed hl j hj => by
  simp [Array.getD_eq_getD_getElem?, hl, hj]
 have main : ∀ (fuel : Nat) (listed : Array Bool) (a : Act) (w : World) (vs : Nat -> Value), listed.size = ops.size -> ((List.range ops.size).filter fun j => !listed.getD j true).length <= fuel ->
   (∀ j, j < ops.size -> n0 <= j -> listed.getD j true = false) -> Agree ops a0 a listed vs -> (∀ j, j < n0 -> listed.getD j false = true -> V j (vs j) w) -> Kept w0 w -> wpAny P .any ops Q fuel listed a w := by
  have hend : ∀ (fuel : Nat) (listed : Array Bool) (a : Act) (w : World) (vs : Nat -> Value), listed.size = ops.size -> ((List.range ops.size).filter fun j => !listed.getD j true).length <= fuel -> (∀ j, j < ops.size -> n0 <= j -> listed.getD j true = false) -> Agree ops a0 a listed vs -> (∀ j, j < n0 -> listed.getD j false = true -> V j (vs j) w) -> Kept w0 w -> (∀ j, j < n0 -> listed.getD j true = true) -> wpAny P .any ops Q fuel listed a w := by
   intro fuel listed a w vs hl hc htl hA hV hS hall
   have hcnt : ops.size - n0 <= fuel := by
    refine Nat.le_trans ?_ hc
    have : ((List.range ops.size).filter fun j => !listed.getD j true).length = ((List.range ops.size).filter fun j => decide (n0 <= j)).length := by
     congr 1
     apply List.filter_congr
     intro j hj
     have hj' := List.mem_range.1 hj
     rcases Nat.lt_or_ge j n0 with h | h
     ·rw [hall j h]; simp; omega
     ·rw [htl j hj' h]; simp; omega
    rw [this]
    have h2 : (List.range ops.size).filter (fun j => decide (n0 <= j)) = List.range' n0 (ops.size - n0) := by
     have : List.range ops.size = List.range n0 ++ List.range' n0 (ops.size - n0) := by
      rw [List.range_eq_range', List.range_eq_range', show ops.size = n0 + (ops.size - n0) by omega, <- List.range'_append_1]; simp
     rw [this, List.filter_append]
     rw [List.filter_eq_nil_iff.2 (fun x hx => by have := List.mem_range.1 hx; simp; omega), List.nil_append]
     exact List.filter_eq_self.2 (fun x hx => by have := (List.mem_range'_1.1 hx).1; simpa using this)
    rw [h2, List.length_range']; exact Nat.le_refl _
   refine any_tail1 hfs ht1 fuel n0 listed a w hl (Nat.le_refl _) hcnt (fun j hj => ?_) ?_
   ·rcases Nat.lt_or_ge j n0 with h | h
    ·rw [hall j h]; simp [h]
    ·rw [htl j hj h]; simp; omega
   ·have ha : a = ⟨finT ops vs a0.tmps n0, a0.defers⟩ := by
     obtain ⟨h1, h2, h3, h4⟩ := hA
     obtain ⟨T, D⟩ := a
     simp only at h1 h2 h3 h4
     subst h1
     congr 1
     apply Array.ext_getElem?
     intro t
     obtain ⟨k1, k2⟩ := finT_get hfs vs a0.tmps hN n0 hn0 t
     by_cases hx : ∃ j, j < n0 /\ dstOf ops j = some t
     ·obtain ⟨j, hj, hd⟩ := hx
      rw [k1 j hj hd, h3 j t (by omega) hd (by rw [hgf listed hl j (by omega)]; exact hall j hj)]
     ·rw [k2 (fun j hj hd => hx ⟨j, hj, hd⟩)]
      refine h4 t fun j hj hd => ?_
      rcases Nat.lt_or_ge j n0 with h | h
      ·exact absurd ⟨j, h, hd⟩ hx
      ·rw [hgf listed hl j hj]; exact htl j hj h
    rw [ha]
    exact hQ vs w (fun j hj => hV j hj (by rw [hgf listed hl j (by omega)]; exact hall j hj)) hS
  intro fuel
  induction fuel with
  | zero =>
   intro listed a w vs hl hc htl hA hV hS
   refine hend 0 listed a w vs hl hc htl hA hV hS fun j hj => ?_
   cases hc2 : listed.getD j true with
   | true => rfl
   | false =>
    have : j ∈ (List.range ops.size).filter fun j => !listed.getD j true := List.mem_filter.2 ⟨List.mem_range.2 (by omega), by rw [hc2]; rfl⟩
    rw [List.eq_nil_of_length_eq_zero (Nat.le_zero.1 hc)] at this
    cases this
  | succ fuel ih =>
   intro listed a w vs hl hc htl hA hV hS
   by_cases hall : ∀ j, j < n0 -> listed.getD j true = true
   ·exact hend (fuel + 1) listed a w vs hl hc htl hA hV hS hall
   ·have hunl : ∃ j, j < n0 /\ listed.getD j true = false := by
     apply Classical.byContradiction
     intro h
     exact hall fun j hj => by
      cases hc2 : listed.getD j true with
      | true => rfl
      | false => exact absurd ⟨j, hj, hc2⟩ h
    have hni : ∀ i, i ∈ Region.ready .any ops listed -> i < n0 \/ (i = n0 /\ ∀ j, j < n0 -> j ≠ ℓ -> listed.getD j true = true) := by
     intro i hi
     obtain ⟨hun, o, ho, hdep⟩ := mem_ready.1 hi
     have hlt : i < ops.size := (Array.getElem?_eq_some_iff.1 ho).1
     have hws : ∀ j, j < ops.size -> waits .any ops i j = true -> listed.getD j true = true := by
      intro j hj hwi
      unfold waits at hwi
      rw [ho] at hwi
      simp only [Option.map_some, Option.getD_some, Array.any_eq_true', Bool.and_eq_true, beq_iff_eq] at hwi
      obtain ⟨e, he, hb, hek⟩ := hwi
      have h1 := hdep e he hb
      rw [hek, hgf listed hl j hj] at h1
      exact h1
     rcases Nat.lt_or_ge i n0 with h | h
     ·exact .inl h
     ·right
      rcases Nat.eq_or_lt_of_le h with h9 | h9
      ·subst h9
       refine ⟨rfl, fun j hj hjl => ?_⟩
       rcases hw n0 j hlt (Nat.le_refl _) hj with h1 | h1
       ·exact hws j (by omega) h1
       ·exact absurd h1.2 hjl
      ·exfalso
       rcases hw i n0 hlt h h9 with h1 | h1
       ·have := hws n0 hn9 h1
        rw [htl n0 hn9 (Nat.le_refl _)] at this; cases this
       ·omega
    refine ⟨fun hr => ?_, fun i hi => ?_⟩
    ·exfalso
     -- the least operation that has not come up is ready
     have hex : ∀ j, j < n0 -> listed.getD j true = true := by
      intro j
      induction j using Nat.strongRecOn with
      | ind j ihj =>
       intro hj
       cases hc2 : listed.getD j true with
       | true => rfl
       | false =>
        have : j ∈ Region.ready .any ops listed := by
         refine mem_ready.2 ⟨hc2, ops[j], Array.getElem?_eq_getElem (by omega), fun e he hbi => ?_⟩
         have hb := hfs.back j ops[j] e (Array.getElem?_eq_getElem (by omega)) he hbi
         rw [hgf listed hl e.on (by omega)]
         exact ihj e.on hb (by omega)
        rw [hr] at this; cases this
     exact hall hex
    ·rcases hni i hi with hin | ⟨rfl, hall2⟩
     case inr =>
      have hunl2 : listed.getD ℓ true = false := by
       obtain ⟨j, hj, hjf⟩ := hunl
       by_cases hjl : j = ℓ
       ·rw [<- hjl]; exact hjf
       ·rw [hall2 j hj hjl] at hjf; cases hjf
      -- the state
      have hcnt : ops.size - i + 1 <= fuel + 1 := by
       refine Nat.le_trans ?_ hc
       have hmem : ℓ ∈ (List.range ops.size).filter fun j => !listed.getD j true := List.mem_filter.2 ⟨List.mem_range.2 (by omega), by rw [hunl2]; rfl⟩
       have hlt2 : (((List.range ops.size).filter fun j => !listed.getD j true).filter fun j => j != ℓ).length < ((List.range ops.size).filter fun j => !listed.getD j true).length := by
        apply List.length_filter_lt_length_iff_exists.2
        exact ⟨ℓ, hmem, by simp⟩
       have heq : (((List.range ops.size).filter fun j => !listed.getD j true).filter fun j => j != ℓ) = (List.range ops.size).filter (fun j => decide (i <= j)) := by
        rw [List.filter_filter]
        apply List.filter_congr
        intro j hj
        have hj' := List.mem_range.1 hj
        by_cases hjl : j = ℓ
        ·subst hjl; simp; omega
        ·rcases Nat.lt_or_ge j i with h | h
         ·rw [hall2 j h hjl]; simp; omega
         ·rw [htl j hj' h]; simp [h, hjl]
       have h2 : (List.range ops.size).filter (fun j => decide (i <= j)) = List.range' i (ops.size - i) := by
        have : List.range ops.size = List.range i ++ List.range' i (ops.size - i) := by
         rw [List.range_eq_range', List.range_eq_range', show ops.size = i + (ops.size - i) by omega, <- List.range'_append_1]; simp
        rw [this, List.filter_append]
        rw [List.filter_eq_nil_iff.2 (fun x hx => by have := List.mem_range.1 hx; simp; omega), List.nil_append]
        exact List.filter_eq_self.2 (fun x hx => by have := (List.mem_range'_1.1 hx).1; simpa using this)
       rw [heq, h2, List.length_range'] at hlt2
       omega
      have hq := hQ2 (fun j => if j = ℓ then a0.tmps.getD ((dstOf ops ℓ).getD 0) undef else vs j) w (fun j hj hjl => by
        simp only [if_neg hjl]
        exact hV j hj (by rw [hgf listed hl j (by omega)]; exact hall2 j hj hjl)) (fun t htl2 => by
        simp only [if_true]
        rw [htl2, Option.getD_some]
        have h1 := hfs.inb ℓ t htl2
        rw [Array.getD_eq_getD_getElem?, Array.getElem?_eq_getElem (by rw [hN]; exact h1)]; rfl) hS
      have ha : a = ⟨finT ops (fun j => if j = ℓ then a0.tmps.getD ((dstOf ops ℓ).getD 0) undef else vs j) a0.tmps i, a0.defers⟩ := by
       obtain ⟨h1, h2, h3, h4⟩ := hA
       obtain ⟨T, D⟩ := a
       simp only at h1 h2 h3 h4
       subst h1
       congr 1
       apply Array.ext_getElem?
       intro t
       obtain ⟨k1, k2⟩ := finT_get hfs (fun j => if j = ℓ then a0.tmps.getD ((dstOf ops ℓ).getD 0) undef else vs j) a0.tmps hN i hn0 t
       by_cases hx : ∃ j, j < i /\ dstOf ops j = some t
       ·obtain ⟨j, hj, hd⟩ := hx
        rw [k1 j hj hd]
        by_cases hjl : j = ℓ
        ·subst hjl
         simp only [if_true]
         rw [hd, Option.getD_some]
         have hin := hfs.inb j t hd
         rw [h4 t fun q hq hqd => by rw [hfs.apart q j t hq (by omega) hqd hd, hgf listed hl j (by omega)]; exact hunl2]
         rw [Array.getD_eq_getD_getElem?, Array.getElem?_eq_getElem (by rw [hN]; exact hin)]; rfl
        ·simp only [if_neg hjl]
         exact h3 j t (by omega) hd (by rw [hgf listed hl j (by omega)]; exact hall2 j hj hjl)
       ·rw [k2 (fun j hj hd => hx ⟨j, hj, hd⟩)]
        refine h4 t fun j hj hd => ?_
        rcases Nat.lt_or_ge j i with h | h
        ·exact absurd ⟨j, h, hd⟩ hx
        ·rw [hgf listed hl j hj]; exact htl j hj h
      rw [<- ha] at hq
      have hmn : ∀ a w, wpList P ops Q (ops[ℓ] :: ops.toList.drop (i + 1)) a w -> wpAny P .any ops Q fuel (listed.setIfInBounds i true) a w := fun a w h =>
       any_late1 hfs ht1 hℓ fuel _ a w (by simp [hl]) hn9 (by omega) (fun j hj => by
        by_cases hji : j = i
        ·subst hji
         simp [Array.getD_eq_getD_getElem?, Array.getElem?_setIfInBounds, hl, hn9]; omega
        ·have e1 : (listed.setIfInBounds i true).getD j true = listed.getD j true := by
          simp [Array.getD_eq_getD_getElem?, Array.getElem?_setIfInBounds, Ne.symm hji]
         rw [e1]
         rcases Nat.lt_or_ge j i with h5 | h5
         ·by_cases hjl : j = ℓ
          ·rw [hjl, hunl2]; simp
          ·rw [hall2 j h5 hjl]; simp [hjl]; omega
         ·rw [htl j hj h5]; simp; omega) h
      unfold wpOp
      rw [Array.getElem?_eq_getElem hn9]
      simp only
      unfold wpList at hq
      split
      ·rename_i hwn
       rw [if_pos hwn] at hq
       exact hq.imp (Oper.wp_mono hmn) (fun x => x)
      ·rename_i hwn
       rw [if_neg hwn] at hq
       exact hmn _ _ hq
     obtain ⟨hun, o, ho, hdep⟩ := mem_ready.1 hi
     have hlt : i < ops.size := (Array.getElem?_eq_some_iff.1 ho).1
     unfold wpOp
     simp only [ho]
     rw [if_pos (by unfold Region.wanted; rw [hfs.guard i o ho])]
     refine .inl ?_
     have hdo : dstOf ops i = o.dst := by unfold dstOf; rw [ho]; rfl
     have hwl : ∀ j, waits .any ops i j = true -> listed.getD j false = true /\ j < n0 := by
      intro j hwj
      unfold waits at hwj
      rw [ho] at hwj
      simp only [Option.map_some, Option.getD_some, Array.any_eq_true', Bool.and_eq_true, beq_iff_eq] at hwj
      obtain ⟨e, he, hb, rfl⟩ := hwj
      exact ⟨hdep e he hb, by have := hfs.back i o e ho he hb; omega⟩
     have hD := (hop i hin).step a.eval w (fun _ => rfl) (fun _ => rfl) (fun _ => rfl) (fun t ht' => by
       show a.tmps.getD t undef = _
       rw [Array.getD_eq_getD_getElem?, Array.getD_eq_getD_getElem?, hA.2.2.2 t fun j hj hjt => absurd hjt (ht' j hj)])
      (fun j t hwj hjt => by
       obtain ⟨h1, h1n⟩ := hwl j hwj
       have h2 := hA.2.2.1 j t (by omega) hjt h1
       show V j (a.tmps.getD t undef) w
       rw [Array.getD_eq_getD_getElem?, h2]
       exact hV j h1n h1) (fun j hwj _ => ⟨vs j, hV j (hwl j hwj).2 (hwl j hwj).1⟩) hS o ho
     refine Does.wp hD ?_
     rintro v w' ⟨hv, hs⟩
     rw [<- hdo]
     have hfl : (List.range ops.size).filter (fun j => !(listed.setIfInBounds i true).getD j true) = ((List.range ops.size).filter fun j => !listed.getD j true).filter fun j => j != i := by
      rw [List.filter_filter]
      apply List.filter_congr
      intro j hj
      by_cases hji : j = i
      ·subst hji
       simp [Array.getD_eq_getD_getElem?, Array.getElem?_setIfInBounds, hl, hlt]
      ·simp [Array.getD_eq_getD_getElem?, Array.getElem?_setIfInBounds, Ne.symm hji, hji]
     refine ih (listed.setIfInBounds i true) (a.put (dstOf ops i) v) w' _ (by simp [hl]) ?_ (fun j hj hjn => ?_) (hA.step hfs hN hlt hl hun v) (fun j hj hlj' => ?_) (hS.trans hs)
     ·rw [hfl]
      have hmem : i ∈ (List.range ops.size).filter fun j => !listed.getD j true := List.mem_filter.2 ⟨List.mem_range.2 hlt, by rw [hun]; rfl⟩
      have hlt2 : (((List.range ops.size).filter fun j => !listed.getD j true).filter fun j => j != i).length < ((List.range ops.size).filter fun j => !listed.getD j true).length := by
       apply List.length_filter_lt_length_iff_exists.2
       exact ⟨i, hmem, by simp⟩
      omega
     ·have hji : j ≠ i := by omega
      rw [Array.getD_eq_getD_getElem?, Array.getElem?_setIfInBounds, if_neg (Ne.symm hji), <- Array.getD_eq_getD_getElem?]
      exact htl j hj hjn
     ·by_cases hji : j = i
      ·subst hji; simp only [if_true]; exact hv
      ·simp only [if_neg hji]
       refine hst j _ w w' hj (hV j hj ?_) hs
       rw [Array.getD_eq_getD_getElem?, Array.getElem?_setIfInBounds] at hlj'
       rw [Array.getD_eq_getD_getElem?]
       simpa [Ne.symm hji] using hlj'
 refine main ops.size _ a0 _ (fun _ => undef) (by simp) (by have := List.length_filter_le (fun j => !(Array.replicate ops.size false).getD j true) (List.range ops.size); rw [List.length_range] at this; exact this) (fun j hj _ => ?_) ⟨rfl, rfl, fun j t hj _ h => ?_, fun t _ => rfl⟩ (fun j hj h => ?_) (Kept.drew _)
 ·simp [Array.getD_eq_getD_getElem?, hj]
 ·simp [Array.getD_eq_getD_getElem?, hj] at h
 ·simp [Array.getD_eq_getD_getElem?, (show j < ops.size by omega)] at h
end
end Fre
def opsBP : {o : Array Oper // some o = (Tryz.f8.body.bind (Fre.findR 5))} := ⟨_, rfl⟩
theorem fitBP : Fre.fit .any opsBP.1 69 = true := by kernel_rfl
theorem sizeBP : opsBP.1.size = 11 := by kernel_rfl
theorem tailBP : Fre.lateFit .any opsBP.1 9 7 = true := by kernel_rfl
def VBP (gb g o k cap n x fi : Nat) (t : Int) (R : List Nat) (P : List Pg) (L : List (List Nat)) (B : Nat) (i : Nat) (v : Value) (w : World) : Prop := match i with
 | 0 => v = .agg #[.int .i64 (n : Int), .int .i64 t]
 | 1 => v = .slice (some ⟨g, o, none⟩) k cap
 | 2 => v = .int .i64 ((fi : Nat) : Int)
 | 3 => v = .slice (some ⟨g, o, none⟩) fi cap
 | 4 => ∃ a c, v = .tuple #[.agg (mtA x R (.slice a n c)), .int .i64 0] /\ w.ownsRow B 100 5 (.slice a n c) n (cellsP P)
 | 5 => ∃ a c, v = .tuple #[.agg (mtA x R (.slice a n c)), .int .i64 0] /\ w.ownsRow B 100 5 (.slice a n c) n (cellsP P)
 | 6 => ∃ a c, v = .agg (mtA x R (.slice a n c)) /\ w.ownsRow B 100 5 (.slice a n c) n (cellsP P)
 | 7 => v = .int .i64 0
 | 8 => ∃ b, v = .pointer (some ⟨b, 0, none⟩) /\ B <= b /\ w.heap[b]? = some (.cells #[.int .u64 0, .int .u64 0, .int .u64 0, .int .u64 0, .int .u64 0, .int .u64 0, .int .u64 0, .int .u64 0, .int .u64 0, .int .u64 0, .int .u64 0, .int .u64 0, .int .u64 0, .int .u64 0, .int .u64 0, .int .u64 0, .int .u64 0, .slice none 0 0] 63 (0, 0))
 | _ => True
theorem stBP_0 (gb g o k cap n x fi : Nat) (t : Int) (R : List Nat) (P : List Pg) (L : List (List Nat)) (B : Nat) (a0 : Act) (g92 : a0.tmps.getD 2 undef = .pointer (some ⟨gb, 0, none⟩)) (w0 : World) (h0 : w0.heap[gb]? = some (.cells #[.int .i64 (n : Int), .int .i64 t] 31 (0, 0))) (hg : geoB n t = true) (hL : L.length = k) (hfi : fi = 1 + mapsN n) (hk : fi <= k) (hcap : k <= cap) (h256 : ∀ l ∈ L, l.length = 256) (hR : RowsAt w0 (some ⟨g, o, none⟩) L) (hm : metaN n (L.take fi) = some (x, R, P)) (hB : B <= w0.heap.size) : Fre.StepB Tryz.prog opsBP.1 a0 w0 (VBP gb g o k cap n x fi t R P L B) Fre.Kept 0 := by
 intro E w hc hf hE hV hN hS o ho
 obtain rfl := Option.some.inj ho
 clear ho
 simp only [opsBP, List.getElem_toArray, List.getElem_cons_succ, List.getElem_cons_zero]
 have b2 : E (.tmp 2) = .pointer (some ⟨gb, 0, none⟩) := (hE 2 (by kernel_rfl)).trans g92
 clear g92
 have hb := (hS.block gb (lt_of_block h0)).trans h0
 have hr := run_loadVar_row w gb _ 31 #[.int .i64 (n : Int), .int .i64 t] _ _ hb Tryz.underlying31 rfl (by rw [geo2]; rfl)
 refine Fre.Does.value (v := .agg #[.int .i64 (n : Int), .int .i64 t]) (w' := w) ?_ ⟨rfl, Fre.Kept.refl _⟩
 unfold execOp
 simp only [b2, Instr.loadAt, Instr.sureAddr, Sem.run_bind, Sem.run_pure, Result.andThen_ok, hr]
theorem stBP_1 (gb g o k cap n x fi : Nat) (t : Int) (R : List Nat) (P : List Pg) (L : List (List Nat)) (B : Nat) (a0 : Act) (g91 : a0.tmps.getD 1 undef = .slice (some ⟨g, o, none⟩) k cap) (w0 : World) (h0 : w0.heap[gb]? = some (.cells #[.int .i64 (n : Int), .int .i64 t] 31 (0, 0))) (hg : geoB n t = true) (hL : L.length = k) (hfi : fi = 1 + mapsN n) (hk : fi <= k) (hcap : k <= cap) (h256 : ∀ l ∈ L, l.length = 256) (hR : RowsAt w0 (some ⟨g, o, none⟩) L) (hm : metaN n (L.take fi) = some (x, R, P)) (hB : B <= w0.heap.size) : Fre.StepB Tryz.prog opsBP.1 a0 w0 (VBP gb g o k cap n x fi t R P L B) Fre.Kept 1 := by
 intro E w hc hf hE hV hN hS o ho
 obtain rfl := Option.some.inj ho
 clear ho
 simp only [opsBP, List.getElem_toArray, List.getElem_cons_succ, List.getElem_cons_zero]
 have b1 : E (.tmp 1) = .slice (some ⟨g, o, none⟩) k cap := (hE 1 (by kernel_rfl)).trans g91
 clear g91
 refine Fre.Does.value (v := .slice (some ⟨g, o, none⟩) k cap) (w' := w) ?_ ⟨rfl, Fre.Kept.refl _⟩
 go_simp
theorem stBP_2 (gb g o k cap n x fi : Nat) (t : Int) (R : List Nat) (P : List Pg) (L : List (List Nat)) (B : Nat) (a0 : Act) (g97 : a0.tmps.getD 7 undef = .int .i64 ((fi : Nat) : Int)) (w0 : World) (h0 : w0.heap[gb]? = some (.cells #[.int .i64 (n : Int), .int .i64 t] 31 (0, 0))) (hg : geoB n t = true) (hL : L.length = k) (hfi : fi = 1 + mapsN n) (hk : fi <= k) (hcap : k <= cap) (h256 : ∀ l ∈ L, l.length = 256) (hR : RowsAt w0 (some ⟨g, o, none⟩) L) (hm : metaN n (L.take fi) = some (x, R, P)) (hB : B <= w0.heap.size) : Fre.StepB Tryz.prog opsBP.1 a0 w0 (VBP gb g o k cap n x fi t R P L B) Fre.Kept 2 := by
 intro E w hc hf hE hV hN hS o ho
 obtain rfl := Option.some.inj ho
 clear ho
 simp only [opsBP, List.getElem_toArray, List.getElem_cons_succ, List.getElem_cons_zero]
 have b7 : E (.tmp 7) = .int .i64 ((fi : Nat) : Int) := (hE 7 (by kernel_rfl)).trans g97
 clear g97
 refine Fre.Does.value (v := .int .i64 ((fi : Nat) : Int)) (w' := w) ?_ ⟨rfl, Fre.Kept.refl _⟩
 go_simp
theorem stBP_3 (gb g o k cap n x fi : Nat) (t : Int) (R : List Nat) (P : List Pg) (L : List (List Nat)) (B : Nat) (a0 : Act)  (w0 : World) (h0 : w0.heap[gb]? = some (.cells #[.int .i64 (n : Int), .int .i64 t] 31 (0, 0))) (hg : geoB n t = true) (hL : L.length = k) (hfi : fi = 1 + mapsN n) (hk : fi <= k) (hcap : k <= cap) (h256 : ∀ l ∈ L, l.length = 256) (hR : RowsAt w0 (some ⟨g, o, none⟩) L) (hm : metaN n (L.take fi) = some (x, R, P)) (hB : B <= w0.heap.size) : Fre.StepB Tryz.prog opsBP.1 a0 w0 (VBP gb g o k cap n x fi t R P L B) Fre.Kept 3 := by
 intro E w hc hf hE hV hN hS o ho
 obtain rfl := Option.some.inj ho
 clear ho
 simp only [opsBP, List.getElem_toArray, List.getElem_cons_succ, List.getElem_cons_zero]
 have d1 := hV 1 32 (by kernel_rfl) (by kernel_rfl)
 have d1 : E (.tmp 32) = .slice (some ⟨g, o, none⟩) k cap := d1
 have d2 := hV 2 33 (by kernel_rfl) (by kernel_rfl)
 have d2 : E (.tmp 33) = .int .i64 ((fi : Nat) : Int) := d2
 have hr := run_subRh g o k cap fi (by omega) w
 refine Fre.Does.value (v := .slice (some ⟨g, o, none⟩) fi cap) (w' := w) ?_ ⟨rfl, Fre.Kept.refl _⟩
 unfold execOp
 simp only [d1, d2, Option.map_some, Option.map_none, Sem.run_bind, hr, Result.andThen_ok]
 rfl
theorem stBP_4 (gb g o k cap n x fi : Nat) (t : Int) (R : List Nat) (P : List Pg) (L : List (List Nat)) (B : Nat) (a0 : Act)  (w0 : World) (h0 : w0.heap[gb]? = some (.cells #[.int .i64 (n : Int), .int .i64 t] 31 (0, 0))) (hg : geoB n t = true) (hL : L.length = k) (hfi : fi = 1 + mapsN n) (hk : fi <= k) (hcap : k <= cap) (h256 : ∀ l ∈ L, l.length = 256) (hR : RowsAt w0 (some ⟨g, o, none⟩) L) (hm : metaN n (L.take fi) = some (x, R, P)) (hB : B <= w0.heap.size) : Fre.StepB Tryz.prog opsBP.1 a0 w0 (VBP gb g o k cap n x fi t R P L B) Fre.Kept 4 := by
 intro E w hc hf hE hV hN hS o ho
 obtain rfl := Option.some.inj ho
 clear ho
 simp only [opsBP, List.getElem_toArray, List.getElem_cons_succ, List.getElem_cons_zero]
 have d0 := hV 0 31 (by kernel_rfl) (by kernel_rfl)
 have d0 : E (.tmp 31) = .agg #[.int .i64 (n : Int), .int .i64 t] := d0
 have d3 := hV 3 34 (by kernel_rfl) (by kernel_rfl)
 have d3 : E (.tmp 34) = .slice (some ⟨g, o, none⟩) fi cap := d3
 refine Fre.Does.enter (f := 22) (args := #[.agg #[.int .i64 (n : Int), .int .i64 t], .slice (some ⟨g, o, none⟩) fi cap]) (w' := w) ?_ ((mparse_c n t hg g o fi cap (L.take fi) (by rw [List.length_take]; omega) hfi (by omega) (fun l hl => h256 l (List.mem_of_mem_take hl)) w ((hR.take _).up hS (Nat.le_refl _))).mono ?_)
 ·go_simp
 ·rintro e w' ⟨hp, hk'⟩
  unfold MParse at hp
  rw [hm] at hp
  obtain ⟨a, c, rfl, hown⟩ := hp
  exact ⟨_, rfl, ⟨a, c, rfl, own_mono hown (Nat.le_trans hB hS.size)⟩, hk'⟩
theorem stBP_5 (gb g o k cap n x fi : Nat) (t : Int) (R : List Nat) (P : List Pg) (L : List (List Nat)) (B : Nat) (a0 : Act)  (w0 : World) (h0 : w0.heap[gb]? = some (.cells #[.int .i64 (n : Int), .int .i64 t] 31 (0, 0))) (hg : geoB n t = true) (hL : L.length = k) (hfi : fi = 1 + mapsN n) (hk : fi <= k) (hcap : k <= cap) (h256 : ∀ l ∈ L, l.length = 256) (hR : RowsAt w0 (some ⟨g, o, none⟩) L) (hm : metaN n (L.take fi) = some (x, R, P)) (hB : B <= w0.heap.size) : Fre.StepB Tryz.prog opsBP.1 a0 w0 (VBP gb g o k cap n x fi t R P L B) Fre.Kept 5 := by
 intro E w hc hf hE hV hN hS o ho
 obtain rfl := Option.some.inj ho
 clear ho
 simp only [opsBP, List.getElem_toArray, List.getElem_cons_succ, List.getElem_cons_zero]
 have d4 := hV 4 35 (by kernel_rfl) (by kernel_rfl)
 replace d4 : (fun v : Value => ∃ a c, v = .tuple #[.agg (mtA x R (.slice a n c)), .int .i64 0] /\ w.ownsRow B 100 5 (.slice a n c) n (cellsP P)) (E (.tmp 35)) := d4
 simp only at d4
 refine Fre.Does.value (v := E (.tmp 35)) (w' := w) ?_ ⟨d4, Fre.Kept.refl _⟩
 go_simp
theorem stBP_6 (gb g o k cap n x fi : Nat) (t : Int) (R : List Nat) (P : List Pg) (L : List (List Nat)) (B : Nat) (a0 : Act)  (w0 : World) (h0 : w0.heap[gb]? = some (.cells #[.int .i64 (n : Int), .int .i64 t] 31 (0, 0))) (hg : geoB n t = true) (hL : L.length = k) (hfi : fi = 1 + mapsN n) (hk : fi <= k) (hcap : k <= cap) (h256 : ∀ l ∈ L, l.length = 256) (hR : RowsAt w0 (some ⟨g, o, none⟩) L) (hm : metaN n (L.take fi) = some (x, R, P)) (hB : B <= w0.heap.size) : Fre.StepB Tryz.prog opsBP.1 a0 w0 (VBP gb g o k cap n x fi t R P L B) Fre.Kept 6 := by
 intro E w hc hf hE hV hN hS o ho
 obtain rfl := Option.some.inj ho
 clear ho
 simp only [opsBP, List.getElem_toArray, List.getElem_cons_succ, List.getElem_cons_zero]
 have d5 := hV 5 30 (by kernel_rfl) (by kernel_rfl)
 replace d5 : (fun v : Value => ∃ a c, v = .tuple #[.agg (mtA x R (.slice a n c)), .int .i64 0] /\ w.ownsRow B 100 5 (.slice a n c) n (cellsP P)) (E (.tmp 30)) := d5
 simp only at d5
 obtain ⟨a, c, e, f⟩ := d5
 refine Fre.Does.value (v := .agg (mtA x R (.slice a n c))) (w' := w) ?_ ⟨⟨a, c, rfl, f⟩, Fre.Kept.refl _⟩
 unfold execOp
 simp only [e]
 go_simp
theorem stBP_7 (gb g o k cap n x fi : Nat) (t : Int) (R : List Nat) (P : List Pg) (L : List (List Nat)) (B : Nat) (a0 : Act)  (w0 : World) (h0 : w0.heap[gb]? = some (.cells #[.int .i64 (n : Int), .int .i64 t] 31 (0, 0))) (hg : geoB n t = true) (hL : L.length = k) (hfi : fi = 1 + mapsN n) (hk : fi <= k) (hcap : k <= cap) (h256 : ∀ l ∈ L, l.length = 256) (hR : RowsAt w0 (some ⟨g, o, none⟩) L) (hm : metaN n (L.take fi) = some (x, R, P)) (hB : B <= w0.heap.size) : Fre.StepB Tryz.prog opsBP.1 a0 w0 (VBP gb g o k cap n x fi t R P L B) Fre.Kept 7 := by
 intro E w hc hf hE hV hN hS o ho
 obtain rfl := Option.some.inj ho
 clear ho
 simp only [opsBP, List.getElem_toArray, List.getElem_cons_succ, List.getElem_cons_zero]
 have d5 := hV 5 30 (by kernel_rfl) (by kernel_rfl)
 replace d5 : (fun v : Value => ∃ a c, v = .tuple #[.agg (mtA x R (.slice a n c)), .int .i64 0] /\ w.ownsRow B 100 5 (.slice a n c) n (cellsP P)) (E (.tmp 30)) := d5
 simp only at d5
 obtain ⟨a, c, e, f⟩ := d5
 refine Fre.Does.value (v := .int .i64 0) (w' := w) ?_ ⟨rfl, Fre.Kept.refl _⟩
 unfold execOp
 simp only [e]
 go_simp
theorem stBP_8 (gb g o k cap n x fi : Nat) (t : Int) (R : List Nat) (P : List Pg) (L : List (List Nat)) (B : Nat) (a0 : Act)  (w0 : World) (h0 : w0.heap[gb]? = some (.cells #[.int .i64 (n : Int), .int .i64 t] 31 (0, 0))) (hg : geoB n t = true) (hL : L.length = k) (hfi : fi = 1 + mapsN n) (hk : fi <= k) (hcap : k <= cap) (h256 : ∀ l ∈ L, l.length = 256) (hR : RowsAt w0 (some ⟨g, o, none⟩) L) (hm : metaN n (L.take fi) = some (x, R, P)) (hB : B <= w0.heap.size) : Fre.StepB Tryz.prog opsBP.1 a0 w0 (VBP gb g o k cap n x fi t R P L B) Fre.Kept 8 := by
 intro E w hc hf hE hV hN hS o ho
 obtain rfl := Option.some.inj ho
 clear ho
 simp only [opsBP, List.getElem_toArray, List.getElem_cons_succ, List.getElem_cons_zero]
 refine Fre.Does.value (v := .pointer (some ⟨w.heap.size, 0, none⟩)) (w' := w.alloc (.cells #[.int .u64 0, .int .u64 0, .int .u64 0, .int .u64 0, .int .u64 0, .int .u64 0, .int .u64 0, .int .u64 0, .int .u64 0, .int .u64 0, .int .u64 0, .int .u64 0, .int .u64 0, .int .u64 0, .int .u64 0, .int .u64 0, .int .u64 0, .slice none 0 0] 63)) ?_ ⟨⟨_, rfl, Nat.le_trans hB hS.size, heap_new' _ _⟩, below_box _ _⟩
 go_simp
theorem kpBP (gb g o k cap n x fi : Nat) (t : Int) (R : List Nat) (P : List Pg) (L : List (List Nat)) (B : Nat) : ∀ j v w w', j < 9 -> VBP gb g o k cap n x fi t R P L B j v w -> Fre.Kept w w' -> VBP gb g o k cap n x fi t R P L B j v w' := by
 intro j v w w' hj h hs
 have hc : j = 0 \/ j = 1 \/ j = 2 \/ j = 3 \/ j = 4 \/ j = 5 \/ j = 6 \/ j = 7 \/ j = 8 := by omega
 rcases hc with rfl | rfl | rfl | rfl | rfl | rfl | rfl | rfl | rfl
 ·exact h
 ·exact h
 ·exact h
 ·exact h
 ·change ∃ a c, v = .tuple #[.agg (mtA x R (.slice a n c)), .int .i64 0] /\ w.ownsRow B 100 5 (.slice a n c) n (cellsP P) at h
  obtain ⟨a, c, h1, h2⟩ := h
  exact ⟨a, c, h1, own_up h2 hs⟩
 ·change ∃ a c, v = .tuple #[.agg (mtA x R (.slice a n c)), .int .i64 0] /\ w.ownsRow B 100 5 (.slice a n c) n (cellsP P) at h
  obtain ⟨a, c, h1, h2⟩ := h
  exact ⟨a, c, h1, own_up h2 hs⟩
 ·change ∃ a c, v = .agg (mtA x R (.slice a n c)) /\ w.ownsRow B 100 5 (.slice a n c) n (cellsP P) at h
  obtain ⟨a, c, h1, h2⟩ := h
  exact ⟨a, c, h1, own_up h2 hs⟩
 ·exact h
 ·change ∃ b, v = .pointer (some ⟨b, 0, none⟩) /\ B <= b /\ w.heap[b]? = some (.cells #[.int .u64 0, .int .u64 0, .int .u64 0, .int .u64 0, .int .u64 0, .int .u64 0, .int .u64 0, .int .u64 0, .int .u64 0, .int .u64 0, .int .u64 0, .int .u64 0, .int .u64 0, .int .u64 0, .int .u64 0, .int .u64 0, .int .u64 0, .slice none 0 0] 63 (0, 0)) at h
  obtain ⟨b, h1, h2, h3⟩ := h
  exact ⟨b, h1, h2, (hs.block _ (lt_of_block h3)).trans h3⟩
section
variable {u0 u3 u4 u5 u6 u8 u9 u10 u11 u12 u13 u14 u15 u16 u17 u18 u19 u20 u21 u22 u23 u24 u25 u26 u27 u28 u29 u30 u31 u32 u33 u34 u35 u36 u37 u38 u39 u40 u41 u42 u43 u44 u45 u46 u47 u48 u49 u50 u51 u52 u53 u54 u55 u56 u57 u58 u59 u60 u61 u62 u63 u64 u65 u66 u67 u68 : Value}
theorem finBP (gb g o k cap n x fi : Nat) (t : Int) (R : List Nat) (P : List Pg) (L : List (List Nat)) (B : Nat) (vs : Nat -> Value) : Fre.finT opsBP.1 vs #[u0, .slice (some ⟨g, o, none⟩) k cap, .pointer (some ⟨gb, 0, none⟩), u3, u4, u5, u6, .int .i64 ((fi : Nat) : Int), u8, u9, u10, u11, u12, u13, u14, u15, u16, u17, u18, u19, u20, u21, u22, u23, u24, u25, u26, u27, u28, u29, u30, u31, u32, u33, u34, u35, u36, u37, u38, u39, u40, u41, u42, u43, u44, u45, u46, u47, u48, u49, u50, u51, u52, u53, u54, u55, u56, u57, u58, u59, u60, u61, u62, u63, u64, u65, u66, u67, u68] 9 = #[u0, .slice (some ⟨g, o, none⟩) k cap, .pointer (some ⟨gb, 0, none⟩), u3, u4, u5, u6, .int .i64 ((fi : Nat) : Int), vs 8, u9, u10, u11, u12, u13, u14, u15, u16, u17, u18, u19, u20, u21, u22, u23, u24, u25, u26, u27, u28, u29, vs 5, vs 0, vs 1, vs 2, vs 3, vs 4, vs 6, vs 7, u38, u39, u40, u41, u42, u43, u44, u45, u46, u47, u48, u49, u50, u51, u52, u53, u54, u55, u56, u57, u58, u59, u60, u61, u62, u63, u64, u65, u66, u67, u68] := by kernel_rfl
theorem regionBP (gb g o k cap n x fi : Nat) (t : Int) (R : List Nat) (P : List Pg) (L : List (List Nat)) (B : Nat) (w0 : World) (h0 : w0.heap[gb]? = some (.cells #[.int .i64 (n : Int), .int .i64 t] 31 (0, 0))) (hg : geoB n t = true) (hL : L.length = k) (hfi : fi = 1 + mapsN n) (hk : fi <= k) (hcap : k <= cap) (h256 : ∀ l ∈ L, l.length = 256) (hR : RowsAt w0 (some ⟨g, o, none⟩) L) (hm : metaN n (L.take fi) = some (x, R, P)) (hB : B <= w0.heap.size) {QQ : Exit -> Act -> World -> Prop} (hQ : ∀ (vs : Nat -> Value) w, (∀ j, j < 9 -> VBP gb g o k cap n x fi t R P L B j (vs j) w) -> Fre.Kept w0 w -> wpList Tryz.prog opsBP.1 QQ (opsBP.1.toList.drop 9) ⟨#[u0, .slice (some ⟨g, o, none⟩) k cap, .pointer (some ⟨gb, 0, none⟩), u3, u4, u5, u6, .int .i64 ((fi : Nat) : Int), vs 8, u9, u10, u11, u12, u13, u14, u15, u16, u17, u18, u19, u20, u21, u22, u23, u24, u25, u26, u27, u28, u29, vs 5, vs 0, vs 1, vs 2, vs 3, vs 4, vs 6, vs 7, u38, u39, u40, u41, u42, u43, u44, u45, u46, u47, u48, u49, u50, u51, u52, u53, u54, u55, u56, u57, u58, u59, u60, u61, u62, u63, u64, u65, u66, u67, u68], []⟩ w) (hQ2 : ∀ (vs : Nat -> Value) w, (∀ j, j < 9 -> j ≠ 7 -> VBP gb g o k cap n x fi t R P L B j (vs j) w) -> Fre.Kept w0 w -> wpList Tryz.prog opsBP.1 QQ (opsBP.1[9]'(by rw [sizeBP]; omega) :: opsBP.1[7]'(by rw [sizeBP]; omega) :: opsBP.1.toList.drop 10) ⟨#[u0, .slice (some ⟨g, o, none⟩) k cap, .pointer (some ⟨gb, 0, none⟩), u3, u4, u5, u6, .int .i64 ((fi : Nat) : Int), vs 8, u9, u10, u11, u12, u13, u14, u15, u16, u17, u18, u19, u20, u21, u22, u23, u24, u25, u26, u27, u28, u29, vs 5, vs 0, vs 1, vs 2, vs 3, vs 4, vs 6, u37, u38, u39, u40, u41, u42, u43, u44, u45, u46, u47, u48, u49, u50, u51, u52, u53, u54, u55, u56, u57, u58, u59, u60, u61, u62, u63, u64, u65, u66, u67, u68], []⟩ w) : (Code.region 5 opsBP.1 true).wp Tryz.prog QQ ⟨#[u0, .slice (some ⟨g, o, none⟩) k cap, .pointer (some ⟨gb, 0, none⟩), u3, u4, u5, u6, .int .i64 ((fi : Nat) : Int), u8, u9, u10, u11, u12, u13, u14, u15, u16, u17, u18, u19, u20, u21, u22, u23, u24, u25, u26, u27, u28, u29, u30, u31, u32, u33, u34, u35, u36, u37, u38, u39, u40, u41, u42, u43, u44, u45, u46, u47, u48, u49, u50, u51, u52, u53, u54, u55, u56, u57, u58, u59, u60, u61, u62, u63, u64, u65, u66, u67, u68], []⟩ w0 := by
 refine Fre.region_late 69 9 7 (by omega) (by rw [sizeBP]; omega) (by kernel_rfl) fitBP rfl tailBP (by rw [sizeBP]; omega) (VBP gb g o k cap n x fi t R P L B) (kpBP gb g o k cap n x fi t R P L B) (fun i hi => ?_) (fun vs w h1 h2 => ?_) (fun vs w h1 h3 h2 => ?_)
 case refine_2 => show wpList _ _ _ _ ⟨Fre.finT opsBP.1 vs #[u0, .slice (some ⟨g, o, none⟩) k cap, .pointer (some ⟨gb, 0, none⟩), u3, u4, u5, u6, .int .i64 ((fi : Nat) : Int), u8, u9, u10, u11, u12, u13, u14, u15, u16, u17, u18, u19, u20, u21, u22, u23, u24, u25, u26, u27, u28, u29, u30, u31, u32, u33, u34, u35, u36, u37, u38, u39, u40, u41, u42, u43, u44, u45, u46, u47, u48, u49, u50, u51, u52, u53, u54, u55, u56, u57, u58, u59, u60, u61, u62, u63, u64, u65, u66, u67, u68] 9, []⟩ w; rw [finBP gb g o k cap n x fi t R P L B vs]; exact hQ vs w h1 h2
 case refine_3 =>
  have e3 : vs 7 = u37 := (Option.some.inj (h3 37 (by kernel_rfl))).symm
  show wpList _ _ _ _ ⟨Fre.finT opsBP.1 vs #[u0, .slice (some ⟨g, o, none⟩) k cap, .pointer (some ⟨gb, 0, none⟩), u3, u4, u5, u6, .int .i64 ((fi : Nat) : Int), u8, u9, u10, u11, u12, u13, u14, u15, u16, u17, u18, u19, u20, u21, u22, u23, u24, u25, u26, u27, u28, u29, u30, u31, u32, u33, u34, u35, u36, u37, u38, u39, u40, u41, u42, u43, u44, u45, u46, u47, u48, u49, u50, u51, u52, u53, u54, u55, u56, u57, u58, u59, u60, u61, u62, u63, u64, u65, u66, u67, u68] 9, []⟩ w; rw [finBP gb g o k cap n x fi t R P L B vs, e3]; exact hQ2 vs w h1 h2
 have hc : i = 0 \/ i = 1 \/ i = 2 \/ i = 3 \/ i = 4 \/ i = 5 \/ i = 6 \/ i = 7 \/ i = 8 := by omega
 rcases hc with rfl | rfl | rfl | rfl | rfl | rfl | rfl | rfl | rfl
 ·exact stBP_0 gb g o k cap n x fi t R P L B _ rfl w0 h0 hg hL hfi hk hcap h256 hR hm hB
 ·exact stBP_1 gb g o k cap n x fi t R P L B _ rfl w0 h0 hg hL hfi hk hcap h256 hR hm hB
 ·exact stBP_2 gb g o k cap n x fi t R P L B _ rfl w0 h0 hg hL hfi hk hcap h256 hR hm hB
 ·exact stBP_3 gb g o k cap n x fi t R P L B _  w0 h0 hg hL hfi hk hcap h256 hR hm hB
 ·exact stBP_4 gb g o k cap n x fi t R P L B _  w0 h0 hg hL hfi hk hcap h256 hR hm hB
 ·exact stBP_5 gb g o k cap n x fi t R P L B _  w0 h0 hg hL hfi hk hcap h256 hR hm hB
 ·exact stBP_6 gb g o k cap n x fi t R P L B _  w0 h0 hg hL hfi hk hcap h256 hR hm hB
 ·exact stBP_7 gb g o k cap n x fi t R P L B _  w0 h0 hg hL hfi hk hcap h256 hR hm hB
 ·exact stBP_8 gb g o k cap n x fi t R P L B _  w0 h0 hg hL hfi hk hcap h256 hR hm hB
end
theorem run_build_lk (x : Nat) (R : List Nat) (h16 : R.length = 16) (a : Option Addr) (n c : Nat) (qa : Option Addr) (m d : Nat) (E : Operand -> Value) (o : Oper) (ho : o.op = .build 71 #[(0, .tmp 42), (1, .tmp 45)]) (h57 : E (.tmp 42) = .agg (mtA x R (.slice a n c))) (h62 : E (.tmp 45) = .slice qa m d) (w : World) :
  (execOp E o).run Tryz.prog w = .ok (.value (.agg (lkA x R (.slice a n c) (.slice qa m d) (.slice none 0 0) (.slice none 0 0)))) w := by
 obtain ⟨r0, r1, r2, r3, r4, r5, r6, r7, r8, r9, r10, r11, r12, r13, r14, r15, rfl⟩ := sixteenU h16
 unfold execOp
 simp only [ho]
 unfold mtA at h57
 unfold lkA mtA
 simp only [List.map_cons, List.map_nil, List.cons_append, List.nil_append, List.append_toArray] at h57 ⊢
 go_simp
def opsBL : {o : Array Oper // some o = (Tryz.f8.body.bind (Fre.findR 8))} := ⟨_, rfl⟩
theorem fitBL : Fre.fit .any opsBL.1 69 = true := by kernel_rfl
theorem sizeBL : opsBL.1.size = 7 := by kernel_rfl
def VBL (mb g o k cap n x fi : Nat) (R : List Nat) (pa : Option Addr) (pc : Nat) (B : Nat) (i : Nat) (v : Value) (w : World) : Prop := match i with
 | 0 => v = .agg (mtA x R (.slice pa n pc))
 | 1 => v = .slice (some ⟨g, o, none⟩) k cap
 | 2 => v = .int .i64 ((fi : Nat) : Int)
 | 3 => v = .slice (some ⟨g, subO o cap fi, none⟩) (k - fi) (cap - fi)
 | 4 => v = .agg (lkA x R (.slice pa n pc) (.slice (some ⟨g, subO o cap fi, none⟩) (k - fi) (cap - fi)) (.slice none 0 0) (.slice none 0 0))
 | 5 => ∃ b, v = .pointer (some ⟨b, 0, none⟩) /\ B <= b /\ w.heap[b]? = some (.cells (lkA x R (.slice pa n pc) (.slice (some ⟨g, subO o cap fi, none⟩) (k - fi) (cap - fi)) (.slice none 0 0) (.slice none 0 0)) 71 (0, 0))
 | 6 => ∃ b, v = .pointer (some ⟨b, 0, none⟩) /\ B <= b /\ w.heap[b]? = some (.cells (lkA x R (.slice pa n pc) (.slice (some ⟨g, subO o cap fi, none⟩) (k - fi) (cap - fi)) (.slice none 0 0) (.slice none 0 0)) 71 (0, 0))
 | _ => True
theorem stBL_0 (mb g o k cap n x fi : Nat) (R : List Nat) (pa : Option Addr) (pc : Nat) (B : Nat) (a0 : Act) (g98 : a0.tmps.getD 8 undef = .pointer (some ⟨mb, 0, none⟩)) (w0 : World) (h0 : w0.heap[mb]? = some (.cells (mtA x R (.slice pa n pc)) 63 (0, 0))) (h16 : R.length = 16) (hk : fi <= k) (hcap : k <= cap) (hB : B <= w0.heap.size) : Fre.StepB Tryz.prog opsBL.1 a0 w0 (VBL mb g o k cap n x fi R pa pc B) Fre.Kept 0 := by
 intro E w hc hf hE hV hN hS o ho
 obtain rfl := Option.some.inj ho
 clear ho
 simp only [opsBL, List.getElem_toArray, List.getElem_cons_succ, List.getElem_cons_zero]
 have b8 : E (.tmp 8) = .pointer (some ⟨mb, 0, none⟩) := (hE 8 (by kernel_rfl)).trans g98
 clear g98
 have hb := (hS.block mb (lt_of_block h0)).trans h0
 have hr := run_loadVar_row w mb _ 63 (mtA x R (.slice pa n pc)) _ _ hb Tryz.underlying63 rfl (by rw [meta18, mtA_size, h16])
 refine Fre.Does.value (v := .agg (mtA x R (.slice pa n pc))) (w' := w) ?_ ⟨rfl, Fre.Kept.refl _⟩
 unfold execOp
 simp only [b8, Instr.loadAt, Instr.sureAddr, Sem.run_bind, Sem.run_pure, Result.andThen_ok, hr]
theorem stBL_1 (mb g o k cap n x fi : Nat) (R : List Nat) (pa : Option Addr) (pc : Nat) (B : Nat) (a0 : Act) (g91 : a0.tmps.getD 1 undef = .slice (some ⟨g, o, none⟩) k cap) (w0 : World) (h0 : w0.heap[mb]? = some (.cells (mtA x R (.slice pa n pc)) 63 (0, 0))) (h16 : R.length = 16) (hk : fi <= k) (hcap : k <= cap) (hB : B <= w0.heap.size) : Fre.StepB Tryz.prog opsBL.1 a0 w0 (VBL mb g o k cap n x fi R pa pc B) Fre.Kept 1 := by
 intro E w hc hf hE hV hN hS o ho
 obtain rfl := Option.some.inj ho
 clear ho
 simp only [opsBL, List.getElem_toArray, List.getElem_cons_succ, List.getElem_cons_zero]
 have b1 : E (.tmp 1) = .slice (some ⟨g, o, none⟩) k cap := (hE 1 (by kernel_rfl)).trans g91
 clear g91
 refine Fre.Does.value (v := .slice (some ⟨g, o, none⟩) k cap) (w' := w) ?_ ⟨rfl, Fre.Kept.refl _⟩
 go_simp
theorem stBL_2 (mb g o k cap n x fi : Nat) (R : List Nat) (pa : Option Addr) (pc : Nat) (B : Nat) (a0 : Act) (g97 : a0.tmps.getD 7 undef = .int .i64 ((fi : Nat) : Int)) (w0 : World) (h0 : w0.heap[mb]? = some (.cells (mtA x R (.slice pa n pc)) 63 (0, 0))) (h16 : R.length = 16) (hk : fi <= k) (hcap : k <= cap) (hB : B <= w0.heap.size) : Fre.StepB Tryz.prog opsBL.1 a0 w0 (VBL mb g o k cap n x fi R pa pc B) Fre.Kept 2 := by
 intro E w hc hf hE hV hN hS o ho
 obtain rfl := Option.some.inj ho
 clear ho
 simp only [opsBL, List.getElem_toArray, List.getElem_cons_succ, List.getElem_cons_zero]
 have b7 : E (.tmp 7) = .int .i64 ((fi : Nat) : Int) := (hE 7 (by kernel_rfl)).trans g97
 clear g97
 refine Fre.Does.value (v := .int .i64 ((fi : Nat) : Int)) (w' := w) ?_ ⟨rfl, Fre.Kept.refl _⟩
 go_simp
theorem stBL_3 (mb g o k cap n x fi : Nat) (R : List Nat) (pa : Option Addr) (pc : Nat) (B : Nat) (a0 : Act)  (w0 : World) (h0 : w0.heap[mb]? = some (.cells (mtA x R (.slice pa n pc)) 63 (0, 0))) (h16 : R.length = 16) (hk : fi <= k) (hcap : k <= cap) (hB : B <= w0.heap.size) : Fre.StepB Tryz.prog opsBL.1 a0 w0 (VBL mb g o k cap n x fi R pa pc B) Fre.Kept 3 := by
 intro E w hc hf hE hV hN hS o ho
 obtain rfl := Option.some.inj ho
 clear ho
 simp only [opsBL, List.getElem_toArray, List.getElem_cons_succ, List.getElem_cons_zero]
 have d1 := hV 1 43 (by kernel_rfl) (by kernel_rfl)
 have d1 : E (.tmp 43) = .slice (some ⟨g, o, none⟩) k cap := d1
 have d2 := hV 2 44 (by kernel_rfl) (by kernel_rfl)
 have d2 : E (.tmp 44) = .int .i64 ((fi : Nat) : Int) := d2
 have hr := run_subRl g o k cap fi (by omega) w
 refine Fre.Does.value (v := .slice (some ⟨g, subO o cap fi, none⟩) (k - fi) (cap - fi)) (w' := w) ?_ ⟨rfl, Fre.Kept.refl _⟩
 unfold execOp
 simp only [d1, d2, Option.map_some, Option.map_none, Sem.run_bind, hr, Result.andThen_ok]
 rfl
theorem stBL_4 (mb g o k cap n x fi : Nat) (R : List Nat) (pa : Option Addr) (pc : Nat) (B : Nat) (a0 : Act)  (w0 : World) (h0 : w0.heap[mb]? = some (.cells (mtA x R (.slice pa n pc)) 63 (0, 0))) (h16 : R.length = 16) (hk : fi <= k) (hcap : k <= cap) (hB : B <= w0.heap.size) : Fre.StepB Tryz.prog opsBL.1 a0 w0 (VBL mb g o k cap n x fi R pa pc B) Fre.Kept 4 := by
 intro E w hc hf hE hV hN hS o ho
 obtain rfl := Option.some.inj ho
 clear ho
 simp only [opsBL, List.getElem_toArray, List.getElem_cons_succ, List.getElem_cons_zero]
 have d0 := hV 0 42 (by kernel_rfl) (by kernel_rfl)
 have d0 : E (.tmp 42) = .agg (mtA x R (.slice pa n pc)) := d0
 have d3 := hV 3 45 (by kernel_rfl) (by kernel_rfl)
 have d3 : E (.tmp 45) = .slice (some ⟨g, subO o cap fi, none⟩) (k - fi) (cap - fi) := d3
 refine Fre.Does.value (v := .agg (lkA x R (.slice pa n pc) (.slice (some ⟨g, subO o cap fi, none⟩) (k - fi) (cap - fi)) (.slice none 0 0) (.slice none 0 0))) (w' := w) ?_ ⟨rfl, Fre.Kept.refl _⟩
 exact run_build_lk x R h16 _ _ _ _ _ _ E _ rfl d0 d3 w
theorem stBL_5 (mb g o k cap n x fi : Nat) (R : List Nat) (pa : Option Addr) (pc : Nat) (B : Nat) (a0 : Act)  (w0 : World) (h0 : w0.heap[mb]? = some (.cells (mtA x R (.slice pa n pc)) 63 (0, 0))) (h16 : R.length = 16) (hk : fi <= k) (hcap : k <= cap) (hB : B <= w0.heap.size) : Fre.StepB Tryz.prog opsBL.1 a0 w0 (VBL mb g o k cap n x fi R pa pc B) Fre.Kept 5 := by
 intro E w hc hf hE hV hN hS o ho
 obtain rfl := Option.some.inj ho
 clear ho
 simp only [opsBL, List.getElem_toArray, List.getElem_cons_succ, List.getElem_cons_zero]
 have d4 := hV 4 46 (by kernel_rfl) (by kernel_rfl)
 have d4 : E (.tmp 46) = .agg (lkA x R (.slice pa n pc) (.slice (some ⟨g, subO o cap fi, none⟩) (k - fi) (cap - fi)) (.slice none 0 0) (.slice none 0 0)) := d4
 refine Fre.Does.value (v := .pointer (some ⟨w.heap.size, 0, none⟩)) (w' := w.alloc (.cells (lkA x R (.slice pa n pc) (.slice (some ⟨g, subO o cap fi, none⟩) (k - fi) (cap - fi)) (.slice none 0 0) (.slice none 0 0)) 71)) ?_ ⟨⟨_, rfl, Nat.le_trans hB hS.size, heap_new' _ _⟩, below_box _ _⟩
 unfold execOp
 simp only [d4]
 go_simp
theorem stBL_6 (mb g o k cap n x fi : Nat) (R : List Nat) (pa : Option Addr) (pc : Nat) (B : Nat) (a0 : Act)  (w0 : World) (h0 : w0.heap[mb]? = some (.cells (mtA x R (.slice pa n pc)) 63 (0, 0))) (h16 : R.length = 16) (hk : fi <= k) (hcap : k <= cap) (hB : B <= w0.heap.size) : Fre.StepB Tryz.prog opsBL.1 a0 w0 (VBL mb g o k cap n x fi R pa pc B) Fre.Kept 6 := by
 intro E w hc hf hE hV hN hS o ho
 obtain rfl := Option.some.inj ho
 clear ho
 simp only [opsBL, List.getElem_toArray, List.getElem_cons_succ, List.getElem_cons_zero]
 have d5 := hV 5 47 (by kernel_rfl) (by kernel_rfl)
 replace d5 : (fun v : Value => ∃ b, v = .pointer (some ⟨b, 0, none⟩) /\ B <= b /\ w.heap[b]? = some (.cells (lkA x R (.slice pa n pc) (.slice (some ⟨g, subO o cap fi, none⟩) (k - fi) (cap - fi)) (.slice none 0 0) (.slice none 0 0)) 71 (0, 0))) (E (.tmp 47)) := d5
 simp only at d5
 refine Fre.Does.value (v := E (.tmp 47)) (w' := w) ?_ ⟨d5, Fre.Kept.refl _⟩
 go_simp
theorem kpBL (mb g o k cap n x fi : Nat) (R : List Nat) (pa : Option Addr) (pc : Nat) (B : Nat) : ∀ j v w w', j < opsBL.1.size -> VBL mb g o k cap n x fi R pa pc B j v w -> Fre.Kept w w' -> VBL mb g o k cap n x fi R pa pc B j v w' := by
 intro j v w w' hj h hs
 rw [sizeBL] at hj
 have hc : j = 0 \/ j = 1 \/ j = 2 \/ j = 3 \/ j = 4 \/ j = 5 \/ j = 6 := by omega
 rcases hc with rfl | rfl | rfl | rfl | rfl | rfl | rfl
 ·exact h
 ·exact h
 ·exact h
 ·exact h
 ·exact h
 ·change ∃ b, v = .pointer (some ⟨b, 0, none⟩) /\ B <= b /\ w.heap[b]? = some (.cells (lkA x R (.slice pa n pc) (.slice (some ⟨g, subO o cap fi, none⟩) (k - fi) (cap - fi)) (.slice none 0 0) (.slice none 0 0)) 71 (0, 0)) at h
  obtain ⟨b, h1, h2, h3⟩ := h
  exact ⟨b, h1, h2, (hs.block _ (lt_of_block h3)).trans h3⟩
 ·change ∃ b, v = .pointer (some ⟨b, 0, none⟩) /\ B <= b /\ w.heap[b]? = some (.cells (lkA x R (.slice pa n pc) (.slice (some ⟨g, subO o cap fi, none⟩) (k - fi) (cap - fi)) (.slice none 0 0) (.slice none 0 0)) 71 (0, 0)) at h
  obtain ⟨b, h1, h2, h3⟩ := h
  exact ⟨b, h1, h2, (hs.block _ (lt_of_block h3)).trans h3⟩
section
variable {u0 u2 u3 u4 u5 u6 u9 u10 u11 u12 u13 u14 u15 u16 u17 u18 u19 u20 u21 u22 u23 u24 u25 u26 u27 u28 u29 u30 u31 u32 u33 u34 u35 u36 u37 u38 u39 u40 u41 u42 u43 u44 u45 u46 u47 u48 u49 u50 u51 u52 u53 u54 u55 u56 u57 u58 u59 u60 u61 u62 u63 u64 u65 u66 u67 u68 : Value}
theorem finBL (mb g o k cap n x fi : Nat) (R : List Nat) (pa : Option Addr) (pc : Nat) (B : Nat) (vs : Nat -> Value) : Fre.finT opsBL.1 vs #[u0, .slice (some ⟨g, o, none⟩) k cap, u2, u3, u4, u5, u6, .int .i64 ((fi : Nat) : Int), .pointer (some ⟨mb, 0, none⟩), u9, u10, u11, u12, u13, u14, u15, u16, u17, u18, u19, u20, u21, u22, u23, u24, u25, u26, u27, u28, u29, u30, u31, u32, u33, u34, u35, u36, u37, u38, u39, u40, u41, u42, u43, u44, u45, u46, u47, u48, u49, u50, u51, u52, u53, u54, u55, u56, u57, u58, u59, u60, u61, u62, u63, u64, u65, u66, u67, u68] opsBL.1.size = #[u0, .slice (some ⟨g, o, none⟩) k cap, u2, u3, u4, u5, u6, .int .i64 ((fi : Nat) : Int), .pointer (some ⟨mb, 0, none⟩), u9, vs 6, u11, u12, u13, u14, u15, u16, u17, u18, u19, u20, u21, u22, u23, u24, u25, u26, u27, u28, u29, u30, u31, u32, u33, u34, u35, u36, u37, u38, u39, u40, u41, vs 0, vs 1, vs 2, vs 3, vs 4, vs 5, u48, u49, u50, u51, u52, u53, u54, u55, u56, u57, u58, u59, u60, u61, u62, u63, u64, u65, u66, u67, u68] := by kernel_rfl
theorem regionBL (mb g o k cap n x fi : Nat) (R : List Nat) (pa : Option Addr) (pc : Nat) (B : Nat) (w0 : World) (h0 : w0.heap[mb]? = some (.cells (mtA x R (.slice pa n pc)) 63 (0, 0))) (h16 : R.length = 16) (hk : fi <= k) (hcap : k <= cap) (hB : B <= w0.heap.size) {QQ : Exit -> Act -> World -> Prop} (hQ : ∀ (vs : Nat -> Value) w, (∀ j, j < 7 -> VBL mb g o k cap n x fi R pa pc B j (vs j) w) -> Fre.Kept w0 w -> QQ .normal ⟨#[u0, .slice (some ⟨g, o, none⟩) k cap, u2, u3, u4, u5, u6, .int .i64 ((fi : Nat) : Int), .pointer (some ⟨mb, 0, none⟩), u9, vs 6, u11, u12, u13, u14, u15, u16, u17, u18, u19, u20, u21, u22, u23, u24, u25, u26, u27, u28, u29, u30, u31, u32, u33, u34, u35, u36, u37, u38, u39, u40, u41, vs 0, vs 1, vs 2, vs 3, vs 4, vs 5, u48, u49, u50, u51, u52, u53, u54, u55, u56, u57, u58, u59, u60, u61, u62, u63, u64, u65, u66, u67, u68], []⟩ w) : (Code.region 8 opsBL.1 true).wp Tryz.prog QQ ⟨#[u0, .slice (some ⟨g, o, none⟩) k cap, u2, u3, u4, u5, u6, .int .i64 ((fi : Nat) : Int), .pointer (some ⟨mb, 0, none⟩), u9, u10, u11, u12, u13, u14, u15, u16, u17, u18, u19, u20, u21, u22, u23, u24, u25, u26, u27, u28, u29, u30, u31, u32, u33, u34, u35, u36, u37, u38, u39, u40, u41, u42, u43, u44, u45, u46, u47, u48, u49, u50, u51, u52, u53, u54, u55, u56, u57, u58, u59, u60, u61, u62, u63, u64, u65, u66, u67, u68], []⟩ w0 := by
 refine Fre.region_kept 69 (by kernel_rfl) fitBL rfl (VBL mb g o k cap n x fi R pa pc B) (kpBL mb g o k cap n x fi R pa pc B) (fun i hi => ?_) (fun vs w h1 h2 => ?_)
 case refine_2 =>
  have e9 := @finBL u0 u2 u3 u4 u5 u6 u9 u10 u11 u12 u13 u14 u15 u16 u17 u18 u19 u20 u21 u22 u23 u24 u25 u26 u27 u28 u29 u30 u31 u32 u33 u34 u35 u36 u37 u38 u39 u40 u41 u42 u43 u44 u45 u46 u47 u48 u49 u50 u51 u52 u53 u54 u55 u56 u57 u58 u59 u60 u61 u62 u63 u64 u65 u66 u67 u68 mb g o k cap n x fi R pa pc B vs
  have h9 := hQ vs w (fun j hj => h1 j (by rw [sizeBL]; exact hj)) h2
  rw [<- e9] at h9
  exact h9
 rw [sizeBL] at hi
 have hc : i = 0 \/ i = 1 \/ i = 2 \/ i = 3 \/ i = 4 \/ i = 5 \/ i = 6 := by omega
 rcases hc with rfl | rfl | rfl | rfl | rfl | rfl | rfl
 ·exact stBL_0 mb g o k cap n x fi R pa pc B _ rfl w0 h0 h16 hk hcap hB
 ·exact stBL_1 mb g o k cap n x fi R pa pc B _ rfl w0 h0 h16 hk hcap hB
 ·exact stBL_2 mb g o k cap n x fi R pa pc B _ rfl w0 h0 h16 hk hcap hB
 ·exact stBL_3 mb g o k cap n x fi R pa pc B _  w0 h0 h16 hk hcap hB
 ·exact stBL_4 mb g o k cap n x fi R pa pc B _  w0 h0 h16 hk hcap hB
 ·exact stBL_5 mb g o k cap n x fi R pa pc B _  w0 h0 h16 hk hcap hB
 ·exact stBL_6 mb g o k cap n x fi R pa pc B _  w0 h0 h16 hk hcap hB
end
end Go.Proofs.YtpbmjfjnmcpieaaGreat
