/- Lemmas for the proof. -/
import Derived.Test.YtnmdjggdgakeoaaGreatPXb
import Derived.Laws.BytesString
import Derived.Laws.IdiomStrings
import Derived.Lib.BufferRead
import Derived.Maps.AppendAt
import Derived.Maps.Keyed
import Derived.DeepKeys4
import Derived.Lib.AppendZerosOnto
import Derived.Lib.Walk
set_option maxRecDepth 100000
set_option maxHeartbeats 16000000
set_option linter.unusedVariables false
set_option linter.unusedSimpArgs false
set_option linter.unusedSectionVars false
namespace Go.Proofs.YtnmdjggdgakeoaaGreat
open Go Go.RowKit
def BytesAt (w : World) (a : Option Addr) (cap : Nat) (l : List Nat) : Prop :=
 (∀ x ∈ l, x < 256) /\ (0 < l.length -> ∃ g o, a = some ⟨g, o, none⟩ /\ l.length <= cap /\ g < w.heap.size /\ ∀ j, j < l.length -> w.cell? ⟨g, o + j, none⟩ = some (.int .u8 ((l.getD j 0 : Nat) : Int)))
theorem BytesAt.up {w w' : World} {a : Option Addr} {cap : Nat} {l : List Nat} (h : BytesAt w a cap l) {B : Nat} (hb : Below B w w') (hB : w.heap.size <= B) : BytesAt w' a cap l := by
 refine ⟨h.1, fun h0 => ?_⟩
 obtain ⟨g, o, h1, h2, h3, h4⟩ := h.2 h0
 exact ⟨g, o, h1, h2, Nat.lt_of_lt_of_le h3 hb.size, fun j hj => (hb.cell (p := ⟨g, o + j, none⟩) (Nat.lt_of_lt_of_le h3 hB)).trans (h4 j hj)⟩
theorem getD_lt {l : List Nat} (h : ∀ x ∈ l, x < 256) (j : Nat) : l.getD j 0 < 256 := by
 rw [List.getD_eq_getElem?_getD]
 rcases Nat.lt_or_ge j l.length with hj | hj
 ·rw [List.getElem?_eq_getElem hj]; exact h _ (List.getElem_mem _)
 ·rw [List.getElem?_eq_none hj]; decide
theorem bytesAt_block {w : World} {q : Nat} {l : List Nat} {z : Nat × Nat} (hb : ∀ x ∈ l, x < 256) (h : w.heap[q]? = some (.cells (bA l) 5 z)) : BytesAt w (some ⟨q, 0, none⟩) l.length l :=
 ⟨hb, fun _ => ⟨q, 0, rfl, Nat.le_refl _, lt_of_block h, fun j hj => by rw [Nat.zero_add, cells_at h j, bA_get l j hj]⟩⟩
def strV (l : List Nat) : Value := .string ⟨(l.map UInt8.ofNat).toArray⟩
theorem run_conv {w : World} {a : Option Addr} {cap : Nat} {l : List Nat} (h : BytesAt w a cap l) : (convert 22 9 (.slice a l.length cap)).run Tryz.prog w = .ok (strV l) w := by
 by_cases h0 : l.length = 0
 ·have hl : l = [] := List.length_eq_zero_iff.1 h0
  subst hl;rw [run_convert_bytes_string w _ _ 5 a _ cap Tryz.underlying22 Tryz.underlying5 Tryz.underlying9]
  cases a with
  | none => simp [Conv.bytesToString, strV]; rfl
  | some p =>
   have := run_bytesToString (P := Tryz.prog) w p 0 cap [] (by simp [loadCells]; rfl)
   simp only [List.length_nil]
   rw [this]; rfl
 ·obtain ⟨g, o, rfl, h2, h3, h4⟩ := h.2 (by omega)
  have := run_convert_bytes_back (P := Tryz.prog) w 22 9 5 ⟨g, o, none⟩ cap (l.map UInt8.ofNat) Tryz.underlying22 Tryz.underlying5 Tryz.underlying9 (fun j hj => by
   have hj' : j < l.length := by simpa using hj
   have e1 : (⟨g, o, none⟩ : Addr).add j = ⟨g, o + j, none⟩ := by
    unfold Addr.add; split
    ·next h => subst h; rfl
    ·rfl
   have hlt := h.1 _ (List.getElem_mem (l := l) (h := hj'))
   rw [e1, h4 j hj', List.getD_eq_getElem?_getD, List.getElem?_eq_getElem hj']
   simp [Nat.mod_eq_of_lt hlt])
  rw [List.length_map] at this;exact this
theorem run_conv_op {w : World} {a : Option Addr} {cap n : Nat} {l : List Nat} (hl : l.length = n) (h : BytesAt w a cap l) (E : Operand -> Value) (x : Operand) (o : Oper) (ho : o.op = .convert 22 9 x) (hx : E x = .slice a n cap) :
  (execOp E o).run Tryz.prog w = .ok (.value (strV l)) w := by
 subst hl;unfold execOp;simp only [ho, hx, Sem.run_bind, run_conv h, Result.andThen_ok]
 rfl
theorem wp_conv {o : Oper} {a : Act} {w : World} {K : Act -> World -> Prop} {Q : Exit -> Act -> World -> Prop} (x : Operand) {s : Option Addr} {cap n : Nat} {l : List Nat} (hl : l.length = n) (h : BytesAt w s cap l) (ho : o.op = .convert 22 9 x)
  (hx : a.eval x = .slice s n cap) (hK : K (a.put o.dst (strV l)) w) : o.wp Tryz.prog a w K Q := by
 unfold Oper.wp
 rw [run_conv_op hl h a.eval x o ho hx]
 exact hK
theorem strV_inj {l m : List Nat} (hl : ∀ x ∈ l, x < 256) (hm : ∀ x ∈ m, x < 256) (h : l.map UInt8.ofNat = m.map UInt8.ofNat) : l = m := by
 have e : ∀ k : List Nat, (∀ x ∈ k, x < 256) -> (k.map UInt8.ofNat).map UInt8.toNat = k := by
  intro k hk;rw [List.map_map]
  conv => rhs; rw [<- List.map_id k]
  apply List.map_congr_left
  intro x hx;simp [Nat.mod_eq_of_lt (hk x hx)]
 rw [<- e l hl, <- e m hm, h]
theorem run_eqs (l m : List Nat) (hl : ∀ x ∈ l, x < 256) (hm : ∀ x ∈ m, x < 256) (E : Operand -> Value) (x y : Operand) (t : TypeId) (o : Oper) (ho : o.op = .binOp .eql 9 x y t) (hx : E x = strV l) (hy : E y = strV m) (w : World) :
  (execOp E o).run Tryz.prog w = .ok (.value (.bool (decide (l = m)))) w := by
 have key : (l.map UInt8.ofNat == m.map UInt8.ofNat) = decide (l = m) := by
  by_cases h : l = m
  ·subst h; simp
  ·have hne : l.map UInt8.ofNat ≠ m.map UInt8.ofNat := fun h' => h (strV_inj hl hm h')
   simp [h, hne]
 unfold execOp;simp only [ho, hx, hy]
 unfold strV
 go_simp
theorem add_plain (g o j : Nat) : (⟨g, o, none⟩ : Addr).add j = ⟨g, o + j, none⟩ := by
 unfold Addr.add; split
 ·next h => subst h; rfl
 ·rfl
theorem run_append_bytes {w : World} (ty : TypeId) {base n : Nat} {v : Value} {xs : List Value} (hown : w.ownsRow base 5 1 v n xs) {a : Option Addr} {cap m : Nat} {l : List Nat} (hm : l.length = m) (hB : BytesAt w a cap l) (hnil : a = none -> cap = 0) (h63 : n + m <= 1000000) (hbase : base <= w.heap.size) :
  ∃ v' w', (Builtin.append_ #[22, 22] ty #[v, .slice a m cap]).run Tryz.prog w = .ok v' w' /\ w'.ownsRow base 5 1 v' (n + m) (xs ++ (bA l).toList) /\ w.grownBy w' v.ownBlock := by
 obtain ⟨i0, hi, hz0, hz1, hz2⟩ := info_parts u8info
 cases a with
 | none =>
  have hm0 : m = 0 := by
   rcases Nat.eq_zero_or_pos m with h | h
   ·exact h
   ·obtain ⟨_, _, h1, _⟩ := hB.2 (by omega); cases h1
  have hc := hnil rfl
  subst hm0; subst hc;have hl : l = [] := List.length_eq_zero_iff.1 hm
  subst hl;refine ⟨v, w, run_append_owned_none w base 22 ty 5 i0 1 Tryz.underlying22 hi v n xs hown, ?_, World.grownBy.refl w _⟩
  simpa [bA] using hown
 | some ad =>
  have hnews : ∀ j u, (bA l).toList[j]? = some u -> w.cell? (ad.add j) = some u := by
   intro j u hu;have hj : j < l.length := by
    have := (List.getElem?_eq_some_iff.1 hu).1; simpa [bA] using this
   obtain ⟨g, o, h1, h2, h3, h4⟩ := hB.2 (by omega)
   cases h1
   rw [add_plain, h4 j hj]
   rw [Array.getElem?_toList, bA_get l j hj] at hu
   exact hu
  obtain ⟨v', w', h1, h2, h3, _⟩ := run_append_own_at (P := Tryz.prog) w base 22 ty 5 i0 _ 1 1 Tryz.underlying22 hi hz0 hz1 hz2 rfl (by omega) v n xs hown ad m cap (bA l).toList (by simp [bA, hm]) hnews (by simp [bA, Value.oneCell']) (by unfold maxLen; omega) (by omega) hbase
  exact ⟨v', w', h1, h2, h3⟩
theorem wpList_append_bytes {w : World} {ops : Array Oper} {rest : List Oper} {o : Oper} {A : Act} {Q : Exit -> Act -> World -> Prop} (hgd : o.guard = none) (s x : Operand)
  (ho : o.op = .call { callee := .builtin .append, args := #[s, x], argTypes := #[22, 22] }) {base n : Nat} {v : Value} {xs : List Value} (hs : A.eval s = v) (hown : w.ownsRow base 5 1 v n xs)
  {a : Option Addr} {cap m : Nat} {l : List Nat} (hx : A.eval x = .slice a m cap) (hm : l.length = m) (hB : BytesAt w a cap l) (hnil : a = none -> cap = 0) (h63 : n + m <= 1000000) (hbase : base <= w.heap.size)
  (h : ∀ v' w', w'.ownsRow base 5 1 v' (n + m) (xs ++ (bA l).toList) -> w.grownBy w' v.ownBlock -> wpList Tryz.prog ops Q rest (A.put o.dst v') w') : wpList Tryz.prog ops Q (o :: rest) A w :=
 wpList_plain hgd fun _ hK => by
  obtain ⟨v', w', h1, h2, h3⟩ := run_append_bytes o.type hown hm hB hnil h63 hbase
  unfold Oper.wp execOp
  simp only [ho, resolve, invoke, builtin, Sem.run_bind, Sem.run_pure, Result.andThen_ok, List.map_toArray, List.map_cons, List.map_nil, hs, hx, h1]
  exact hK _ _ (h v' w' h2 h3)
def lenV : Value -> Nat
 | .slice _ n _ => n
 | _ => 0
theorem own_none0 {w : World} {base : Nat} (h : base <= w.heap.size) : (w.alloc (Obj.cells #[] 5)).ownsRow base 5 1 (.slice (some ⟨w.heap.size, 0, none⟩) 0 0) 0 [] :=
 ⟨rfl, .inr ⟨_, 0, #[], rfl, h, heap_new' _ _, Nat.le_refl _, Nat.zero_le _, rfl, rfl⟩⟩
theorem wpList_conv {w : World} {ops : Array Oper} {rest : List Oper} {o : Oper} {A : Act} {Q : Exit -> Act -> World -> Prop} (hgd : o.guard = none) (x : Operand) {s : Option Addr} {cap n : Nat} {l : List Nat} (hl : l.length = n) (h : BytesAt w s cap l) (ho : o.op = .convert 22 9 x)
  (hx : A.eval x = .slice s n cap) (hK : wpList Tryz.prog ops Q rest (A.put o.dst (strV l)) w) : wpList Tryz.prog ops Q (o :: rest) A w :=
 wpList_plain hgd fun _ hk => wp_conv x hl h ho hx (hk _ _ hK)
theorem wpList_eqs {w : World} {ops : Array Oper} {rest : List Oper} {o : Oper} {A : Act} {Q : Exit -> Act -> World -> Prop} (hgd : o.guard = none) (x y : Operand) (t : TypeId) (l m : List Nat) (hl : ∀ x ∈ l, x < 256) (hm : ∀ x ∈ m, x < 256) (ho : o.op = .binOp .eql 9 x y t)
  (hx : A.eval x = strV l) (hy : A.eval y = strV m) (hK : wpList Tryz.prog ops Q rest (A.put o.dst (.bool (decide (l = m)))) w) : wpList Tryz.prog ops Q (o :: rest) A w :=
 wpList_plain hgd fun _ hk => by
  unfold Oper.wp
  rw [run_eqs l m hl hm A.eval x y t o ho hx hy w]
  exact hk _ _ hK
theorem clone_c (q o cap n : Nat) (l : List Nat) (e1 : l.length = n) (hn : n <= 65536) (w : World) (h1 : BytesAt w (some ⟨q, o, none⟩) cap l) (h0 : 0 < n) :
  Calls Tryz.prog 20 #[.slice (some ⟨q, o, none⟩) n cap] w fun e w' => ∃ g cp, e = .returned (.slice (some ⟨g, 0, none⟩) n cp) /\ w.heap.size <= g /\ BytesAt w' (some ⟨g, 0, none⟩) cp l /\ Below w.heap.size w w' := by
 have HE := Lib.hid e1;have HOWN0 : Hid ((w.alloc (Obj.cells #[] 5)).ownsRow w.heap.size 5 1 (.slice (some ⟨w.heap.size, 0, none⟩) 0 0) 0 []) := own_none0 (Nat.le_refl _)
 have HBE0 : Hid (Below w.heap.size w (w.alloc (Obj.cells #[] 5))) := (Below.refl _ _).alloc (Nat.le_refl _) _
 have HB0 : Hid (BytesAt (w.alloc (Obj.cells #[] 5)) (some ⟨q, o, none⟩) cap l) := h1.up HBE0.out (Nat.le_refl _)
 have hnn : ∀ w : World, (binOp .eql 22 (.slice (some ⟨q, o, none⟩) n cap) (.slice none 0 0)).run Tryz.prog w = .ok (.bool false) w := fun w => by first | rfl | kernel_rfl | (simp [binOp, Op.equal]; done)
 clear h1 e1
 go_enter Tryz.func20, Tryz.ntmps20
 go_wp2_with (first
  | (refine wpList_append_bytes (v := .slice (some ⟨w.heap.size, 0, none⟩) 0 0) (base := w.heap.size) (n := 0) (xs := []) rfl (.tmp 5) (.tmp 6) rfl rfl HOWN0.out rfl HE.out HB0.out (fun h => by cases h) (by omega) (by rw [World.size_alloc]; omega) ?_; intro v1 w1 hown1 hgrow1; have HOWN1 := Lib.hid hown1; have HBEL : Hid (Below w.heap.size w w1) := HBE0.out.grown hgrow1 (by rw [World.size_alloc]; omega) (fun q e => by simp [Value.ownBlock] at e; omega); clear hown1 hgrow1)
  | fail)
 go_ret
 have hown := HOWN1.out
 rw [Nat.zero_add, List.nil_append] at hown
 rcases hown.2 with ⟨_, h⟩ | ⟨g', cap', cur, h, e2, e3, e4, e5, e6, e7⟩
 ·omega
 ·subst h
  refine ⟨g', cap', rfl, e2, ⟨HB0.out.1, fun _ => ⟨g', 0, rfl, by have := HE.out; omega, lt_of_block e3, fun j hj => ?_⟩⟩, HBEL.out⟩
  rw [Nat.zero_add, cells_at e3 j]
  have := congrArg (fun l => l[j]?) e7
  have := HE.out
  simp only [Nat.mul_one] at *
  rw [List.getElem?_take_of_lt (by omega), Array.getElem?_toList, Array.getElem?_toList, bA_get _ j hj] at *
  assumption
structure KeyTy (P : Program) (kt et mt : TypeId) {α : Type} (kv : α -> Value) (good : α -> Prop) : Prop where
 und : P.underlying mt = some (.map kt et)
 keyed : Go.Maps.Keyed P kt
 key : ∀ x, good x -> ∃ l, Go.keyOf P kt (kv x) = some l
 inj : ∀ x y, kv x = kv y -> x = y
 zero : ∀ w, (zeroValue et).run P w = .ok (.slice none 0 0) w
structure MEnt (α : Type) where
 k : α
 q : Nat
 c : Nat
 b : List Nat
structure MapB {α : Type} (kv : α -> Value) (good : α -> Prop) (w : World) (m : Nat) (M : List (MEnt α)) : Prop where
 ex : ∃ es clock, w.heap[m]? = some (.map es clock) /\ es.size = M.length /\ clock = es.size /\ ∀ (i : Nat) e x, es[i]? = some e -> M[i]? = some x -> e.key = kv x.k /\ e.val = .slice (some ⟨x.q, 0, none⟩) x.b.length x.c /\ e.born = i
 bytes : ∀ x ∈ M, good x.k /\ 0 < x.b.length /\ BytesAt w (some ⟨x.q, 0, none⟩) x.c x.b
 dist : M.Pairwise fun x y => x.k ≠ y.k
section
variable {P : Program} {kt et mt : TypeId} {α : Type} {kv : α -> Value} {good : α -> Prop}
def mapS (m : Nat) (M : List (MEnt α)) : BSet := fun k => k = m \/ ∃ x ∈ M, x.q = k
theorem bytes_same {w w' : World} {q o c : Nat} {l : List Nat} (h : BytesAt w (some ⟨q, o, none⟩) c l) (he : w'.heap[q]? = w.heap[q]?) : BytesAt w' (some ⟨q, o, none⟩) c l := by
 refine ⟨h.1, fun h0 => ?_⟩
 obtain ⟨g, o', e1, e2, e3, e4⟩ := h.2 h0
 cases e1
 refine ⟨_, _, rfl, e2, ?_, fun j hj => by rw [<- e4 j hj]; simp [World.cell?, he]⟩
 have := he.trans (Array.getElem?_eq_getElem e3)
 exact (Array.getElem?_eq_some_iff.1 this).1
theorem MapB.on {w : World} {m : Nat} {M : List (MEnt α)} (h : MapB kv good w m M) : On (mapS m M) (fun w => MapB kv good w m M) w := by
 refine ⟨h, ?_, fun w' he => ⟨?_, fun x hx => ?_, h.dist⟩⟩
 ·rintro k (rfl | ⟨x, hx, rfl⟩)
  ·obtain ⟨es, clock, h1, _⟩ := h.ex
   exact (Array.getElem?_eq_some_iff.1 h1).1
  ·obtain ⟨_, h0, hb⟩ := h.bytes x hx
   obtain ⟨g, o, e1, _, e3, _⟩ := hb.2 h0
   cases e1; exact e3
 ·obtain ⟨es, clock, h1, h2⟩ := h.ex
  exact ⟨es, clock, (he m (.inl rfl)).trans h1, h2⟩
 ·obtain ⟨h1, h2, h3⟩ := h.bytes x hx
  exact ⟨h1, h2, bytes_same h3 (he x.q (.inr ⟨x, hx, rfl⟩))⟩
theorem MapB.made (w : World) : MapB kv good (w.alloc (.map #[] 0)) w.heap.size [] :=
 ⟨⟨#[], 0, World.alloc_heap_new w _, rfl, rfl, fun i e x h => by simp at h⟩, fun x hx => (by cases hx), List.Pairwise.nil⟩
theorem MapB.keys {w : World} {m : Nat} {M : List (MEnt α)} (R : KeyTy P kt et mt kv good) (h : MapB kv good w m M) {es : Array MapEntry} {clock : Nat} (hb : w.heap[m]? = some (.map es clock)) :
  (∀ e ∈ es.toList, ∃ l, Go.keyOf P kt e.key = some l) /\ ∀ (j : Nat) e, es.toList[j]? = some e -> ∃ x, M[j]? = some x /\ e.key = kv x.k /\ e.val = .slice (some ⟨x.q, 0, none⟩) x.b.length x.c := by
 obtain ⟨es', clock', h1, h2, _, h3⟩ := h.ex
 rw [hb] at h1
 cases h1
 have hgo : ∀ (j : Nat) e, es.toList[j]? = some e -> ∃ x, M[j]? = some x /\ e.key = kv x.k /\ e.val = .slice (some ⟨x.q, 0, none⟩) x.b.length x.c := fun j e he => by
  rw [Array.getElem?_toList] at he
  have hj := (Array.getElem?_eq_some_iff.1 he).1
  have hm : j < M.length := by omega
  obtain ⟨a1, a2, _⟩ := h3 j e M[j] he (List.getElem?_eq_getElem hm)
  exact ⟨M[j], List.getElem?_eq_getElem hm, a1, a2⟩
 refine ⟨fun e he => ?_, hgo⟩
 obtain ⟨j, hj, hje⟩ := List.getElem_of_mem he
 obtain ⟨x, hx, hk, _⟩ := hgo j e (by rw [List.getElem?_eq_getElem hj, hje])
 rw [hk];exact R.key x.k (h.bytes x (List.mem_of_getElem? hx)).1
theorem MapB.look {w : World} {m : Nat} {M : List (MEnt α)} (R : KeyTy P kt et mt kv good) (h : MapB kv good w m M) (k : α) (hk : good k) :
  ((Instr.lookup mt (.map (some m)) (kv k) true).run P w = .ok (.tuple #[.slice none 0 0, .bool false]) w /\ ∀ x ∈ M, x.k ≠ k) \/
  ∃ x ∈ M, x.k = k /\ (Instr.lookup mt (.map (some m)) (kv k) true).run P w = .ok (.tuple #[.slice (some ⟨x.q, 0, none⟩) x.b.length x.c, .bool true]) w := by
 obtain ⟨es, clock, hb, hlen, hcl, hF⟩ := h.ex
 obtain ⟨l, hl⟩ := R.key k hk
 obtain ⟨hall, hgo⟩ := h.keys R hb
 rcases R.keyed.find w hl es.toList hall with ⟨f1, f2⟩ | ⟨j, e0, f1, f2, f3⟩
 ·refine .inl ⟨by simp [Instr.lookup, run_underlying R.und, MapKept.run_getObj_map hb, R.keyed.check w _ hl, f1, R.zero, Result.andThen], fun x hx he => ?_⟩
  obtain ⟨i, hi, hie⟩ := List.getElem_of_mem hx
  have he' : es[i]? = some es[i] := Array.getElem?_eq_getElem (by omega)
  have hx2 := hF i _ x he' (by rw [List.getElem?_eq_getElem hi, hie])
  exact f2 es[i] (by simp) (by rw [hx2.1, he])
 ·obtain ⟨x, hx, hkx, hv⟩ := hgo j e0 f2
  refine .inr ⟨x, List.mem_of_getElem? hx, R.inj _ _ (hkx.symm.trans f3), ?_⟩
  rw [<- hv];simp [Instr.lookup, run_underlying R.und, MapKept.run_getObj_map hb, R.keyed.check w _ hl, f1, Result.andThen]
theorem MapB.put {w : World} {m : Nat} {M : List (MEnt α)} (R : KeyTy P kt et mt kv good) (h : MapB kv good w m M) (k : α) (hk : good k) (hn : ∀ x ∈ M, x.k ≠ k) (q c : Nat) (b : List Nat) (hb0 : 0 < b.length) (hB : BytesAt w (some ⟨q, 0, none⟩) c b) (hqm : q ≠ m) (hM : ∀ x ∈ M, x.q ≠ m) :
  ∃ w', (Instr.mapUpdate mt (.map (some m)) (kv k) (.slice (some ⟨q, 0, none⟩) b.length c)).run P w = .ok () w' /\ MapB kv good w' m (M ++ [⟨k, q, c, b⟩]) /\ Chg (· = m) w w' /\ w'.heap.size = w.heap.size := by
 obtain ⟨es, clock, hb, hlen, hcl, hF⟩ := h.ex
 obtain ⟨lk, hlk⟩ := R.key k hk
 obtain ⟨hall, hgo⟩ := h.keys R hb
 rcases R.keyed.find w hlk es.toList hall with ⟨f1, f2⟩ | ⟨j, e0, f1, f2, f3⟩
 ·have hoth : ∀ i, i ≠ m -> (ChangeMaps.setBlock w m (.map (es.push ⟨kv k, .slice (some ⟨q, 0, none⟩) b.length c, clock⟩) (clock + 1))).heap[i]? = w.heap[i]? := fun i hi => ChangeMaps.heap_setBlock_other hb _ (fun e => hi e)
  refine ⟨ChangeMaps.setBlock w m (.map (es.push ⟨kv k, .slice (some ⟨q, 0, none⟩) b.length c, clock⟩) (clock + 1)), ?_, ⟨?_, ?_, ?_⟩, ⟨rfl, rfl, rfl, by simp [ChangeMaps.setBlock], fun i _ hi => hoth i hi⟩, by simp [ChangeMaps.setBlock]⟩
  ·simp [Instr.mapUpdate, run_underlying R.und, MapKept.run_getObj_map hb, R.keyed.check w false hlk, f1, MapKept.run_setObj_map _ hb, Result.andThen, ChangeMaps.setBlock]
  ·refine ⟨_, _, ChangeMaps.heap_setBlock_same hb _, by simp [hlen], by simp [hcl], fun i e x he hx => ?_⟩
   rw [Array.getElem?_push] at he
   rw [List.getElem?_append] at hx
   by_cases hi : i = es.size
   ·rw [if_pos hi] at he
    rw [if_neg (by omega), hi, hlen] at hx
    simp at hx he
    subst hx; subst he;exact ⟨rfl, rfl, by simp only; omega⟩
   ·rw [if_neg hi] at he
    have hi2 : i < M.length := by have := (Array.getElem?_eq_some_iff.1 he).1; omega
    rw [if_pos hi2] at hx
    exact hF i e x he hx
  ·intro x hx
   rcases List.mem_append.1 hx with hx | hx
   ·obtain ⟨a1, a2, a3⟩ := h.bytes x hx
    exact ⟨a1, a2, bytes_same a3 (hoth x.q (hM x hx))⟩
   ·simp at hx
    subst hx;exact ⟨hk, hb0, bytes_same hB (hoth q hqm)⟩
  ·rw [List.pairwise_append]
   exact ⟨h.dist, by simp, fun x hx y hy => by simp at hy; subst hy; exact hn x hx⟩
 ·obtain ⟨x, hx, hkx, hv⟩ := hgo j e0 f2
  exact absurd (R.inj _ _ (hkx.symm.trans f3)) (hn x (List.mem_of_getElem? hx))
theorem MapB.qne {w : World} {m : Nat} {M : List (MEnt α)} (h : MapB kv good w m M) : ∀ x ∈ M, x.q ≠ m := by
 intro x hx;obtain ⟨es, clock, hb, _⟩ := h.ex
 obtain ⟨_, h0, hB⟩ := h.bytes x hx
 obtain ⟨g, o, e1, _, e3, e4⟩ := hB.2 h0
 cases e1
 rintro rfl
 have := e4 0 h0
 simp [World.cell?, hb] at this
theorem MapB.wpList_put {w : World} {m : Nat} {M : List (MEnt α)} (R : KeyTy P kt et mt kv good) (h : MapB kv good w m M) (k : α) (hk : good k) (hn : ∀ x ∈ M, x.k ≠ k) (q c n : Nat) (b : List Nat) (hbn : b.length = n) (hb0 : 0 < n) (hB : BytesAt w (some ⟨q, 0, none⟩) c b) (hqm : q ≠ m)
  {ops : Array Oper} {rest : List Oper} {o : Oper} {A : Act} {Q : Exit -> Act -> World -> Prop} (hgd : o.guard = none) (x y v : Operand) (ho : o.op = .mapUpdate mt x y v)
  (hx : A.eval x = .map (some m)) (hy : A.eval y = kv k) (hv : A.eval v = .slice (some ⟨q, 0, none⟩) n c)
  (hK : ∀ w', MapB kv good w' m (M ++ [⟨k, q, c, b⟩]) -> Chg (· = m) w w' -> w'.heap.size = w.heap.size -> wpList P ops Q rest (A.put o.dst undef) w') : wpList P ops Q (o :: rest) A w :=
 wpList_plain hgd fun _ hk' => by
  subst hbn;obtain ⟨w', h1, h2, h3, h4⟩ := h.put R k hk hn q c b hb0 hB hqm h.qne
  unfold Oper.wp
  simp [execOp, ho, hx, hy, hv, h1, Result.andThen]
  exact hk' _ _ (hK w' h2 h3 h4)
end
theorem mapM_some {α β : Type} (f : α -> Option β) : ∀ (l : List α), (∀ x ∈ l, ∃ y, f x = some y) -> ∃ ys, l.mapM f = some ys
 | [], _ => ⟨[], by simp⟩
 | x :: xs, h => by
  obtain ⟨y, hy⟩ := h x List.mem_cons_self
  obtain ⟨ys, hys⟩ := mapM_some f xs fun z hz => h z (List.mem_cons_of_mem _ hz)
  exact ⟨y :: ys, by simp [List.mapM_cons, hy, hys]⟩
theorem bA_tlen (l : List Nat) : (bA l).toList.length = l.length := by rw [Array.length_toList, bA_size]
theorem keyLits_bytes {P : Program} {t e : TypeId} {n : Nat} (d : Nat) (ht : P.underlying t = some (.array n e)) (he : P.underlying e = some (.int .u8)) (ce : P.cellsOf e = 1) (ct : P.cellsOf t = n) (l : List Nat) (hl : l.length = n) (hw : ∀ x ∈ l, x < 256) :
  ∃ ls, P.keyLits (d + 2) t (bA l).toList = some ls := by
 have hbl : (bA l).toList.length = n := by rw [bA_tlen]; exact hl
 have h1 : ∀ i ∈ List.range n, ∃ y, P.keyLits (d + 1) e (((bA l).toList.drop (i * P.cellsOf e)).take (P.cellsOf e)) = some y := by
  intro i hi;have hin : i < l.length := by rw [hl]; exact List.mem_range.1 hi
  have hx := hw l[i] (List.getElem_mem hin)
  have hg : ((bA l).toList.drop i).take 1 = [.int .u8 ((l[i] : Nat) : Int)] := by
   have h2 : (bA l).toList[i]? = some (.int .u8 ((l[i] : Nat) : Int)) := by
    rw [Array.getElem?_toList, bA_get l i hin, List.getD_eq_getElem?_getD, List.getElem?_eq_getElem hin]; rfl
   have h3 : i < (bA l).toList.length := by rw [bA_tlen]; exact hin
   rw [List.drop_eq_getElem_cons h3, List.take_succ_cons, List.take_zero]
   rw [List.getElem?_eq_getElem h3] at h2
   rw [Option.some.inj h2]
  have hwf : (Lit.int .u8 ((l[i] : Nat) : Int)).wf = true := by
   have hmin : IntKind.u8.min = 0 := rfl
   have hmax : IntKind.u8.max = 255 := rfl
   simp only [Lit.wf, Bool.and_eq_true, decide_eq_true_eq]; omega
  rw [ce, Nat.mul_one, hg]
  exact ⟨[.int .u8 ((l[i] : Nat) : Int)], by simp only [Program.keyLits, he]; simp [hwf]⟩
 obtain ⟨D, hD⟩ : ∃ D, D = d + 1 := ⟨_, rfl⟩
 show ∃ ls, P.keyLits (d + 1 + 1) t (bA l).toList = some ls
 rw [<- hD] at h1 ⊢
 obtain ⟨ys, hys⟩ := mapM_some _ _ h1
 refine ⟨ys.flatten, ?_⟩
 simp only [Program.keyLits, ht]
 rw [if_pos (by rw [hbl, ct]), hys]
 rfl
theorem keyOf_bytes {P : Program} {t e : TypeId} {n : Nat} (ht : P.underlying t = some (.array n e)) (he : P.underlying e = some (.int .u8)) (ce : P.cellsOf e = 1) (ct : P.cellsOf t = n) (hk : P.keyType t = true) (hsz : ∃ d, P.types.size + 1 = d + 2) (l : List Nat) (hl : l.length = n) (hw : ∀ x ∈ l, x < 256) :
  ∃ k, Go.keyOf P t (.agg (bA l)) = some k := by
 obtain ⟨d, hd⟩ := hsz
 obtain ⟨ls, hls⟩ := keyLits_bytes d ht he ce ct l hl hw
 have hf : (Value.agg (bA l)).formed P t = true := by
  simp [Value.formed, ht, ct, bA_size, hl]
 refine ⟨.string (keyBytes ls), ?_⟩
 unfold Go.keyOf
 rw [ht];simp only [hk, hf, Bool.and_self, if_true, hd, Value.cells, hls]
 rfl
theorem bA_inj {x y : List Nat} (h : bA x = bA y) : x = y := by
 have h1 : x.length = y.length := by rw [<- bA_size x, <- bA_size y, h]
 apply List.ext_getElem h1
 intro i hi hj;have h2 := bA_get x i hi
 rw [h, bA_get y i hj] at h2
 simp [List.getD_eq_getElem?_getD, List.getElem?_eq_getElem hi, List.getElem?_eq_getElem hj] at h2
 omega
theorem grow_c (n : Nat) (h0 : 0 < n) (hn : n <= 4294967296) (w : World) :
  Calls Tryz.prog 314 #[.slice none 0 0, .int .i64 (n : Int)] w fun e w' => ∃ G, e = .returned (.slice (some ⟨w.heap.size, 0, none⟩) 0 G) /\ w'.ownsRow w.heap.size 5 1 (.slice (some ⟨w.heap.size, 0, none⟩) 0 G) 0 [] /\ Below w.heap.size w w' := by
 obtain ⟨i0, hi0, hzz⟩ := Option.map_eq_some_iff.1 u8info
 simp only [Prod.mk.injEq] at hzz
 obtain ⟨hz0, hs0, hb0⟩ := hzz
 have hold : (Builtin.firstCells i0.size 0 (.slice none 0 0)).run Tryz.prog w.drew = .ok #[] w.drew := run_firstCells_none w.drew i0.size 0 0 0
 have hg : (0 : Nat) < 0 + n := by omega
 have hrz : ∀ ty, (Builtin.append_ #[22, 3] ty #[.slice none 0 0, .int .i64 (n : Int)]).run Tryz.prog w =
   .ok (.slice (some ⟨w.heap.size, 0, none⟩) n (grownCap w n 0 5)) (w.drew.alloc (.cells (#[] ++ Builtin.zeroCells #[.int .u8 0] n ++ Builtin.zeroCells #[.int .u8 0] (grownCap w n 0 5 - n)) 5)) := fun ty => by
  have h := Lib.run_append_grow_zeros w 22 3 ty 5 i0 (.int .u8 0) .i64 .i64 Tryz.underlying22 Tryz.underlying3 hi0 hz0 none 0 0 [] hold n h0 (by omega) (by omega) (by omega) (by rw [hb0]; omega)
   (growslice_fits (by omega) (by rw [hb0]; omega))
  rw [Nat.zero_add] at h;exact h
 have hGn : n <= grownCap w n 0 5 := grownCap_ge w _ _ _
 have hGm := grownCap_le_maxLen w n 0 5 (by unfold maxLen; omega)
 generalize grownCap w n 0 5 = G at *
 have hrow : (w.alloc (.cells (Builtin.zeroCells #[.int .u8 0] n ++ Builtin.zeroCells #[.int .u8 0] (G - n)) 5)).drew.ownsRow w.heap.size 5 1 (.slice (some ⟨w.heap.size, 0, none⟩) 0 G) 0 [] :=
  (World.ownsRow_made w (Builtin.zeroCells #[.int .u8 0] n ++ Builtin.zeroCells #[.int .u8 0] (G - n)) G (by omega) hGm (by simp [size_zeroCells]; omega) : _)
 have HROW := Lib.hid hrow;clear hold hrow hi0 hz0 hs0 hb0;have hG63 : G <= 9223372036854775807 := by unfold maxLen at hGm; omega
 have h4 : ¬ ((n : Int) < 0) := by omega
 go_enter Tryz.func314, Tryz.ntmps314
 go_wp2_with (at_builtin; refine Lib.wpList_append_run _ rfl _ _ _ _ rfl _ _ rfl rfl _ _ (hrz _) ?_)
 go_ret
 exact ⟨G, rfl, HROW.out, (Below.refl _ _).drew.alloc (Nat.le_refl _) _⟩
theorem add_zero_off (b j : Nat) : (⟨b, 0, none⟩ : Addr).add j = ⟨b, j, none⟩ := by
 unfold Addr.add; split <;> simp_all
theorem own_base {w : World} {base : Nat} {e : TypeId} {size : Nat} {v : Value} {n : Nat} {xs : List Value} (h : w.ownsRow base e size v n xs) (k : Nat) (hk : v.ownBlock = some k) : base <= k := by
 obtain ⟨_, h2⟩ := h
 rcases h2 with ⟨rfl, _⟩ | ⟨g, cap, cur, rfl, hg, _⟩
 ·simp [Value.ownBlock] at hk
 ·simp [Value.ownBlock] at hk; omega
def totL (segs : List (Nat × List Nat)) : Nat := (segs.map (·.2.length)).sum
def catL (segs : List (Nat × List Nat)) : List Nat := (segs.map (·.2)).flatten
theorem totL_succ (segs : List (Nat × List Nat)) (k : Nat) (h : k < segs.length) : totL (segs.take (k + 1)) = totL (segs.take k) + (segs[k]).2.length := by
 unfold totL; rw [List.take_succ_eq_append_getElem h]; simp only [List.map_append, List.sum_append, List.map_cons, List.map_nil, List.sum_cons, List.sum_nil]; omega
theorem catL_succ (segs : List (Nat × List Nat)) (k : Nat) (h : k < segs.length) : catL (segs.take (k + 1)) = catL (segs.take k) ++ (segs[k]).2 := by
 unfold catL; rw [List.take_succ_eq_append_getElem h]; simp only [List.map_append, List.flatten_append, List.map_cons, List.map_nil, List.flatten_cons, List.flatten_nil, List.append_nil]
theorem totL_le (segs : List (Nat × List Nat)) (k : Nat) : totL (segs.take k) <= totL segs := by
 have : totL segs = totL (segs.take k) + totL (segs.drop k) := by
  unfold totL; rw [<- List.sum_append, <- List.map_append, List.take_append_drop]
 omega
def segV (s : Nat × List Nat) : Value := .slice (some ⟨s.1, 0, none⟩) s.2.length s.2.length
def segA (segs : List (Nat × List Nat)) : Array Value := (segs.map segV).toArray
theorem segA_get (segs : List (Nat × List Nat)) (k : Nat) (h : k < segs.length) : (segA segs)[k]? = some (segV segs[k]) := by
 unfold segA; simp [h]
def SegsIn (w : World) (segs : List (Nat × List Nat)) : Prop := ∀ s ∈ segs, w.heap[s.1]? = some (.cells (bA s.2) 5 (0, 0))
theorem concat_c (segs : List (Nat × List Nat)) (bs : Nat) (w : World) (hbs : w.heap[bs]? = some (.cells (segA segs) 22 (0, 0))) (hsegs : SegsIn w segs)
  (h0 : 0 < totL segs) (ht : totL segs <= 4294967296) (hlen : segs.length <= 4294967296) :
  Calls Tryz.prog 255 #[.slice (some ⟨bs, 0, none⟩) segs.length segs.length] w
   fun e w' => ∃ v, e = .returned v /\ w'.ownsRow w.heap.size 5 1 v (totL segs) ((catL segs).map fun (n : Nat) => .int .u8 (n : Int)) /\ Below w.heap.size w w' := by
 have HBS := Lib.hid hbs;have HSG := Lib.hid hsegs;clear hbs hsegs
 go_enter Tryz.func255, Tryz.ntmps255
 go_wp2
 go_loop [3, 11] (fun vs vi => ∃ k n : Nat, k <= segs.length /\ vi = .int .i64 k /\ vs = .int .i64 n /\ n <= totL segs /\ Hid (n = totL (segs.take k))) (fun _ vi => segs.length - (intOf vi).toNat)
 case atStart => exact ⟨0, 0, by omega, rfl, rfl, by omega, rfl⟩
 case round =>
  obtain ⟨k, n, hk, rfl, rfl, hn, hnt⟩ := hrel
  by_cases hlt : k < segs.length
  ·have c0 := (cells_at HBS.out k).trans (segA_get segs k hlt)
   have hsum := totL_succ segs k hlt
   have hle := totL_le segs (k + 1)
   obtain ⟨m, hm⟩ : ∃ m, m = (segs[k]).2.length := ⟨_, rfl⟩
   have c1 : w.cell? ⟨bs, k, none⟩ = some (.slice (some ⟨(segs[k]).1, 0, none⟩) m m) := by rw [c0, segV, hm]
   have hnm : n + m <= totL segs := by have := hnt.out; omega
   have HNM : Hid (n + m = totL (segs.take (k + 1))) := by have := hnt.out; show n + m = totL (segs.take (k + 1)); omega
   obtain ⟨b, hb⟩ : ∃ b, b = (segs[k]).1 := ⟨_, rfl⟩
   rw [<- hb] at c1;clear c0 hsum hle hnt hm hb;have hneg : ¬ ((n : Int) + (m : Int) < 0) := by omega
   go_wp2
   go_round
   case rel => exact ⟨k + 1, n + m, by omega, by go_num, by go_num, hnm, HNM⟩
   case measure => simp [intOf]; omega
  ·obtain rfl : k = segs.length := by omega
   obtain rfl : n = totL segs := by have := hnt.out; rw [List.take_length] at this; exact this
   clear hnt hk hlt;go_wp2_with (go_at_call 314; (with_reducible refine (grow_c _ h0 ht _).mono ?_); rintro e w1 ⟨G, rfl, hown, hbel⟩)
   have hst : w1.ownsRow w.heap.size 5 1 (.slice (some ⟨w.heap.size, 0, none⟩) 0 G) (totL (segs.take 0)) ((catL (segs.take 0)).map fun (n : Nat) => .int .u8 (n : Int)) := hown
   have HST := Lib.hid hst;have HBEL := Lib.hid hbel;clear hown hst hbel;obtain ⟨i0, hi0, hzz⟩ := Option.map_eq_some_iff.1 u8info
   simp only [Prod.mk.injEq] at hzz
   obtain ⟨hz0, hs0, hb0⟩ := hzz
   have HI := Lib.hid hi0;have HZ := Lib.hid hz0;have HSZ := Lib.hid hs0;have HBY := Lib.hid hb0;clear hi0 hz0 hs0 hb0
   go_loopw [6, 27] (fun v vi wr => ∃ k : Nat, k <= segs.length /\ vi = .int .i64 k /\ Hid (wr.ownsRow w.heap.size 5 1 v (totL (segs.take k)) ((catL (segs.take k)).map fun (n : Nat) => .int .u8 (n : Int))) /\ Hid (Below w.heap.size w wr)) (fun _ vi _ => segs.length - (intOf vi).toNat)
   case atStart => exact ⟨0, by omega, rfl, HST, HBEL⟩
   case round =>
    clear HST HBEL;obtain ⟨k, hk, rfl, hown, hbel⟩ := hrel
    by_cases hlt : k < segs.length
    ·have hbs : bs < w.heap.size := lt_of_block HBS.out
     have hblk := (hbel.out.block bs hbs).trans HBS.out
     have c0 := (cells_at hblk k).trans (segA_get segs k hlt)
     have hsum := totL_succ segs k hlt
     have hcat := catL_succ segs k hlt
     have hle := totL_le segs (k + 1)
     have hseg := HSG.out _ (List.getElem_mem hlt)
     have hsb : (segs[k]).1 < w.heap.size := lt_of_block hseg
     have hsw := (hbel.out.block _ hsb).trans hseg
     generalize hsg : segs[k] = sg at *
     obtain ⟨b, l⟩ := sg
     simp only at hsum hcat hsb hsw
     obtain ⟨m, hm⟩ : ∃ m, m = l.length := ⟨_, rfl⟩
     have c1 : wr.cell? ⟨bs, k, none⟩ = some (.slice (some ⟨b, 0, none⟩) m m) := by rw [c0, segV, hm]
     have hnews : ∀ j u, (l.map fun (n : Nat) => Value.int .u8 (n : Int))[j]? = some u -> wr.cell? ((⟨b, 0, none⟩ : Addr).add j) = some u := fun j u hj => by
      have : wr.cell? ⟨b, j, none⟩ = some u := by rw [cells_at hsw j]; unfold bA; simpa using hj
      rw [add_zero_off]; exact this
     have h1c : ∀ u ∈ (l.map fun (n : Nat) => Value.int .u8 (n : Int)), u.oneCell' = true := fun u hu => by
      obtain ⟨n, _, rfl⟩ := List.mem_map.1 hu; rfl
     have HN := Lib.hid hnews;have H1C := Lib.hid h1c;have hml : (l.map fun (n : Nat) => Value.int .u8 (n : Int)).length = m * 1 := by simp [hm]
     have HML := Lib.hid hml;have hbound : totL (segs.take k) + m <= 4294967296 := by omega
     have HSUM : Hid (totL (segs.take k) + m = totL (segs.take (k + 1))) := by rw [hsum, hm]; exact rfl
     have HCAT := Lib.hid hcat;have hwz := Lib.hid hbel.out.size
     clear c0 hsum hcat hle hseg hsw hblk hnews h1c hml hm hsg;go_wp2_with (at_builtin; refine wpList_append_own _ rfl (.tmp 31) (.tmp 32) 22 rfl w.heap.size 5 i0 (.int .u8 0) 1 1 Tryz.underlying22 HI.out HZ.out HSZ.out HBY.out rfl (by decide) _ _ _ rfl hown.out ⟨b, 0, none⟩ m m (l.map fun (n : Nat) => Value.int .u8 (n : Int)) rfl HML.out HN.out H1C.out (by unfold maxLen; omega) (by omega) hwz.out ?_)
     intro v' w2 hown' hgrow _
     have R1 : Hid (w2.ownsRow w.heap.size 5 1 v' (totL (segs.take (k + 1))) ((catL (segs.take (k + 1))).map fun (n : Nat) => .int .u8 (n : Int))) := by
      rw [<- HSUM.out, HCAT.out, List.map_append]; exact hown'
     have R2 := Lib.hid (hbel.out.grown hgrow hwz.out (own_base hown.out))
     clear hown' hgrow hown hbel HN H1C HML;go_wp2
     go_roundw
     case rel => exact ⟨k + 1, by omega, by go_num, R1, R2⟩
     case measure => simp [intOf]; omega
    ·obtain rfl : k = segs.length := by omega
     have R : Hid (wr.ownsRow w.heap.size 5 1 u6 (totL segs) ((catL segs).map fun (n : Nat) => .int .u8 (n : Int))) := by
      have := hown.out; rw [List.take_length] at this; exact this
     clear hown;go_wp2
     go_ret
     exact ⟨_, rfl, R.out, hbel.out⟩
namespace Fre
section
variable {P : Program} {ops : Array Oper}
def bare (ops : Array Oper) : Array Oper := ops.map fun o => { o with guard := none }
theorem bare_get (i : Nat) : (bare ops)[i]? = (ops[i]?).map fun o => { o with guard := none } := by unfold bare; rw [Array.getElem?_map]
theorem bare_size : (bare ops).size = ops.size := by unfold bare; rw [Array.size_map]
theorem bare_dst : dstOf (bare ops) = dstOf ops := by
 funext j
 unfold dstOf;rw [bare_get]
 cases ops[j]? <;> rfl
theorem bare_finT (vs : Nat -> Value) (T : Array Value) : ∀ n, finT (bare ops) vs T n = finT ops vs T n
 | 0 => rfl
 | n + 1 => by unfold finT; rw [bare_dst, bare_finT vs T n]
theorem bare_agree {a0 a : Act} {listed : Array Bool} {vs : Nat -> Value} : Agree (bare ops) a0 a listed vs ↔ Agree ops a0 a listed vs := by
 unfold Agree; rw [bare_size, bare_dst]
def Guards (ops : Array Oper) (V : Nat -> Value -> World -> Prop) (G : Nat -> Bool) : Prop :=
 ∀ (i : Nat) (o : Oper), ops[i]? = some o -> match o.guard with
  | none => G i = true
  | some (j, b) => waits .any ops i j = true /\ (∃ t, dstOf ops j = some t) /\ ∃ gv, (∀ v w, V j v w -> v = .bool gv) /\ G i = (gv == b)
theorem any_freeG {Q : Exit -> Act -> World -> Prop} {a0 : Act} {w0 : World} {N : Nat} (hf : Fits .any (bare ops) N) (hN : a0.tmps.size = N) (V : Nat -> Value -> World -> Prop) (G : Nat -> Bool) (hG : Guards ops V G)
  (htr : ∀ a b c, Kept a b -> Kept b c -> Kept a c) (hst : ∀ j v w w', j < ops.size -> V j v w -> Kept w w' -> V j v w') (hop : ∀ i, i < ops.size -> G i = true -> Step P .any ops a0 w0 V Kept i) (hop0 : ∀ i, i < ops.size -> G i = false -> ∀ w, V i undef w)
  (hQ : ∀ (vs : Nat -> Value) w, (∀ j, j < ops.size -> V j (vs j) w) -> Kept w0 w -> Q .normal ⟨finT ops vs a0.tmps ops.size, a0.defers⟩ w) :
  ∀ (fuel : Nat) (listed : Array Bool) (a : Act) (w : World) (vs : Nat -> Value), listed.size = ops.size -> ((List.range ops.size).filter fun j => !listed.getD j true).length <= fuel ->
   Agree ops a0 a listed vs -> (∀ j, j < ops.size -> listed.getD j false = true -> V j (vs j) w) -> Kept w0 w -> wpAny P .any ops Q fuel listed a w := by
 have hgf : ∀ (listed : Array Bool), listed.size = ops.size -> ∀ j, j < ops.size -> listed.getD j false = listed.getD j true := fun listed hl j hj => by
  simp [Array.getD_eq_getD_getElem?, hl, hj]
 have hend : ∀ (listed : Array Bool) (a : Act) (w : World) (vs : Nat -> Value), listed.size = ops.size -> Agree ops a0 a listed vs -> (∀ j, j < ops.size -> listed.getD j false = true -> V j (vs j) w) -> Kept w0 w -> Region.ready .any ops listed = [] -> Q .normal a w := by
  intro listed a w vs hl hA hV hS hr;have hall : ∀ j, j < ops.size -> listed.getD j false = true := by
   intro j
   induction j using Nat.strongRecOn with
   | ind j ih =>
    intro hj
    cases hc : listed.getD j false with
    | true => rfl
    | false =>
     have : j ∈ Region.ready .any ops listed := by
      refine mem_ready.2 ⟨by rw [<- hgf listed hl j hj]; exact hc, ops[j], Array.getElem?_eq_getElem hj, fun e he hbi => ?_⟩
      have hb := hf.back j { ops[j] with guard := none } e (by rw [bare_get, Array.getElem?_eq_getElem hj]; rfl) he hbi
      exact ih e.on hb (by omega)
     rw [hr] at this; cases this
  rw [((bare_agree).2 hA).fin hf hN (fun j hj => hall j (by rw [bare_size] at hj; exact hj)), bare_size, bare_finT]
  exact hQ vs w (fun j hj => hV j hj (hall j hj)) hS
 intro fuel
 induction fuel with
 | zero =>
  intro listed a w vs hl hc hA hV hS;have hr : Region.ready .any ops listed = [] := by
   cases hrr : Region.ready .any ops listed with
   | nil => rfl
   | cons x xs =>
    have hx : x ∈ Region.ready .any ops listed := by rw [hrr]; simp
    obtain ⟨h1, o, ho, _⟩ := mem_ready.1 hx
    have hlt : x < ops.size := (Array.getElem?_eq_some_iff.1 ho).1
    have : x ∈ (List.range ops.size).filter fun j => !listed.getD j true := List.mem_filter.2 ⟨List.mem_range.2 hlt, by rw [h1]; rfl⟩
    rw [List.eq_nil_of_length_eq_zero (Nat.le_zero.1 hc)] at this
    cases this
  exact ⟨hr, hend listed a w vs hl hA hV hS hr⟩
 | succ fuel ih =>
  intro listed a w vs hl hc hA hV hS;refine ⟨fun hr => hend listed a w vs hl hA hV hS hr, fun i hi => ?_⟩
  obtain ⟨hun, o, ho, hdep⟩ := mem_ready.1 hi
  have hlt : i < ops.size := (Array.getElem?_eq_some_iff.1 ho).1
  unfold wpOp;simp only [ho]
  have hdo : dstOf ops i = o.dst := by unfold dstOf; rw [ho]; rfl
  have hwl : ∀ j, waits .any ops i j = true -> listed.getD j false = true := by
   intro j hw;unfold waits at hw
   rw [ho] at hw;simp only [Option.map_some, Option.getD_some, Array.any_eq_true', Bool.and_eq_true, beq_iff_eq] at hw
   obtain ⟨e, he, hb, rfl⟩ := hw
   exact hdep e he hb
  have hlj : ∀ j, listed.getD j false = true -> j < ops.size := fun j h => by
   rcases Nat.lt_or_ge j ops.size with h' | h'
   ·exact h'
   ·rw [Array.getD_eq_getD_getElem?, Array.getElem?_eq_none (by rw [hl]; exact h')] at h; cases h
  have hgo := hG i o ho
  have hwant : Region.wanted o (yielded ops a.tmps) = G i := by
   unfold Region.wanted
   cases hgd : o.guard with
   | none => rw [hgd] at hgo; exact hgo.symm
   | some x =>
    obtain ⟨j, b⟩ := x
    rw [hgd] at hgo;obtain ⟨hw, ⟨t, ht⟩, gv, hv, hg⟩ := hgo
    have h1 := hwl j hw
    have h2 := hA.2.2.1 j t (hlj j h1) ht h1
    have h3 := hv _ _ (hV j (hlj j h1) h1)
    rw [h3] at h2;have h4 : yielded ops a.tmps j = some gv := by
     unfold yielded;unfold dstOf at ht
     rw [ht];simp only [Option.bind_some, h2]
    show (yielded ops a.tmps j == some b) = G i
    rw [h4, hg]; cases gv <;> cases b <;> rfl
  cases hGi : G i with
  | false =>
   rw [if_neg (by rw [hwant, hGi]; simp)]
   have hv : V i undef w := hop0 i hlt hGi w
   have hs : Kept w w := Kept.refl w
   generalize (undef : Value) = v at *
   rw [<- hdo];have hfl : (List.range ops.size).filter (fun j => !(listed.setIfInBounds i true).getD j true) = ((List.range ops.size).filter fun j => !listed.getD j true).filter fun j => j != i := by
    rw [List.filter_filter]
    apply List.filter_congr
    intro j hj
    by_cases hji : j = i
    ·subst hji
     simp [Array.getD_eq_getD_getElem?, Array.getElem?_setIfInBounds, hl, hlt]
    ·simp [Array.getD_eq_getD_getElem?, Array.getElem?_setIfInBounds, Ne.symm hji, hji]
   refine ih (listed.setIfInBounds i true) (a.put (dstOf ops i) v) _ _ (by simp [hl]) ?_ (by have := ((bare_agree (ops := ops)).2 hA).step hf hN (by rw [bare_size]; exact hlt) (by rw [bare_size]; exact hl) hun v; rw [bare_dst] at this; exact bare_agree.1 this) (fun j hj hlj' => ?_) (htr _ _ _ hS hs)
   ·rw [hfl]
    have hmem : i ∈ (List.range ops.size).filter fun j => !listed.getD j true := List.mem_filter.2 ⟨List.mem_range.2 hlt, by rw [hun]; rfl⟩
    have hlt2 : (((List.range ops.size).filter fun j => !listed.getD j true).filter fun j => j != i).length < ((List.range ops.size).filter fun j => !listed.getD j true).length := by
     apply List.length_filter_lt_length_iff_exists.2
     exact ⟨i, hmem, by simp⟩
    omega
   ·by_cases hji : j = i
    ·subst hji; simp only [if_true]; exact hv
    ·simp only [if_neg hji]
     refine hst j _ w w hj (hV j hj ?_) hs
     rw [Array.getD_eq_getD_getElem?, Array.getElem?_setIfInBounds] at hlj'
     rw [Array.getD_eq_getD_getElem?]
     simpa [Ne.symm hji] using hlj'
  | true =>
   rw [if_pos (by rw [hwant, hGi])]
   refine .inl ?_
   have hD := hop i hlt hGi a.eval w (fun _ => rfl) (fun _ => rfl) (fun _ => rfl) (fun t ht => by
     show a.tmps.getD t undef = _
     rw [Array.getD_eq_getD_getElem?, Array.getD_eq_getD_getElem?, hA.2.2.2 t fun j hj hjt => absurd hjt (ht j hj)])
    (fun j t hw hjt => by
     have h1 := hwl j hw
     have h2 := hA.2.2.1 j t (hlj j h1) hjt h1
     show V j (a.tmps.getD t undef) w
     rw [Array.getD_eq_getD_getElem?, h2]
     exact hV j (hlj j h1) h1) (fun j hw _ => ⟨vs j, hV j (hlj j (hwl j hw)) (hwl j hw)⟩) hS o ho
   refine Does.wp hD ?_
   rintro v w' ⟨hv, hs⟩
   rw [<- hdo];have hfl : (List.range ops.size).filter (fun j => !(listed.setIfInBounds i true).getD j true) = ((List.range ops.size).filter fun j => !listed.getD j true).filter fun j => j != i := by
    rw [List.filter_filter]
    apply List.filter_congr
    intro j hj
    by_cases hji : j = i
    ·subst hji
     simp [Array.getD_eq_getD_getElem?, Array.getElem?_setIfInBounds, hl, hlt]
    ·simp [Array.getD_eq_getD_getElem?, Array.getElem?_setIfInBounds, Ne.symm hji, hji]
   refine ih (listed.setIfInBounds i true) (a.put (dstOf ops i) v) _ _ (by simp [hl]) ?_ (by have := ((bare_agree (ops := ops)).2 hA).step hf hN (by rw [bare_size]; exact hlt) (by rw [bare_size]; exact hl) hun v; rw [bare_dst] at this; exact bare_agree.1 this) (fun j hj hlj' => ?_) (htr _ _ _ hS hs)
   ·rw [hfl]
    have hmem : i ∈ (List.range ops.size).filter fun j => !listed.getD j true := List.mem_filter.2 ⟨List.mem_range.2 hlt, by rw [hun]; rfl⟩
    have hlt2 : (((List.range ops.size).filter fun j => !listed.getD j true).filter fun j => j != i).length < ((List.range ops.size).filter fun j => !listed.getD j true).length := by
     apply List.length_filter_lt_length_iff_exists.2
     exact ⟨i, hmem, by simp⟩
    omega
   ·by_cases hji : j = i
    ·subst hji; simp only [if_true]; exact hv
    ·simp only [if_neg hji]
     refine hst j _ w w' hj (hV j hj ?_) hs
     rw [Array.getD_eq_getD_getElem?, Array.getElem?_setIfInBounds] at hlj'
     rw [Array.getD_eq_getD_getElem?]
     simpa [Ne.symm hji] using hlj'
def guardsB (ops : Array Oper) (gv : Nat -> Bool) (G : Nat -> Bool) : Bool :=
 (List.range ops.size).all fun i => match ops[i]? with
  | none => true
  | some o => match o.guard with
   | none => G i
   | some (j, b) => waits .any ops i j && (dstOf ops j).isSome && (G i == (gv j == b))
def isGuard (ops : Array Oper) (j : Nat) : Bool := (List.range ops.size).any fun i => match ops[i]? with
 | none => false
 | some o => match o.guard with
  | none => false
  | some (k, _) => k == j
def guardsL (ops : Array Oper) : List Nat := (List.range ops.size).filterMap fun i => (ops[i]?).bind fun o => o.guard.map (·.1)
theorem isGuard_mem {j : Nat} (h : isGuard ops j = true) : j ∈ guardsL ops := by
 unfold isGuard at h
 rw [List.any_eq_true] at h;obtain ⟨i, hi, h1⟩ := h
 unfold guardsL;rw [List.mem_filterMap];refine ⟨i, hi, ?_⟩
 cases ho : ops[i]? with
 | none => rw [ho] at h1; cases h1
 | some o =>
  simp only [ho] at h1
  cases hg : o.guard with
  | none => rw [hg] at h1; cases h1
  | some x =>
   obtain ⟨k, b⟩ := x
   rw [hg] at h1;simp only [beq_iff_eq] at h1
   subst h1;simp [hg]
theorem guards_of {V : Nat -> Value -> World -> Prop} {G gv : Nat -> Bool} (h : guardsB ops gv G = true) (hv : ∀ j, isGuard ops j = true -> ∀ v w, V j v w -> v = .bool (gv j)) : Guards ops V G := by
 intro i o ho;have hlt : i < ops.size := (Array.getElem?_eq_some_iff.1 ho).1
 unfold guardsB at h
 rw [List.all_eq_true] at h;have h1 := h i (List.mem_range.2 hlt)
 simp only [ho] at h1
 cases hg : o.guard with
 | none => rw [hg] at h1; exact h1
 | some x =>
  obtain ⟨j, b⟩ := x
  rw [hg] at h1;simp only [Bool.and_eq_true, beq_iff_eq] at h1
  refine ⟨h1.1.1, Option.isSome_iff_exists.1 h1.1.2, gv j, hv j ?_, h1.2⟩
  unfold isGuard;rw [List.any_eq_true];refine ⟨i, List.mem_range.2 hlt, ?_⟩
  simp only [ho, hg, beq_self_eq_true]
theorem region_keptG {id : Nat} {Q : Exit -> Act -> World -> Prop} {a0 : Act} {w0 : World} (N : Nat) (hm : P.follows .mixedOrders = true) (hf : fit .any (bare ops) N = true) (hN : a0.tmps.size = N) (V : Nat -> Value -> World -> Prop) (G gv : Nat -> Bool)
  (hb : guardsB ops gv G = true) (hv : ∀ j, isGuard ops j = true -> ∀ v w, V j v w -> v = .bool (gv j))
  (hst : ∀ j v w w', j < ops.size -> V j v w -> Kept w w' -> V j v w') (hop : ∀ i, i < ops.size -> G i = true -> StepB P ops a0 w0 V Kept i) (hop0 : ∀ i, i < ops.size -> G i = false -> ∀ w, V i undef w)
  (hQ : ∀ (vs : Nat -> Value) w, (∀ j, j < ops.size -> V j (vs j) w) -> Kept w0 w -> Q .normal ⟨finT ops vs a0.tmps ops.size, a0.defers⟩ w) : (Code.region id ops true).wp P Q a0 w0 := by
 refine wp_region_any hm ?_
 refine any_freeG (fits_of (md := .any) hf) hN V G (guards_of hb hv) (fun _ _ _ h k => h.trans k) hst (fun i hi hg => (hop i hi hg).step) hop0 hQ ops.size _ a0 _ (fun _ => undef) (by simp) (by have := List.length_filter_le (fun j => !(Array.replicate ops.size false).getD j true) (List.range ops.size); rw [List.length_range] at this; exact this) ?_ (fun j hj h => ?_) (Kept.drew _)
 ·refine ⟨rfl, rfl, fun j t hj _ h => ?_, fun t _ => rfl⟩
  simp [Array.getD_eq_getD_getElem?, hj] at h
 ·simp [Array.getD_eq_getD_getElem?, hj] at h
end
end Fre
namespace Fre
section
variable {P : Program} {ops : Array Oper}
def waitsT (md : Region.Mode) (ops : Array Oper) : Nat -> Nat -> Nat -> Bool
 | 0, i, j => waits md ops i j
 | f + 1, i, j => waits md ops i j || (List.range i).any fun k => waits md ops i k && waitsT md ops f k j
theorem waits_lt {md : Region.Mode} {N : Nat} (hf : Fits md ops N) {i j : Nat} (h : waits md ops i j = true) : j < i := by
 unfold waits at h
 cases ho : ops[i]? with
 | none => rw [ho] at h; cases h
 | some o =>
  rw [ho] at h;simp only [Option.map_some, Option.getD_some, Array.any_eq_true', Bool.and_eq_true, beq_iff_eq] at h
  obtain ⟨e, he, hb, rfl⟩ := h
  exact hf.back i o e ho he hb
theorem waitsT_closed {md : Region.Mode} {S : Nat -> Prop} (hcl : ∀ a, S a -> ∀ j, waits md ops a j = true -> S j) : ∀ (f i j : Nat), (∀ j, waits md ops i j = true -> S j) -> waitsT md ops f i j = true -> S j
 | 0, i, j, h, hw => h j hw
 | f + 1, i, j, h, hw => by
  unfold waitsT at hw
  simp only [Bool.or_eq_true, List.any_eq_true, Bool.and_eq_true] at hw
  rcases hw with hw | ⟨k, _, h1, h2⟩
  ·exact h j hw
  ·exact waitsT_closed hcl f k j (hcl k (h k h1)) h2
def tailFitT (md : Region.Mode) (ops : Array Oper) (n0 : Nat) : Bool :=
 (List.range ops.size).all fun i => decide (i < n0) || (List.range i).all fun j => waitsT md ops 9 i j
theorem tailFitT_spec {md : Region.Mode} {n0 : Nat} (h : tailFitT md ops n0 = true) : ∀ i j, i < ops.size -> n0 <= i -> j < i -> waitsT md ops 9 i j = true := by
 intro i j hi hn hj;unfold tailFitT at h
 rw [List.all_eq_true] at h;have := h i (List.mem_range.2 hi)
 simp only [Bool.or_eq_true, decide_eq_true_eq, List.all_eq_true] at this
 rcases this with h1 | h1
 ·omega
 ·exact h1 j (List.mem_range.2 hj)
theorem any_tail1T {md : Region.Mode} {Q : Exit -> Act -> World -> Prop} {N n0 : Nat} (hf : Fits md ops N) (ht : tailFitT md ops n0 = true) :
  ∀ (fuel k : Nat) (listed : Array Bool) (a : Act) (w : World), listed.size = ops.size -> n0 <= k + 1 -> ops.size - k <= fuel -> (∀ j, j < ops.size -> listed.getD j true = decide (j < k)) ->
   wpList P ops Q (ops.toList.drop k) a w -> wpAny P md ops Q fuel listed a w := by
 have hw := tailFitT_spec ht
 have hrd : ∀ (k : Nat) (listed : Array Bool), listed.size = ops.size -> n0 <= k + 1 -> (∀ j, j < ops.size -> listed.getD j true = decide (j < k)) -> ∀ i, i ∈ Region.ready md ops listed ↔ i = k /\ k < ops.size := by
  intro k listed hl hk hls i
  constructor
  ·intro hi
   obtain ⟨hun, o, ho, hdep⟩ := mem_ready.1 hi
   have hlt : i < ops.size := (Array.getElem?_eq_some_iff.1 ho).1
   have hik : k <= i := by have := hls i hlt; rw [hun] at this; simpa using this.symm
   rcases Nat.eq_or_lt_of_le hik with h | h
   ·subst h; exact ⟨rfl, hlt⟩
   ·exfalso
    have hwi := hw i k hlt (by omega) h
    have hdir : ∀ j, waits md ops i j = true -> j < k := by
     intro j hj;unfold waits at hj
     rw [ho] at hj;simp only [Option.map_some, Option.getD_some, Array.any_eq_true', Bool.and_eq_true, beq_iff_eq] at hj
     obtain ⟨e, he, hb, rfl⟩ := hj
     have h1 := hdep e he hb
     have hsz : e.on < ops.size := by have := hf.back i o e ho he hb; omega
     have h2 := hls e.on hsz
     rw [Array.getD_eq_getD_getElem?, Array.getElem?_eq_getElem (by omega)] at h1 h2
     simp only [Option.getD_some] at h1 h2
     rw [h1] at h2;exact of_decide_eq_true h2.symm
    have := waitsT_closed (S := fun j => j < k) (fun a ha j hj => by have := waits_lt hf hj; omega) 9 i k hdir hwi
    omega
  ·rintro ⟨rfl, hlt⟩
   refine mem_ready.2 ⟨by rw [hls i hlt]; simp, ops[i], Array.getElem?_eq_getElem hlt, fun e he hb => ?_⟩
   have hbk := hf.back i ops[i] e (Array.getElem?_eq_getElem hlt) he hb
   have h2 := hls e.on (by omega)
   rw [decide_eq_true hbk] at h2
   rw [Array.getD_eq_getD_getElem?, Array.getElem?_eq_getElem (by omega)] at h2 ⊢
   exact h2
 intro fuel
 induction fuel with
 | zero =>
  intro k listed a w hl hk hfu hls h;have hke : ops.size <= k := by omega
  have hr : Region.ready md ops listed = [] := by
   cases hrr : Region.ready md ops listed with
   | nil => rfl
   | cons x xs =>
    have := (hrd k listed hl hk hls x).1 (by rw [hrr]; simp)
    omega
  rw [List.drop_of_length_le (by simpa using hke)] at h
  exact ⟨hr, h⟩
 | succ fuel ih =>
  intro k listed a w hl hk hfu hls h;refine ⟨fun hr => ?_, fun i hi => ?_⟩
  ·have hke : ops.size <= k := by
    rcases Nat.lt_or_ge k ops.size with h' | h'
    ·have := (hrd k listed hl hk hls k).2 ⟨rfl, h'⟩
     rw [hr] at this; cases this
    ·exact h'
   rw [List.drop_of_length_le (by simpa using hke)] at h
   exact h
  ·obtain ⟨rfl, hlt⟩ := (hrd k listed hl hk hls i).1 hi
   have hdr : ops.toList.drop i = ops[i] :: ops.toList.drop (i + 1) := by
    rw [List.drop_eq_getElem_cons (by simpa using hlt)]; simp
   rw [hdr] at h;unfold wpOp;rw [Array.getElem?_eq_getElem hlt]
   simp only
   have hls' : ∀ j, j < ops.size -> (listed.setIfInBounds i true).getD j true = decide (j < i + 1) := by
    intro j hj
    by_cases hji : j = i
    ·subst hji
     simp [Array.getD_eq_getD_getElem?, Array.getElem?_setIfInBounds, hl, hlt]
    ·have := hls j hj
     have e1 : (listed.setIfInBounds i true).getD j true = listed.getD j true := by
      simp [Array.getD_eq_getD_getElem?, Array.getElem?_setIfInBounds, Ne.symm hji]
     rw [e1, this, decide_eq_decide]; omega
   have hmn : ∀ a w, wpList P ops Q (ops.toList.drop (i + 1)) a w -> wpAny P md ops Q fuel (listed.setIfInBounds i true) a w := fun a w h => ih (i + 1) _ a w (by simp [hl]) (by omega) (by omega) hls' h
   unfold wpList at h
   split
   ·rename_i hwn
    rw [if_pos hwn] at h
    exact h.imp (Oper.wp_mono hmn) id
   ·rename_i hwn
    rw [if_neg hwn] at h
    exact hmn _ _ h
def lateFitT (md : Region.Mode) (ops : Array Oper) (n0 ℓ : Nat) : Bool :=
 ((List.range (n0 + 1)).all fun a => !waits md ops a ℓ) && (List.range ops.size).all fun i => decide (i < n0) || (List.range i).all fun j => waitsT md ops 9 i j || (i == n0 && j == ℓ)
theorem lateFitT_spec {md : Region.Mode} {n0 ℓ : Nat} (h : lateFitT md ops n0 ℓ = true) : ∀ i j, i < ops.size -> n0 <= i -> j < i -> waitsT md ops 9 i j = true \/ (i = n0 /\ j = ℓ) := by
 intro i j hi hn hj;unfold lateFitT at h
 rw [Bool.and_eq_true] at h
 replace h := h.2
 rw [List.all_eq_true] at h;have := h i (List.mem_range.2 hi)
 simp only [Bool.or_eq_true, decide_eq_true_eq, List.all_eq_true, Bool.and_eq_true, beq_iff_eq] at this
 rcases this with h1 | h1
 ·omega
 ·exact h1 j (List.mem_range.2 hj)
theorem lateFitT_tail {md : Region.Mode} {n0 ℓ : Nat} (h : lateFitT md ops n0 ℓ = true) : tailFitT md ops (n0 + 1) = true := by
 unfold tailFitT;rw [List.all_eq_true];intro i hi;have hi := List.mem_range.1 hi
 rcases Nat.lt_or_ge i (n0 + 1) with h1 | h1
 ·simp [h1]
 ·simp only [Bool.or_eq_true, decide_eq_true_eq, List.all_eq_true]
  right
  intro j hj;rcases lateFitT_spec h i j hi (by omega) (List.mem_range.1 hj) with h2 | h2
  ·exact h2
  ·omega
theorem lateFitT_not {md : Region.Mode} {n0 ℓ : Nat} (h : lateFitT md ops n0 ℓ = true) : ∀ a, a < n0 + 1 -> waits md ops a ℓ = false := by
 intro a ha;unfold lateFitT at h
 rw [Bool.and_eq_true] at h;have := (List.all_eq_true.1 h.1) a (List.mem_range.2 ha)
 simpa using this
theorem any_late1T {md : Region.Mode} {Q : Exit -> Act -> World -> Prop} {N n0 ℓ : Nat} (hf : Fits md ops N) (ht1 : tailFitT md ops (n0 + 1) = true) (hℓ : ℓ < n0) (hst : ∀ a, a < n0 + 1 -> waits md ops a ℓ = false) :
  ∀ (fuel : Nat) (listed : Array Bool) (a : Act) (w : World), listed.size = ops.size -> (hn9 : n0 < ops.size) -> ops.size - n0 <= fuel -> (∀ j, j < ops.size -> listed.getD j true = decide (j < n0 + 1 /\ j ≠ ℓ)) ->
   wpList P ops Q (ops[ℓ] :: ops.toList.drop (n0 + 1)) a w -> wpAny P md ops Q fuel listed a w := by
 have hw := tailFitT_spec ht1
 intro fuel listed a w hl hn9 hfu hls h;have hlt9 : ℓ < ops.size := by omega
 have hgf : ∀ j, j < ops.size -> listed.getD j false = listed.getD j true := fun j hj => by
  simp [Array.getD_eq_getD_getElem?, hl, hj]
 have hrd : ∀ i, i ∈ Region.ready md ops listed -> i = ℓ := by
  intro i hi;obtain ⟨hun, o, ho, hdep⟩ := mem_ready.1 hi
  have hlt : i < ops.size := (Array.getElem?_eq_some_iff.1 ho).1
  have h1 := hls i hlt
  rw [hun] at h1;have h2 : ¬ (i < n0 + 1 /\ i ≠ ℓ) := of_decide_eq_false h1.symm
  apply Classical.byContradiction
  intro hne;have hge : n0 + 1 <= i := by
   rcases Nat.lt_or_ge i (n0 + 1) with h3 | h3
   ·exact absurd ⟨h3, hne⟩ h2
   ·exact h3
  have hwi := hw i ℓ hlt hge (by omega)
  have hdir : ∀ j, waits md ops i j = true -> j < n0 + 1 /\ j ≠ ℓ := by
   intro j hj;unfold waits at hj
   rw [ho] at hj;simp only [Option.map_some, Option.getD_some, Array.any_eq_true', Bool.and_eq_true, beq_iff_eq] at hj
   obtain ⟨e, he, hb, rfl⟩ := hj
   have h5 := hdep e he hb
   have hsz : e.on < ops.size := by have := hf.back i o e ho he hb; omega
   rw [hgf e.on hsz, hls e.on hsz] at h5
   exact of_decide_eq_true h5
  have := waitsT_closed (S := fun j => j < n0 + 1 /\ j ≠ ℓ) (fun a ha j hj => ⟨by have := waits_lt hf hj; omega, by
   rintro rfl
   rw [hst a ha.1] at hj; cases hj⟩) 9 i ℓ hdir hwi
  exact this.2 rfl
 have hmem : ℓ ∈ Region.ready md ops listed := by
  refine mem_ready.2 ⟨by rw [hls ℓ hlt9]; simp, ops[ℓ], Array.getElem?_eq_getElem hlt9, fun e he hb => ?_⟩
  have hbk := hf.back ℓ ops[ℓ] e (Array.getElem?_eq_getElem hlt9) he hb
  rw [hgf e.on (by omega), hls e.on (by omega)]
  simp; omega
 cases fuel with
 | zero => omega
 | succ fuel =>
  refine ⟨fun hr => by { rw [hr] at hmem; cases hmem }, fun i hi => ?_⟩
  obtain rfl := hrd i hi
  have hmn : ∀ a w, wpList P ops Q (ops.toList.drop (n0 + 1)) a w -> wpAny P md ops Q fuel (listed.setIfInBounds i true) a w := fun a w h =>
   any_tail1T hf ht1 fuel (n0 + 1) _ a w (by simp [hl]) (by omega) (by omega) (fun j hj => by
    by_cases hji : j = i
    ·subst hji
     simp [Array.getD_eq_getD_getElem?, Array.getElem?_setIfInBounds, hl, hlt9]; omega
    ·have e1 : (listed.setIfInBounds i true).getD j true = listed.getD j true := by
      simp [Array.getD_eq_getD_getElem?, Array.getElem?_setIfInBounds, Ne.symm hji]
     rw [e1, hls j hj, decide_eq_decide]; omega) h
  unfold wpOp;rw [Array.getElem?_eq_getElem hlt9]
  simp only
  unfold wpList at h
  split
  ·rename_i hwn
   rw [if_pos hwn] at h
   exact h.imp (Oper.wp_mono hmn) id
  ·rename_i hwn
   rw [if_neg hwn] at h
   exact hmn _ _ h
theorem region_lateT {id : Nat} {Q : Exit -> Act -> World -> Prop} {a0 : Act} {w0 : World} (N n0 ℓ : Nat) (hℓ : ℓ < n0) (hn9 : n0 < ops.size) (hm : P.follows .mixedOrders = true) (hf : fit .any ops N = true) (hN : a0.tmps.size = N) (ht : lateFitT .any ops n0 ℓ = true) (hn0 : n0 <= ops.size) (V : Nat -> Value -> World -> Prop)
  (hst : ∀ j v w w', j < n0 -> V j v w -> Kept w w' -> V j v w') (hop : ∀ i, i < n0 -> StepB P ops a0 w0 V Kept i)
  (hQ : ∀ (vs : Nat -> Value) w, (∀ j, j < n0 -> V j (vs j) w) -> Kept w0 w -> wpList P ops Q (ops.toList.drop n0) ⟨finT ops vs a0.tmps n0, a0.defers⟩ w) 
  (hQ2 : ∀ (vs : Nat -> Value) w, (∀ j, j < n0 -> j ≠ ℓ -> V j (vs j) w) -> (∀ t, dstOf ops ℓ = some t -> a0.tmps[t]? = some (vs ℓ)) -> Kept w0 w -> wpList P ops Q (ops[n0] :: ops[ℓ] :: ops.toList.drop (n0 + 1)) ⟨finT ops vs a0.tmps n0, a0.defers⟩ w) : (Code.region id ops true).wp P Q a0 w0 := by
 refine wp_region_any hm ?_
 have hfs := fits_of (md := .any) hf
 have hw := lateFitT_spec ht
 have ht1 := lateFitT_tail ht
 have hgf : ∀ (listed : Array Bool), listed.size = ops.size -> ∀ j, j < ops.size -> listed.getD j false = listed.getD j true := fun listed hl j hj => by
  simp [Array.getD_eq_getD_getElem?, hl, hj]
 have main : ∀ (fuel : Nat) (listed : Array Bool) (a : Act) (w : World) (vs : Nat -> Value), listed.size = ops.size -> ((List.range ops.size).filter fun j => !listed.getD j true).length <= fuel ->
   (∀ j, j < ops.size -> n0 <= j -> listed.getD j true = false) -> Agree ops a0 a listed vs -> (∀ j, j < n0 -> listed.getD j false = true -> V j (vs j) w) -> Kept w0 w -> (∀ b, listed.getD b false = true -> ∀ j, waits .any ops b j = true -> listed.getD j false = true) -> wpAny P .any ops Q fuel listed a w := by
  have hend : ∀ (fuel : Nat) (listed : Array Bool) (a : Act) (w : World) (vs : Nat -> Value), listed.size = ops.size -> ((List.range ops.size).filter fun j => !listed.getD j true).length <= fuel -> (∀ j, j < ops.size -> n0 <= j -> listed.getD j true = false) -> Agree ops a0 a listed vs -> (∀ j, j < n0 -> listed.getD j false = true -> V j (vs j) w) -> Kept w0 w -> (∀ j, j < n0 -> listed.getD j true = true) -> wpAny P .any ops Q fuel listed a w := by
   intro fuel listed a w vs hl hc htl hA hV hS hall;have hcnt : ops.size - n0 <= fuel := by
    refine Nat.le_trans ?_ hc
    have : ((List.range ops.size).filter fun j => !listed.getD j true).length = ((List.range ops.size).filter fun j => decide (n0 <= j)).length := by
     congr 1
     apply List.filter_congr
     intro j hj;have hj' := List.mem_range.1 hj
     rcases Nat.lt_or_ge j n0 with h | h
     ·rw [hall j h]; simp; omega
     ·rw [htl j hj' h]; simp; omega
    rw [this];have h2 : (List.range ops.size).filter (fun j => decide (n0 <= j)) = List.range' n0 (ops.size - n0) := by
     have : List.range ops.size = List.range n0 ++ List.range' n0 (ops.size - n0) := by
      rw [List.range_eq_range', List.range_eq_range', show ops.size = n0 + (ops.size - n0) by omega, <- List.range'_append_1]; simp
     rw [this, List.filter_append]
     rw [List.filter_eq_nil_iff.2 (fun x hx => by have := List.mem_range.1 hx; simp; omega), List.nil_append]
     exact List.filter_eq_self.2 (fun x hx => by have := (List.mem_range'_1.1 hx).1; simpa using this)
    rw [h2, List.length_range']; exact Nat.le_refl _
   refine any_tail1T hfs ht1 fuel n0 listed a w hl (Nat.le_refl _) hcnt (fun j hj => ?_) ?_
   ·rcases Nat.lt_or_ge j n0 with h | h
    ·rw [hall j h]; simp [h]
    ·rw [htl j hj h]; simp; omega
   ·have ha : a = ⟨finT ops vs a0.tmps n0, a0.defers⟩ := by
     obtain ⟨h1, h2, h3, h4⟩ := hA
     obtain ⟨T, D⟩ := a
     simp only at h1 h2 h3 h4
     subst h1
     congr 1
     apply Array.ext_getElem?
     intro t;obtain ⟨k1, k2⟩ := finT_get hfs vs a0.tmps hN n0 hn0 t
     by_cases hx : ∃ j, j < n0 /\ dstOf ops j = some t
     ·obtain ⟨j, hj, hd⟩ := hx
      rw [k1 j hj hd, h3 j t (by omega) hd (by rw [hgf listed hl j (by omega)]; exact hall j hj)]
     ·rw [k2 (fun j hj hd => hx ⟨j, hj, hd⟩)]
      refine h4 t fun j hj hd => ?_
      rcases Nat.lt_or_ge j n0 with h | h
      ·exact absurd ⟨j, h, hd⟩ hx
      ·rw [hgf listed hl j hj]; exact htl j hj h
    rw [ha];exact hQ vs w (fun j hj => hV j hj (by rw [hgf listed hl j (by omega)]; exact hall j hj)) hS
  intro fuel
  induction fuel with
  | zero =>
   intro listed a w vs hl hc htl hA hV hS hcl;refine hend 0 listed a w vs hl hc htl hA hV hS fun j hj => ?_
   cases hc2 : listed.getD j true with
   | true => rfl
   | false =>
    have : j ∈ (List.range ops.size).filter fun j => !listed.getD j true := List.mem_filter.2 ⟨List.mem_range.2 (by omega), by rw [hc2]; rfl⟩
    rw [List.eq_nil_of_length_eq_zero (Nat.le_zero.1 hc)] at this
    cases this
  | succ fuel ih =>
   intro listed a w vs hl hc htl hA hV hS hcl
   by_cases hall : ∀ j, j < n0 -> listed.getD j true = true
   ·exact hend (fuel + 1) listed a w vs hl hc htl hA hV hS hall
   ·have hunl : ∃ j, j < n0 /\ listed.getD j true = false := by
     apply Classical.byContradiction
     intro h;exact hall fun j hj => by
      cases hc2 : listed.getD j true with
      | true => rfl
      | false => exact absurd ⟨j, hj, hc2⟩ h
    have hni : ∀ i, i ∈ Region.ready .any ops listed -> i < n0 \/ (i = n0 /\ ∀ j, j < n0 -> j ≠ ℓ -> listed.getD j true = true) := by
     intro i hi;obtain ⟨hun, o, ho, hdep⟩ := mem_ready.1 hi
     have hlt : i < ops.size := (Array.getElem?_eq_some_iff.1 ho).1
     have hwd : ∀ j, waits .any ops i j = true -> listed.getD j false = true := by
      intro j hwi;unfold waits at hwi
      rw [ho] at hwi;simp only [Option.map_some, Option.getD_some, Array.any_eq_true', Bool.and_eq_true, beq_iff_eq] at hwi
      obtain ⟨e, he, hb, hek⟩ := hwi
      have h1 := hdep e he hb
      rw [hek] at h1;exact h1
     rcases Nat.lt_or_ge i n0 with h | h
     ·exact .inl h
     ·right
      rcases Nat.eq_or_lt_of_le h with h9 | h9
      ·subst h9
       refine ⟨rfl, fun j hj hjl => ?_⟩
       rcases hw n0 j hlt (Nat.le_refl _) hj with h1 | h1
       ·rw [<- hgf listed hl j (by omega)]
        exact waitsT_closed (S := fun j => listed.getD j false = true) hcl 9 n0 j hwd h1
       ·exact absurd h1.2 hjl
      ·exfalso
       rcases hw i n0 hlt h h9 with h1 | h1
       ·have := waitsT_closed (S := fun j => listed.getD j false = true) hcl 9 i n0 hwd h1
        rw [hgf listed hl n0 hn9] at this
        rw [htl n0 hn9 (Nat.le_refl _)] at this; cases this
       ·omega
    refine ⟨fun hr => ?_, fun i hi => ?_⟩
    ·exfalso
     have hex : ∀ j, j < n0 -> listed.getD j true = true := by
      intro j
      induction j using Nat.strongRecOn with
      | ind j ihj =>
       intro hj
       cases hc2 : listed.getD j true with
       | true => rfl
       | false =>
        have : j ∈ Region.ready .any ops listed := by
         refine mem_ready.2 ⟨hc2, ops[j], Array.getElem?_eq_getElem (by omega), fun e he hbi => ?_⟩
         have hb := hfs.back j ops[j] e (Array.getElem?_eq_getElem (by omega)) he hbi
         rw [hgf listed hl e.on (by omega)]
         exact ihj e.on hb (by omega)
        rw [hr] at this; cases this
     exact hall hex
    ·rcases hni i hi with hin | ⟨rfl, hall2⟩
     case inr =>
      have hunl2 : listed.getD ℓ true = false := by
       obtain ⟨j, hj, hjf⟩ := hunl
       by_cases hjl : j = ℓ
       ·rw [<- hjl]; exact hjf
       ·rw [hall2 j hj hjl] at hjf; cases hjf
      have hcnt : ops.size - i + 1 <= fuel + 1 := by
       refine Nat.le_trans ?_ hc
       have hmem : ℓ ∈ (List.range ops.size).filter fun j => !listed.getD j true := List.mem_filter.2 ⟨List.mem_range.2 (by omega), by rw [hunl2]; rfl⟩
       have hlt2 : (((List.range ops.size).filter fun j => !listed.getD j true).filter fun j => j != ℓ).length < ((List.range ops.size).filter fun j => !listed.getD j true).length := by
        apply List.length_filter_lt_length_iff_exists.2
        exact ⟨ℓ, hmem, by simp⟩
       have heq : (((List.range ops.size).filter fun j => !listed.getD j true).filter fun j => j != ℓ) = (List.range ops.size).filter (fun j => decide (i <= j)) := by
        rw [List.filter_filter]
        apply List.filter_congr
        intro j hj;have hj' := List.mem_range.1 hj
        by_cases hjl : j = ℓ
        ·subst hjl; simp; omega
        ·rcases Nat.lt_or_ge j i with h | h
         ·rw [hall2 j h hjl]; simp; omega
         ·rw [htl j hj' h]; simp [h, hjl]
       have h2 : (List.range ops.size).filter (fun j => decide (i <= j)) = List.range' i (ops.size - i) := by
        have : List.range ops.size = List.range i ++ List.range' i (ops.size - i) := by
         rw [List.range_eq_range', List.range_eq_range', show ops.size = i + (ops.size - i) by omega, <- List.range'_append_1]; simp
        rw [this, List.filter_append]
        rw [List.filter_eq_nil_iff.2 (fun x hx => by have := List.mem_range.1 hx; simp; omega), List.nil_append]
        exact List.filter_eq_self.2 (fun x hx => by have := (List.mem_range'_1.1 hx).1; simpa using this)
       rw [heq, h2, List.length_range'] at hlt2
       omega
      have hq := hQ2 (fun j => if j = ℓ then a0.tmps.getD ((dstOf ops ℓ).getD 0) undef else vs j) w (fun j hj hjl => by
        simp only [if_neg hjl]
        exact hV j hj (by rw [hgf listed hl j (by omega)]; exact hall2 j hj hjl)) (fun t htl2 => by
        simp only [if_true]
        rw [htl2, Option.getD_some]
        have h1 := hfs.inb ℓ t htl2
        rw [Array.getD_eq_getD_getElem?, Array.getElem?_eq_getElem (by rw [hN]; exact h1)]; rfl) hS
      have ha : a = ⟨finT ops (fun j => if j = ℓ then a0.tmps.getD ((dstOf ops ℓ).getD 0) undef else vs j) a0.tmps i, a0.defers⟩ := by
       obtain ⟨h1, h2, h3, h4⟩ := hA
       obtain ⟨T, D⟩ := a
       simp only at h1 h2 h3 h4
       subst h1
       congr 1
       apply Array.ext_getElem?
       intro t;obtain ⟨k1, k2⟩ := finT_get hfs (fun j => if j = ℓ then a0.tmps.getD ((dstOf ops ℓ).getD 0) undef else vs j) a0.tmps hN i hn0 t
       by_cases hx : ∃ j, j < i /\ dstOf ops j = some t
       ·obtain ⟨j, hj, hd⟩ := hx
        rw [k1 j hj hd]
        by_cases hjl : j = ℓ
        ·subst hjl
         simp only [if_true]
         rw [hd, Option.getD_some]
         have hin := hfs.inb j t hd
         rw [h4 t fun q hq hqd => by rw [hfs.apart q j t hq (by omega) hqd hd, hgf listed hl j (by omega)]; exact hunl2]
         rw [Array.getD_eq_getD_getElem?, Array.getElem?_eq_getElem (by rw [hN]; exact hin)]; rfl
        ·simp only [if_neg hjl]
         exact h3 j t (by omega) hd (by rw [hgf listed hl j (by omega)]; exact hall2 j hj hjl)
       ·rw [k2 (fun j hj hd => hx ⟨j, hj, hd⟩)]
        refine h4 t fun j hj hd => ?_
        rcases Nat.lt_or_ge j i with h | h
        ·exact absurd ⟨j, h, hd⟩ hx
        ·rw [hgf listed hl j hj]; exact htl j hj h
      rw [<- ha] at hq;have hmn : ∀ a w, wpList P ops Q (ops[ℓ] :: ops.toList.drop (i + 1)) a w -> wpAny P .any ops Q fuel (listed.setIfInBounds i true) a w := fun a w h =>
       any_late1T hfs ht1 hℓ (lateFitT_not ht) fuel _ a w (by simp [hl]) hn9 (by omega) (fun j hj => by
        by_cases hji : j = i
        ·subst hji
         simp [Array.getD_eq_getD_getElem?, Array.getElem?_setIfInBounds, hl, hn9]; omega
        ·have e1 : (listed.setIfInBounds i true).getD j true = listed.getD j true := by
          simp [Array.getD_eq_getD_getElem?, Array.getElem?_setIfInBounds, Ne.symm hji]
         rw [e1];rcases Nat.lt_or_ge j i with h5 | h5
         ·by_cases hjl : j = ℓ
          ·rw [hjl, hunl2]; simp
          ·rw [hall2 j h5 hjl]; simp [hjl]; omega
         ·rw [htl j hj h5]; simp; omega) h
      unfold wpOp;rw [Array.getElem?_eq_getElem hn9]
      simp only
      unfold wpList at hq
      split
      ·rename_i hwn
       rw [if_pos hwn] at hq
       exact hq.imp (Oper.wp_mono hmn) (fun x => x)
      ·rename_i hwn
       rw [if_neg hwn] at hq
       exact hmn _ _ hq
     obtain ⟨hun, o, ho, hdep⟩ := mem_ready.1 hi
     have hlt : i < ops.size := (Array.getElem?_eq_some_iff.1 ho).1
     unfold wpOp;simp only [ho]
     rw [if_pos (by unfold Region.wanted; rw [hfs.guard i o ho])]
     refine .inl ?_
     have hdo : dstOf ops i = o.dst := by unfold dstOf; rw [ho]; rfl
     have hwl : ∀ j, waits .any ops i j = true -> listed.getD j false = true /\ j < n0 := by
      intro j hwj;unfold waits at hwj
      rw [ho] at hwj;simp only [Option.map_some, Option.getD_some, Array.any_eq_true', Bool.and_eq_true, beq_iff_eq] at hwj
      obtain ⟨e, he, hb, rfl⟩ := hwj
      exact ⟨hdep e he hb, by have := hfs.back i o e ho he hb; omega⟩
     have hD := (hop i hin).step a.eval w (fun _ => rfl) (fun _ => rfl) (fun _ => rfl) (fun t ht' => by
       show a.tmps.getD t undef = _
       rw [Array.getD_eq_getD_getElem?, Array.getD_eq_getD_getElem?, hA.2.2.2 t fun j hj hjt => absurd hjt (ht' j hj)])
      (fun j t hwj hjt => by
       obtain ⟨h1, h1n⟩ := hwl j hwj
       have h2 := hA.2.2.1 j t (by omega) hjt h1
       show V j (a.tmps.getD t undef) w
       rw [Array.getD_eq_getD_getElem?, h2]
       exact hV j h1n h1) (fun j hwj _ => ⟨vs j, hV j (hwl j hwj).2 (hwl j hwj).1⟩) hS o ho
     refine Does.wp hD ?_
     rintro v w' ⟨hv, hs⟩
     rw [<- hdo];have hfl : (List.range ops.size).filter (fun j => !(listed.setIfInBounds i true).getD j true) = ((List.range ops.size).filter fun j => !listed.getD j true).filter fun j => j != i := by
      rw [List.filter_filter]
      apply List.filter_congr
      intro j hj
      by_cases hji : j = i
      ·subst hji
       simp [Array.getD_eq_getD_getElem?, Array.getElem?_setIfInBounds, hl, hlt]
      ·simp [Array.getD_eq_getD_getElem?, Array.getElem?_setIfInBounds, Ne.symm hji, hji]
     refine ih (listed.setIfInBounds i true) (a.put (dstOf ops i) v) w' _ (by simp [hl]) ?_ (fun j hj hjn => ?_) (hA.step hfs hN hlt hl hun v) (fun j hj hlj' => ?_) (hS.trans hs) (fun b hb j hj => ?_)
     ·rw [hfl]
      have hmem : i ∈ (List.range ops.size).filter fun j => !listed.getD j true := List.mem_filter.2 ⟨List.mem_range.2 hlt, by rw [hun]; rfl⟩
      have hlt2 : (((List.range ops.size).filter fun j => !listed.getD j true).filter fun j => j != i).length < ((List.range ops.size).filter fun j => !listed.getD j true).length := by
       apply List.length_filter_lt_length_iff_exists.2
       exact ⟨i, hmem, by simp⟩
      omega
     ·have hji : j ≠ i := by omega
      rw [Array.getD_eq_getD_getElem?, Array.getElem?_setIfInBounds, if_neg (Ne.symm hji), <- Array.getD_eq_getD_getElem?]
      exact htl j hj hjn
     ·by_cases hji : j = i
      ·subst hji; simp only [if_true]; exact hv
      ·simp only [if_neg hji]
       refine hst j _ w w' hj (hV j hj ?_) hs
       rw [Array.getD_eq_getD_getElem?, Array.getElem?_setIfInBounds] at hlj'
       rw [Array.getD_eq_getD_getElem?]
       simpa [Ne.symm hji] using hlj'
     ·have hkeep : ∀ q, listed.getD q false = true -> (listed.setIfInBounds i true).getD q false = true := by
       intro q hq
       by_cases hqi : q = i
       ·subst hqi; simp [Array.getD_eq_getD_getElem?, Array.getElem?_setIfInBounds, hl, hlt]
       ·rw [Array.getD_eq_getD_getElem?, Array.getElem?_setIfInBounds, if_neg (Ne.symm hqi), <- Array.getD_eq_getD_getElem?]; exact hq
      by_cases hbi : b = i
      ·subst hbi; exact hkeep j (hwl j hj).1
      ·rw [Array.getD_eq_getD_getElem?, Array.getElem?_setIfInBounds, if_neg (Ne.symm hbi), <- Array.getD_eq_getD_getElem?] at hb
       exact hkeep j (hcl b hb j hj)
 refine main ops.size _ a0 _ (fun _ => undef) (by simp) (by have := List.length_filter_le (fun j => !(Array.replicate ops.size false).getD j true) (List.range ops.size); rw [List.length_range] at this; exact this) (fun j hj _ => ?_) ⟨rfl, rfl, fun j t hj _ h => ?_, fun t _ => rfl⟩ (fun j hj h => ?_) (Kept.drew _) (fun b hb => ?_)
 ·simp [Array.getD_eq_getD_getElem?, hj]
 ·simp [Array.getD_eq_getD_getElem?, hj] at h
 ·simp [Array.getD_eq_getD_getElem?, (show j < ops.size by omega)] at h
 ·exfalso
  rw [Array.getD_eq_getD_getElem?] at hb
  rcases Nat.lt_or_ge b ops.size with h | h
  ·rw [Array.getElem?_replicate, if_pos h] at hb; cases hb
  ·rw [Array.getElem?_replicate, if_neg (by omega)] at hb; cases hb
end
end Fre
namespace Fre
section
variable {P : Program} {ops : Array Oper}
theorem region_tailS {St : World -> World -> Prop} (htr : ∀ a b c, St a b -> St b c -> St a c) {id : Nat} {Q : Exit -> Act -> World -> Prop} {a0 : Act} {w0 : World} (hdr : St w0 w0.drew) (N n0 : Nat) (hm : P.follows .mixedOrders = true) (hf : fit .any ops N = true) (hN : a0.tmps.size = N) (ht : tailFitT .any ops n0 = true) (hn0 : n0 <= ops.size) (V : Nat -> Value -> World -> Prop)
  (hst : ∀ j v w w', j < n0 -> V j v w -> St w w' -> V j v w') (hop : ∀ i, i < n0 -> StepB P ops a0 w0 V St i)
  (hQ : ∀ (vs : Nat -> Value) w, (∀ j, j < n0 -> V j (vs j) w) -> St w0 w -> wpList P ops Q (ops.toList.drop n0) ⟨finT ops vs a0.tmps n0, a0.defers⟩ w) : (Code.region id ops true).wp P Q a0 w0 := by
 refine wp_region_any hm ?_
 have hfs := fits_of (md := .any) hf
 have hw := tailFitT_spec ht
 have hgf : ∀ (listed : Array Bool), listed.size = ops.size -> ∀ j, j < ops.size -> listed.getD j false = listed.getD j true := fun listed hl j hj => by
  simp [Array.getD_eq_getD_getElem?, hl, hj]
 have main : ∀ (fuel : Nat) (listed : Array Bool) (a : Act) (w : World) (vs : Nat -> Value), listed.size = ops.size -> ((List.range ops.size).filter fun j => !listed.getD j true).length <= fuel ->
   (∀ j, j < ops.size -> n0 <= j -> listed.getD j true = false) -> Agree ops a0 a listed vs -> (∀ j, j < n0 -> listed.getD j false = true -> V j (vs j) w) -> St w0 w -> (∀ b, listed.getD b false = true -> ∀ j, waits .any ops b j = true -> listed.getD j false = true) -> wpAny P .any ops Q fuel listed a w := by
  have hend : ∀ (fuel : Nat) (listed : Array Bool) (a : Act) (w : World) (vs : Nat -> Value), listed.size = ops.size -> ((List.range ops.size).filter fun j => !listed.getD j true).length <= fuel -> (∀ j, j < ops.size -> n0 <= j -> listed.getD j true = false) -> Agree ops a0 a listed vs -> (∀ j, j < n0 -> listed.getD j false = true -> V j (vs j) w) -> St w0 w -> (∀ j, j < n0 -> listed.getD j true = true) -> wpAny P .any ops Q fuel listed a w := by
   intro fuel listed a w vs hl hc htl hA hV hS hall;have hcnt : ops.size - n0 <= fuel := by
    refine Nat.le_trans ?_ hc
    have : ((List.range ops.size).filter fun j => !listed.getD j true).length = ((List.range ops.size).filter fun j => decide (n0 <= j)).length := by
     congr 1
     apply List.filter_congr
     intro j hj;have hj' := List.mem_range.1 hj
     rcases Nat.lt_or_ge j n0 with h | h
     ·rw [hall j h]; simp; omega
     ·rw [htl j hj' h]; simp; omega
    rw [this];have h2 : (List.range ops.size).filter (fun j => decide (n0 <= j)) = List.range' n0 (ops.size - n0) := by
     have : List.range ops.size = List.range n0 ++ List.range' n0 (ops.size - n0) := by
      rw [List.range_eq_range', List.range_eq_range', show ops.size = n0 + (ops.size - n0) by omega, <- List.range'_append_1]; simp
     rw [this, List.filter_append]
     rw [List.filter_eq_nil_iff.2 (fun x hx => by have := List.mem_range.1 hx; simp; omega), List.nil_append]
     exact List.filter_eq_self.2 (fun x hx => by have := (List.mem_range'_1.1 hx).1; simpa using this)
    rw [h2, List.length_range']; exact Nat.le_refl _
   refine any_tail1T hfs ht fuel n0 listed a w hl (Nat.le_succ _) hcnt (fun j hj => ?_) ?_
   ·rcases Nat.lt_or_ge j n0 with h | h
    ·rw [hall j h]; simp [h]
    ·rw [htl j hj h]; simp; omega
   ·have ha : a = ⟨finT ops vs a0.tmps n0, a0.defers⟩ := by
     obtain ⟨h1, h2, h3, h4⟩ := hA
     obtain ⟨T, D⟩ := a
     simp only at h1 h2 h3 h4
     subst h1
     congr 1
     apply Array.ext_getElem?
     intro t;obtain ⟨k1, k2⟩ := finT_get hfs vs a0.tmps hN n0 hn0 t
     by_cases hx : ∃ j, j < n0 /\ dstOf ops j = some t
     ·obtain ⟨j, hj, hd⟩ := hx
      rw [k1 j hj hd, h3 j t (by omega) hd (by rw [hgf listed hl j (by omega)]; exact hall j hj)]
     ·rw [k2 (fun j hj hd => hx ⟨j, hj, hd⟩)]
      refine h4 t fun j hj hd => ?_
      rcases Nat.lt_or_ge j n0 with h | h
      ·exact absurd ⟨j, h, hd⟩ hx
      ·rw [hgf listed hl j hj]; exact htl j hj h
    rw [ha];exact hQ vs w (fun j hj => hV j hj (by rw [hgf listed hl j (by omega)]; exact hall j hj)) hS
  intro fuel
  induction fuel with
  | zero =>
   intro listed a w vs hl hc htl hA hV hS hcl;refine hend 0 listed a w vs hl hc htl hA hV hS fun j hj => ?_
   cases hc2 : listed.getD j true with
   | true => rfl
   | false =>
    have : j ∈ (List.range ops.size).filter fun j => !listed.getD j true := List.mem_filter.2 ⟨List.mem_range.2 (by omega), by rw [hc2]; rfl⟩
    rw [List.eq_nil_of_length_eq_zero (Nat.le_zero.1 hc)] at this
    cases this
  | succ fuel ih =>
   intro listed a w vs hl hc htl hA hV hS hcl
   by_cases hall : ∀ j, j < n0 -> listed.getD j true = true
   ·exact hend (fuel + 1) listed a w vs hl hc htl hA hV hS hall
   ·have hunl : ∃ j, j < n0 /\ listed.getD j true = false := by
     apply Classical.byContradiction
     intro h;exact hall fun j hj => by
      cases hc2 : listed.getD j true with
      | true => rfl
      | false => exact absurd ⟨j, hj, hc2⟩ h
    have hni : ∀ i, i ∈ Region.ready .any ops listed -> i < n0 := by
     intro i hi;obtain ⟨hun, o, ho, hdep⟩ := mem_ready.1 hi
     have hlt : i < ops.size := (Array.getElem?_eq_some_iff.1 ho).1
     rcases Nat.lt_or_ge i n0 with h | h
     ·exact h
     ·exfalso
      obtain ⟨j, hj, hjf⟩ := hunl
      have hwd : ∀ j, waits .any ops i j = true -> listed.getD j false = true := by
       intro j hwi;unfold waits at hwi
       rw [ho] at hwi;simp only [Option.map_some, Option.getD_some, Array.any_eq_true', Bool.and_eq_true, beq_iff_eq] at hwi
       obtain ⟨e, he, hb, hek⟩ := hwi
       have h1 := hdep e he hb
       rw [hek] at h1;exact h1
      have h1 := waitsT_closed (S := fun j => listed.getD j false = true) hcl 9 i j hwd (hw i j hlt h (by omega))
      rw [hgf listed hl j (by omega)] at h1
      rw [h1] at hjf; cases hjf
    refine ⟨fun hr => ?_, fun i hi => ?_⟩
    ·exfalso
     have hex : ∀ j, j < n0 -> listed.getD j true = true := by
      intro j
      induction j using Nat.strongRecOn with
      | ind j ihj =>
       intro hj
       cases hc2 : listed.getD j true with
       | true => rfl
       | false =>
        have : j ∈ Region.ready .any ops listed := by
         refine mem_ready.2 ⟨hc2, ops[j], Array.getElem?_eq_getElem (by omega), fun e he hbi => ?_⟩
         have hb := hfs.back j ops[j] e (Array.getElem?_eq_getElem (by omega)) he hbi
         rw [hgf listed hl e.on (by omega)]
         exact ihj e.on hb (by omega)
        rw [hr] at this; cases this
     exact hall hex
    ·have hin := hni i hi
     obtain ⟨hun, o, ho, hdep⟩ := mem_ready.1 hi
     have hlt : i < ops.size := (Array.getElem?_eq_some_iff.1 ho).1
     unfold wpOp;simp only [ho]
     rw [if_pos (by unfold Region.wanted; rw [hfs.guard i o ho])]
     refine .inl ?_
     have hdo : dstOf ops i = o.dst := by unfold dstOf; rw [ho]; rfl
     have hwl : ∀ j, waits .any ops i j = true -> listed.getD j false = true /\ j < n0 := by
      intro j hwj;unfold waits at hwj
      rw [ho] at hwj;simp only [Option.map_some, Option.getD_some, Array.any_eq_true', Bool.and_eq_true, beq_iff_eq] at hwj
      obtain ⟨e, he, hb, rfl⟩ := hwj
      exact ⟨hdep e he hb, by have := hfs.back i o e ho he hb; omega⟩
     have hD := (hop i hin).step a.eval w (fun _ => rfl) (fun _ => rfl) (fun _ => rfl) (fun t ht' => by
       show a.tmps.getD t undef = _
       rw [Array.getD_eq_getD_getElem?, Array.getD_eq_getD_getElem?, hA.2.2.2 t fun j hj hjt => absurd hjt (ht' j hj)])
      (fun j t hwj hjt => by
       obtain ⟨h1, h1n⟩ := hwl j hwj
       have h2 := hA.2.2.1 j t (by omega) hjt h1
       show V j (a.tmps.getD t undef) w
       rw [Array.getD_eq_getD_getElem?, h2]
       exact hV j h1n h1) (fun j hwj _ => ⟨vs j, hV j (hwl j hwj).2 (hwl j hwj).1⟩) hS o ho
     refine Does.wp hD ?_
     rintro v w' ⟨hv, hs⟩
     rw [<- hdo];have hfl : (List.range ops.size).filter (fun j => !(listed.setIfInBounds i true).getD j true) = ((List.range ops.size).filter fun j => !listed.getD j true).filter fun j => j != i := by
      rw [List.filter_filter]
      apply List.filter_congr
      intro j hj
      by_cases hji : j = i
      ·subst hji
       simp [Array.getD_eq_getD_getElem?, Array.getElem?_setIfInBounds, hl, hlt]
      ·simp [Array.getD_eq_getD_getElem?, Array.getElem?_setIfInBounds, Ne.symm hji, hji]
     refine ih (listed.setIfInBounds i true) (a.put (dstOf ops i) v) w' _ (by simp [hl]) ?_ (fun j hj hjn => ?_) (hA.step hfs hN hlt hl hun v) (fun j hj hlj' => ?_) (htr _ _ _ hS hs) (fun b hb j hj => ?_)
     ·rw [hfl]
      have hmem : i ∈ (List.range ops.size).filter fun j => !listed.getD j true := List.mem_filter.2 ⟨List.mem_range.2 hlt, by rw [hun]; rfl⟩
      have hlt2 : (((List.range ops.size).filter fun j => !listed.getD j true).filter fun j => j != i).length < ((List.range ops.size).filter fun j => !listed.getD j true).length := by
       apply List.length_filter_lt_length_iff_exists.2
       exact ⟨i, hmem, by simp⟩
      omega
     ·have hji : j ≠ i := by omega
      rw [Array.getD_eq_getD_getElem?, Array.getElem?_setIfInBounds, if_neg (Ne.symm hji), <- Array.getD_eq_getD_getElem?]
      exact htl j hj hjn
     ·by_cases hji : j = i
      ·subst hji; simp only [if_true]; exact hv
      ·simp only [if_neg hji]
       refine hst j _ w w' hj (hV j hj ?_) hs
       rw [Array.getD_eq_getD_getElem?, Array.getElem?_setIfInBounds] at hlj'
       rw [Array.getD_eq_getD_getElem?]
       simpa [Ne.symm hji] using hlj'
     ·have hkeep : ∀ q, listed.getD q false = true -> (listed.setIfInBounds i true).getD q false = true := by
       intro q hq
       by_cases hqi : q = i
       ·subst hqi; simp [Array.getD_eq_getD_getElem?, Array.getElem?_setIfInBounds, hl, hlt]
       ·rw [Array.getD_eq_getD_getElem?, Array.getElem?_setIfInBounds, if_neg (Ne.symm hqi), <- Array.getD_eq_getD_getElem?]; exact hq
      by_cases hbi : b = i
      ·subst hbi; exact hkeep j (hwl j hj).1
      ·rw [Array.getD_eq_getD_getElem?, Array.getElem?_setIfInBounds, if_neg (Ne.symm hbi), <- Array.getD_eq_getD_getElem?] at hb
       exact hkeep j (hcl b hb j hj)
 refine main ops.size _ a0 _ (fun _ => undef) (by simp) (by have := List.length_filter_le (fun j => !(Array.replicate ops.size false).getD j true) (List.range ops.size); rw [List.length_range] at this; exact this) (fun j hj _ => ?_) ⟨rfl, rfl, fun j t hj _ h => ?_, fun t _ => rfl⟩ (fun j hj h => ?_) hdr (fun b hb => ?_)
 ·simp [Array.getD_eq_getD_getElem?, hj]
 ·simp [Array.getD_eq_getD_getElem?, hj] at h
 ·simp [Array.getD_eq_getD_getElem?, (show j < ops.size by omega)] at h
 ·exfalso
  rw [Array.getD_eq_getD_getElem?] at hb
  rcases Nat.lt_or_ge b ops.size with h | h
  ·rw [Array.getElem?_replicate, if_pos h] at hb; cases hb
  ·rw [Array.getElem?_replicate, if_neg (by omega)] at hb; cases hb
theorem region_tailT {id : Nat} {Q : Exit -> Act -> World -> Prop} {a0 : Act} {w0 : World} (N n0 : Nat) (hm : P.follows .mixedOrders = true) (hf : fit .any ops N = true) (hN : a0.tmps.size = N) (ht : tailFitT .any ops n0 = true) (hn0 : n0 <= ops.size) (V : Nat -> Value -> World -> Prop)
  (hst : ∀ j v w w', j < n0 -> V j v w -> Kept w w' -> V j v w') (hop : ∀ i, i < n0 -> StepB P ops a0 w0 V Kept i)
  (hQ : ∀ (vs : Nat -> Value) w, (∀ j, j < n0 -> V j (vs j) w) -> Kept w0 w -> wpList P ops Q (ops.toList.drop n0) ⟨finT ops vs a0.tmps n0, a0.defers⟩ w) : (Code.region id ops true).wp P Q a0 w0 :=
 region_tailS (fun _ _ _ h k => h.trans k) (Kept.drew _) N n0 hm hf hN ht hn0 V hst hop hQ
end
end Fre
namespace Fre
section
variable {P : Program} {ops : Array Oper}
structure KeptC (B : Nat) (w1 w2 : World) : Prop where
 b : Below B w1 w2
 c : ∀ p v, w1.cell? p = some v -> w2.cell? p = some v
 s : ∀ q t k, w1.shape? q = some (t, k) -> w2.shape? q = some (t, k)
theorem KeptC.refl (B : Nat) (a : World) : KeptC B a a := ⟨Below.refl _ _, fun _ _ h => h, fun _ _ _ h => h⟩
theorem KeptC.trans {B : Nat} {a b c : World} (h : KeptC B a b) (k : KeptC B b c) : KeptC B a c := ⟨Below.trans h.b k.b, fun p v hp => k.c p v (h.c p v hp), fun q t n hq => k.s q t n (h.s q t n hq)⟩
theorem KeptC.of {B : Nat} {a b : World} (h : Below a.heap.size a b) (hB : B <= a.heap.size) : KeptC B a b := by
 refine ⟨h.mono hB, fun p v hp => ?_, fun q t n hq => ?_⟩
 ·have hlt : p.block < a.heap.size := by
   rcases Nat.lt_or_ge p.block a.heap.size with h1 | h1
   ·exact h1
   ·simp [World.cell?, Array.getElem?_eq_none h1] at hp
  rw [<- hp];simp only [World.cell?, h.block p.block hlt]
 ·have hlt : q < a.heap.size := by
   rcases Nat.lt_or_ge q a.heap.size with h1 | h1
   ·exact h1
   ·simp [World.shape?, Array.getElem?_eq_none h1] at hq
  rw [<- hq];simp only [World.shape?, h.block q hlt]
theorem region_keptC {B : Nat} {id : Nat} {Q : Exit -> Act -> World -> Prop} {a0 : Act} {w0 : World} (N : Nat) (hm : P.follows .mixedOrders = true) (hf : fit .any ops N = true) (hN : a0.tmps.size = N) (V : Nat -> Value -> World -> Prop)
  (hst : ∀ j v w w', j < ops.size -> V j v w -> KeptC B w w' -> V j v w') (hop : ∀ i, i < ops.size -> StepB P ops a0 w0 V (KeptC B) i)
  (hQ : ∀ (vs : Nat -> Value) w, (∀ j, j < ops.size -> V j (vs j) w) -> KeptC B w0 w -> Q .normal ⟨finT ops vs a0.tmps ops.size, a0.defers⟩ w) : (Code.region id ops true).wp P Q a0 w0 :=
 region_free N hm hf hN V (KeptC B) (KeptC.refl B) ⟨(Below.refl _ _).drew, fun _ _ h => h, fun _ _ _ h => h⟩ (fun _ _ _ h k => h.trans k) hst (fun i hi => (hop i hi).step) hQ
end
end Fre
namespace Fre
section
variable {P : Program} {ops : Array Oper}
def StepOB (P : Program) (ops : Array Oper) (a0 : Act) (w0 : World) (V : Nat -> Value -> World -> Prop) (St : World -> World -> Prop) (i : Nat) : Prop :=
 ∀ (E : Operand -> Value) (w : World), (∀ v, E (.const v) = v) -> (∀ f, E (.func f) = .func (.func f) #[] #[]) ->
  (∀ t, lateDst ops i t = true -> E (.tmp t) = a0.tmps.getD t undef) -> (∀ j t, waits .any ops i j = true -> (dstOf ops j == some t) = true -> V j (E (.tmp t)) w) -> (∀ j, waits .any ops i j = true -> dstOf ops j = none -> ∃ v, V j v w) -> St w0 w ->
  ∀ o, ops[i]? = some o -> Does P E o w fun v w' => V i v w' /\ St w w'
theorem StepOB.step {a0 : Act} {w0 : World} {V : Nat -> Value -> World -> Prop} {St : World -> World -> Prop} {i : Nat} (h : StepOB P ops a0 w0 V St i) : StepO P .any ops a0 w0 V St i :=
 fun E w h1 h2 _ h4 h5 h6 h7 o ho => h E w h1 h2 (fun t ht => h4 t fun j hj hd => by
  unfold lateDst at ht
  rw [List.all_eq_true] at ht;have := ht j (List.mem_range.2 hj)
  rw [hd] at this; simpa using this) (fun j t hw hd => h5 j t hw (by simpa using hd)) h6 h7 o ho
theorem region_keptO {id : Nat} {Q : Exit -> Act -> World -> Prop} {a0 : Act} {w0 : World} (N : Nat) (hm : P.follows .mixedOrders = true) (hf : fit .any ops N = true) (hN : a0.tmps.size = N) (V : Nat -> Value -> World -> Prop)
  (hst : ∀ j v w w', j < ops.size -> V j v w -> Kept w w' -> V j v w') (hop : ∀ i, i < ops.size -> StepOB P ops a0 w0 V Kept i)
  (hQ : ∀ (vs : Nat -> Value) w, (∀ j, j < ops.size -> V j (vs j) w) -> Kept w0 w -> Q .normal ⟨finT ops vs a0.tmps ops.size, a0.defers⟩ w) : (Code.region id ops true).wp P Q a0 w0 :=
 region_freeO N hm hf hN V Kept Kept.refl (Kept.drew _) (fun _ _ _ h k => h.trans k) hst (fun i hi => (hop i hi).step) hQ
end
end Fre
end Go.Proofs.YtnmdjggdgakeoaaGreat
