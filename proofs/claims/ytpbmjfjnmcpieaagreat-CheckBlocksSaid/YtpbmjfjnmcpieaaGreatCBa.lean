/- Texts SeatFT, Lib, ArrEq, ArrOpen, Reg, LnBase, ChM, ChS, ChA, ChB, ChC, ChD, ChE, ChG, put together by pack.py. -/
import Derived.Test.YtpbmjfjnmcpieaaGreatRows
import Derived.JoinedOf
import Derived.KernelRfl
import Derived.WalkKit
import Derived.WalkLawsBesides
import Derived.WalkSpells
import Derived.BigQuiet
import Derived.Deep.QuietTactic
import Derived.Lib.Hide
import Derived.ChangeKeysEq
import Derived.OpenShut
import Derived.ProofKit
import Derived.StillTailTactics
import Derived.Test.YtpbmjfjnmcpieaaGreatProg
import Derived.Deep.OwnRows
import Derived.Deep.RegionHeld
import Derived.Deep.MidRow
import Derived.OrdersHeld
import Derived.Laws.BytesString
import Derived.Laws.IdiomStrings
import Derived.Laws.Rows
import Derived.Laws.CopyOwn
import Derived.Lib.BufferRead
import Derived.Maps.AppendAt
import Derived.Lib.Walk
import Derived.Laws.BitsAllLaws
set_option maxRecDepth 100000
set_option maxHeartbeats 16000000
set_option linter.unusedVariables false
set_option linter.unusedSimpArgs false
namespace Go.Proofs.YtpbmjfjnmcpieaaGreat
open Go
theorem and_t {a b : Bool} (ha : a = true) (hb : b = true) : (a && b) = true := by rw [ha, hb]; rfl
theorem pf_laidOut : laidOutB Tryz.prog = true := by kernel_rfl
theorem pf_mapsRowed : mapsRowed Tryz.prog = true := by kernel_rfl
theorem pf_stops : (Tryz.prog.stops == []) = true := by kernel_rfl
theorem pf_stopKnobs : (Tryz.prog.stopKnobs == []) = true := by kernel_rfl
theorem pf_plainKeys : (true == Tryz.prog.plainKeys) = true := by kernel_rfl
theorem pf_stopsHeard : Tryz.prog.stopsHeard = true := by kernel_rfl
theorem pf_mayEnter : Tryz.prog.mayEnter = true := by kernel_rfl
theorem pf_lifted : (false == Tryz.prog.liftsFinal) = true := by kernel_rfl
end Go.Proofs.YtpbmjfjnmcpieaaGreat
namespace Go.Proofs.YtpbmjfjnmcpieaaGreat
open Go Go.RowKit
theorem ret_i {k : IntKind} {a b : Int} (h : a = b) : Ending.returned (.int k a) = .returned (.int k b) := by rw [h]
theorem wf_nat8 {a : Int} (h : (Lit.int .u8 a).wf = true) : ∃ n : Nat, n < 256 /\ a = n := by
 have hmin : IntKind.u8.min = 0 := rfl
 have hmax : IntKind.u8.max = 255 := rfl
 simp only [Lit.wf, Bool.and_eq_true, decide_eq_true_eq] at h
 exact ⟨a.toNat, by omega, by omega⟩
theorem wf_nat64 {a : Int} (h : (Lit.int .u64 a).wf = true) : ∃ n : Nat, n < 18446744073709551616 /\ a = n := by
 have hmin : IntKind.u64.min = 0 := rfl
 have hmax : IntKind.u64.max = 18446744073709551615 := rfl
 simp only [Lit.wf, Bool.and_eq_true, decide_eq_true_eq] at h
 exact ⟨a.toNat, by omega, by omega⟩
end Go.Proofs.YtpbmjfjnmcpieaaGreat
namespace Go.Proofs.YtpbmjfjnmcpieaaGreat
open Go Go.RowKit
/-- bytes as an array's cells -/
def bA (l : List Nat) : Array Value := (l.map fun (n : Nat) => Value.int .u8 (n : Int)).toArray
theorem bA_get (l : List Nat) (k : Nat) (h : k < l.length) : (bA l)[k]? = some (.int .u8 ((l.getD k 0 : Nat) : Int)) := by
 unfold bA; simp [h]
theorem bA_size (l : List Nat) : (bA l).size = l.length := by simp [bA]
theorem bA_set (l : List Nat) (k n : Nat) : (bA l).setIfInBounds k (.int .u8 (n : Int)) = bA (l.set k n) := by
 unfold bA; simp [List.map_set]
end Go.Proofs.YtpbmjfjnmcpieaaGreat
namespace Go.Proofs.YtpbmjfjnmcpieaaGreat
open Go Go.RowKit Go.ChangeShapes Go.WideShapes
end Go.Proofs.YtpbmjfjnmcpieaaGreat
namespace Go.Proofs.YtpbmjfjnmcpieaaGreat
open Go Go.RowKit
/-- the worlds that are as W was below W's size, as the image of a type -/
theorem bclass (W : World) : ∃ (S : Type) (f : S -> World), Nonempty S /\ (∀ s, Below W.heap.size W (f s)) /\ (∀ w, Below W.heap.size W w -> ∃ s, w = f s) :=
 ⟨{ w : World // Below W.heap.size W w }, Subtype.val, ⟨⟨W, Below.refl _ _⟩⟩, fun s => s.2, fun w h => ⟨⟨w, h⟩, rfl⟩⟩
theorem bcall {P : Program} {W : World} {S : Type} {f : S -> World} (h1 : ∀ s, Below W.heap.size W (f s)) (h2 : ∀ w, Below W.heap.size W w -> ∃ s, w = f s) {F : FuncId} {args : Array Value} {v : Value} {s : S}
  (h : Calls P F args (f s) fun e w' => e = .returned v /\ Below (f s).heap.size (f s) w') : Calls P F args (f s) fun e w' => e = .returned v /\ ∃ s', w' = f s' :=
 h.mono fun e w' ⟨he, hb⟩ => ⟨he, h2 w' ((h1 s).trans (hb.mono (h1 s).size))⟩
/-- a whole row loaded, by an operation whose guard says yes -/
theorem load_row_w {P : Program} {ops : Array Oper} {rest : List Oper} {o : Oper} {a : Act} {w : World} {Q : Exit -> Act -> World -> Prop} (hgd : Region.wanted o (yielded ops a.tmps) = true) (ty : TypeId) (x : Operand) (ho : o.op = .load ty x)
  (g : Nat) (hx : a.eval x = .pointer (some ⟨g, 0, none⟩)) (t : TypeId) (cs : Array Value) (fr : Nat × Nat) (d : TypeDesc) (hg : w.heap[g]? = some (.cells cs t fr))
  (hu : P.underlying ty = some d) (hd : (match d with | .struct _ | .array _ _ => true | _ => false) = true) (hi : (P.info? ty).map (·.size) = some cs.size)
  (h : wpList P ops Q rest (a.put o.dst (.agg cs)) w) : wpList P ops Q (o :: rest) a w :=
 wpList_step fun _ hK => by rw [if_pos hgd]; exact wp_load_row ty x ho g hx t cs fr d hg hu hd hi (hK _ _ h)
end Go.Proofs.YtpbmjfjnmcpieaaGreat
namespace Go.Proofs.YtpbmjfjnmcpieaaGreat
open Go Go.RowKit
theorem heap_new' (w : World) (o : Obj) : (w.alloc o).heap[w.heap.size]? = some o := by
 show (w.heap.push _)[_]? = _
 simp
theorem heap_old' (w : World) (o : Obj) (k : Nat) (h : k < w.heap.size) : (w.alloc o).heap[k]? = w.heap[k]? := Below.heap_alloc w o k h
theorem cells_at {w : World} {b : Nat} {A : Array Value} {t : TypeId} {z : Nat × Nat} (h : w.heap[b]? = some (.cells A t z)) (o : Nat) : w.cell? ⟨b, o, none⟩ = A[o]? := by simp [World.cell?, h]
theorem free_at {w : World} {b : Nat} {A : Array Value} {t : TypeId} (h : w.heap[b]? = some (.cells A t (0, 0))) (o : Nat) : w.frozen? ⟨b, o, none⟩ = false := by simp [World.frozen?, h]
theorem block_at {w : World} {b : Nat} {A : Array Value} {t : TypeId} {z : Nat × Nat} (h : w.heap[b]? = some (.cells A t z)) (o : Nat) (v : Value) :
  (w.setCell ⟨b, o, none⟩ v).heap[b]? = some (.cells (A.setIfInBounds o v) t z) := by
 simp [World.setCell, Array.getElem?_modify, h]
def upB (v k : Nat) : Nat := v / 2 ^ (8 * k) % 256
/-- what a loop has put so far -/
def partB (l : List Nat) (k : Nat) : List Nat := l.take k ++ List.replicate (l.length - k) 0
theorem partB_len (l : List Nat) (k : Nat) (h : k <= l.length) : (partB l k).length = l.length := by simp [partB]; omega
theorem partB_zero (l : List Nat) : partB l 0 = List.replicate l.length 0 := by simp [partB]
theorem partB_full (l : List Nat) : partB l l.length = l := by simp [partB]
theorem partB_set (l : List Nat) (k : Nat) (h : k < l.length) : (partB l k).set k (l.getD k 0) = partB l (k + 1) := by
 apply List.ext_getElem
 ·simp [partB]; omega
 ·intro i h1 h2
  simp only [partB, List.getElem_set, List.getElem_append, List.getElem_take, List.getElem_replicate, List.length_take]
  by_cases e : k = i
  ·subst e
   rw [if_pos rfl, dif_pos (by omega)]; simp [h]
  ·rw [if_neg e]
   by_cases h3 : i < k
   ·rw [dif_pos (by omega), dif_pos (by omega)]
   ·rw [dif_neg (by omega), dif_neg (by omega)]
theorem u8info : (Tryz.prog.info? 5).map (fun i => (i.zero, i.size, i.bytes)) = some (some (.int .u8 0), 1, 1) := by kernel_rfl
theorem mk_bytes (n : Nat) (hn : n <= 140737488355328) (w : World) :
  (Instr.makeSlice 47 (.int .i64 (n : Int)) (.int .i64 (n : Int))).run Tryz.prog w = .ok (.slice (some ⟨w.heap.size, 0, none⟩) n n) (w.alloc (.cells (bA (List.replicate n 0)) 5)) := by
 have h := run_make_row' (P := Tryz.prog) 47 5 (.int .u8 0) 1 Tryz.underlying47 u8info rfl .i64 .i64 n (by omega) (by omega) w
 rw [h]
 have e : madeCells #[Value.int .u8 0] n = bA (List.replicate n 0) := by
  apply Array.toList_inj.1
  rw [toList_madeCells_one]; simp [bA]
 rw [e]
/-- n bytes behind an address, if there are any -/
def BytesAt (w : World) (a : Option Addr) (cap : Nat) (l : List Nat) : Prop :=
 (∀ x ∈ l, x < 256) /\ (0 < l.length -> ∃ g o, a = some ⟨g, o, none⟩ /\ l.length <= cap /\ g < w.heap.size /\ ∀ j, j < l.length -> w.cell? ⟨g, o + j, none⟩ = some (.int .u8 ((l.getD j 0 : Nat) : Int)))
theorem BytesAt.up {w w' : World} {a : Option Addr} {cap : Nat} {l : List Nat} (h : BytesAt w a cap l) {B : Nat} (hb : Below B w w') (hB : w.heap.size <= B) : BytesAt w' a cap l := by
 refine ⟨h.1, fun h0 => ?_⟩
 obtain ⟨g, o, h1, h2, h3, h4⟩ := h.2 h0
 exact ⟨g, o, h1, h2, Nat.lt_of_lt_of_le h3 hb.size, fun j hj => (hb.cell (p := ⟨g, o + j, none⟩) (Nat.lt_of_lt_of_le h3 hB)).trans (h4 j hj)⟩
theorem getD_lt {l : List Nat} (h : ∀ x ∈ l, x < 256) (j : Nat) : l.getD j 0 < 256 := by
 rw [List.getD_eq_getElem?_getD]
 rcases Nat.lt_or_ge j l.length with hj | hj
 ·rw [List.getElem?_eq_getElem hj]; exact h _ (List.getElem_mem _)
 ·rw [List.getElem?_eq_none hj]; decide
theorem bytesAt_block {w : World} {q : Nat} {l : List Nat} {z : Nat × Nat} (hb : ∀ x ∈ l, x < 256) (h : w.heap[q]? = some (.cells (bA l) 5 z)) : BytesAt w (some ⟨q, 0, none⟩) l.length l :=
 ⟨hb, fun _ => ⟨q, 0, rfl, Nat.le_refl _, lt_of_block h, fun j hj => by rw [Nat.zero_add, cells_at h j, bA_get l j hj]⟩⟩
/-- bytes as a string's value -/
def strV (l : List Nat) : Value := .string ⟨(l.map UInt8.ofNat).toArray⟩
theorem run_conv {w : World} {a : Option Addr} {cap : Nat} {l : List Nat} (h : BytesAt w a cap l) : (convert 47 9 (.slice a l.length cap)).run Tryz.prog w = .ok (strV l) w := by
 by_cases h0 : l.length = 0
 ·have hl : l = [] := List.length_eq_zero_iff.1 h0
  subst hl
  rw [run_convert_bytes_string w _ _ 5 a _ cap Tryz.underlying47 Tryz.underlying5 Tryz.underlying9]
  cases a with
  | none => simp [Conv.bytesToString, strV]; rfl
  | some p =>
   have := run_bytesToString (P := Tryz.prog) w p 0 cap [] (by simp [loadCells]; rfl)
   simp only [List.length_nil]
   rw [this]; rfl
 ·obtain ⟨g, o, rfl, h2, h3, h4⟩ := h.2 (by omega)
  have := run_convert_bytes_back (P := Tryz.prog) w 47 9 5 ⟨g, o, none⟩ cap (l.map UInt8.ofNat) Tryz.underlying47 Tryz.underlying5 Tryz.underlying9 (fun j hj => by
   have hj' : j < l.length := by simpa using hj
   have e1 : (⟨g, o, none⟩ : Addr).add j = ⟨g, o + j, none⟩ := by
    unfold Addr.add; split
    ·next h => subst h; rfl
    ·rfl
   have hlt := h.1 _ (List.getElem_mem (l := l) (h := hj'))
   rw [e1, h4 j hj', List.getD_eq_getElem?_getD, List.getElem?_eq_getElem hj']
   simp [Nat.mod_eq_of_lt hlt])
  rw [List.length_map] at this
  exact this
theorem run_conv_op {w : World} {a : Option Addr} {cap n : Nat} {l : List Nat} (hl : l.length = n) (h : BytesAt w a cap l) (E : Operand -> Value) (x : Operand) (o : Oper) (ho : o.op = .convert 47 9 x) (hx : E x = .slice a n cap) :
  (execOp E o).run Tryz.prog w = .ok (.value (strV l)) w := by
 subst hl
 unfold execOp
 simp only [ho, hx, Sem.run_bind, run_conv h, Result.andThen_ok]
 rfl
theorem wp_conv {o : Oper} {a : Act} {w : World} {K : Act -> World -> Prop} {Q : Exit -> Act -> World -> Prop} (x : Operand) {s : Option Addr} {cap n : Nat} {l : List Nat} (hl : l.length = n) (h : BytesAt w s cap l) (ho : o.op = .convert 47 9 x)
  (hx : a.eval x = .slice s n cap) (hK : K (a.put o.dst (strV l)) w) : o.wp Tryz.prog a w K Q := by
 unfold Oper.wp
 rw [run_conv_op hl h a.eval x o ho hx]
 exact hK
theorem strV_inj {l m : List Nat} (hl : ∀ x ∈ l, x < 256) (hm : ∀ x ∈ m, x < 256) (h : l.map UInt8.ofNat = m.map UInt8.ofNat) : l = m := by
 have e : ∀ k : List Nat, (∀ x ∈ k, x < 256) -> (k.map UInt8.ofNat).map UInt8.toNat = k := by
  intro k hk
  rw [List.map_map]
  conv => rhs; rw [<- List.map_id k]
  apply List.map_congr_left
  intro x hx
  simp [Nat.mod_eq_of_lt (hk x hx)]
 rw [<- e l hl, <- e m hm, h]
theorem run_eqs (l m : List Nat) (hl : ∀ x ∈ l, x < 256) (hm : ∀ x ∈ m, x < 256) (E : Operand -> Value) (x y : Operand) (t : TypeId) (o : Oper) (ho : o.op = .binOp .eql 9 x y t) (hx : E x = strV l) (hy : E y = strV m) (w : World) :
  (execOp E o).run Tryz.prog w = .ok (.value (.bool (decide (l = m)))) w := by
 have key : (l.map UInt8.ofNat == m.map UInt8.ofNat) = decide (l = m) := by
  by_cases h : l = m
  ·subst h; simp
  ·have hne : l.map UInt8.ofNat ≠ m.map UInt8.ofNat := fun h' => h (strV_inj hl hm h')
   simp [h, hne]
 unfold execOp
 simp only [ho, hx, hy]
 unfold strV
 go_simp
theorem add_plain (g o j : Nat) : (⟨g, o, none⟩ : Addr).add j = ⟨g, o + j, none⟩ := by
 unfold Addr.add; split
 ·next h => subst h; rfl
 ·rfl
/-- append(v, bytes...): the bytes may be none, and nil -/
theorem run_append_bytes {w : World} (ty : TypeId) {base n : Nat} {v : Value} {xs : List Value} (hown : w.ownsRow base 5 1 v n xs) {a : Option Addr} {cap m : Nat} {l : List Nat} (hm : l.length = m) (hB : BytesAt w a cap l) (hnil : a = none -> cap = 0) (h63 : n + m <= 1000000) (hbase : base <= w.heap.size) :
  ∃ v' w', (Builtin.append_ #[47, 47] ty #[v, .slice a m cap]).run Tryz.prog w = .ok v' w' /\ w'.ownsRow base 5 1 v' (n + m) (xs ++ (bA l).toList) /\ w.grownBy w' v.ownBlock := by
 obtain ⟨i0, hi, hz0, hz1, hz2⟩ := info_parts u8info
 cases a with
 | none =>
  have hm0 : m = 0 := by
   rcases Nat.eq_zero_or_pos m with h | h
   ·exact h
   ·obtain ⟨_, _, h1, _⟩ := hB.2 (by omega); cases h1
  have hc := hnil rfl
  subst hm0; subst hc
  have hl : l = [] := List.length_eq_zero_iff.1 hm
  subst hl
  refine ⟨v, w, run_append_owned_none w base 47 ty 5 i0 1 Tryz.underlying47 hi v n xs hown, ?_, World.grownBy.refl w _⟩
  simpa [bA] using hown
 | some ad =>
  have hnews : ∀ j u, (bA l).toList[j]? = some u -> w.cell? (ad.add j) = some u := by
   intro j u hu
   have hj : j < l.length := by
    have := (List.getElem?_eq_some_iff.1 hu).1; simpa [bA] using this
   obtain ⟨g, o, h1, h2, h3, h4⟩ := hB.2 (by omega)
   cases h1
   rw [add_plain, h4 j hj]
   rw [Array.getElem?_toList, bA_get l j hj] at hu
   exact hu
  obtain ⟨v', w', h1, h2, h3, _⟩ := run_append_own_at (P := Tryz.prog) w base 47 ty 5 i0 _ 1 1 Tryz.underlying47 hi hz0 hz1 hz2 rfl (by omega) v n xs hown ad m cap (bA l).toList (by simp [bA, hm]) hnews (by simp [bA, Value.oneCell']) (by unfold maxLen; omega) (by omega) hbase
  exact ⟨v', w', h1, h2, h3⟩
theorem wpList_append_bytes {w : World} {ops : Array Oper} {rest : List Oper} {o : Oper} {A : Act} {Q : Exit -> Act -> World -> Prop} (hgd : o.guard = none) (s x : Operand)
  (ho : o.op = .call { callee := .builtin .append, args := #[s, x], argTypes := #[47, 47] }) {base n : Nat} {v : Value} {xs : List Value} (hs : A.eval s = v) (hown : w.ownsRow base 5 1 v n xs)
  {a : Option Addr} {cap m : Nat} {l : List Nat} (hx : A.eval x = .slice a m cap) (hm : l.length = m) (hB : BytesAt w a cap l) (hnil : a = none -> cap = 0) (h63 : n + m <= 1000000) (hbase : base <= w.heap.size)
  (h : ∀ v' w', w'.ownsRow base 5 1 v' (n + m) (xs ++ (bA l).toList) -> w.grownBy w' v.ownBlock -> wpList Tryz.prog ops Q rest (A.put o.dst v') w') : wpList Tryz.prog ops Q (o :: rest) A w :=
 wpList_plain hgd fun _ hK => by
  obtain ⟨v', w', h1, h2, h3⟩ := run_append_bytes o.type hown hm hB hnil h63 hbase
  unfold Oper.wp execOp
  simp only [ho, resolve, invoke, builtin, Sem.run_bind, Sem.run_pure, Result.andThen_ok, List.map_toArray, List.map_cons, List.map_nil, hs, hx, h1]
  exact hK _ _ (h v' w' h2 h3)
theorem own_none0 {w : World} {base : Nat} (h : base <= w.heap.size) : (w.alloc (Obj.cells #[] 5)).ownsRow base 5 1 (.slice (some ⟨w.heap.size, 0, none⟩) 0 0) 0 [] :=
 ⟨rfl, .inr ⟨_, 0, #[], rfl, h, heap_new' _ _, Nat.le_refl _, Nat.zero_le _, rfl, rfl⟩⟩
theorem wpList_conv {w : World} {ops : Array Oper} {rest : List Oper} {o : Oper} {A : Act} {Q : Exit -> Act -> World -> Prop} (hgd : o.guard = none) (x : Operand) {s : Option Addr} {cap n : Nat} {l : List Nat} (hl : l.length = n) (h : BytesAt w s cap l) (ho : o.op = .convert 47 9 x)
  (hx : A.eval x = .slice s n cap) (hK : wpList Tryz.prog ops Q rest (A.put o.dst (strV l)) w) : wpList Tryz.prog ops Q (o :: rest) A w :=
 wpList_plain hgd fun _ hk => wp_conv x hl h ho hx (hk _ _ hK)
theorem wpList_eqs {w : World} {ops : Array Oper} {rest : List Oper} {o : Oper} {A : Act} {Q : Exit -> Act -> World -> Prop} (hgd : o.guard = none) (x y : Operand) (t : TypeId) (l m : List Nat) (hl : ∀ x ∈ l, x < 256) (hm : ∀ x ∈ m, x < 256) (ho : o.op = .binOp .eql 9 x y t)
  (hx : A.eval x = strV l) (hy : A.eval y = strV m) (hK : wpList Tryz.prog ops Q rest (A.put o.dst (.bool (decide (l = m)))) w) : wpList Tryz.prog ops Q (o :: rest) A w :=
 wpList_plain hgd fun _ hk => by
  unfold Oper.wp
  rw [run_eqs l m hl hm A.eval x y t o ho hx hy w]
  exact hk _ _ hK
theorem own_keep {w w' : World} {base : Nat} {e : TypeId} {size : Nat} {v : Value} {n : Nat} {xs : List Value} (h : w.ownsRow base e size v n xs) (hk : ∀ k, v.ownBlock = some k -> w'.heap[k]? = w.heap[k]?) : w'.ownsRow base e size v n xs := by
 refine ⟨h.1, ?_⟩
 rcases h.2 with h2 | ⟨g, cap, cur, rfl, h3, hg, h4⟩
 ·exact .inl h2
 ·exact .inr ⟨g, cap, cur, rfl, h3, (hk g rfl).trans hg, h4⟩
theorem bytes_keep {w w' : World} {a : Option Addr} {cap : Nat} {l : List Nat} (hB : BytesAt w a cap l) (hk : ∀ g o, a = some ⟨g, o, none⟩ -> g < w.heap.size -> w'.heap[g]? = w.heap[g]?) : BytesAt w' a cap l := by
 refine ⟨hB.1, fun h0 => ?_⟩
 obtain ⟨g, o, h1, h2, h3, h4⟩ := hB.2 h0
 have he := hk g o h1 h3
 refine ⟨g, o, h1, h2, ?_, fun j hj => ?_⟩
 ·have := he.trans (Array.getElem?_eq_getElem h3)
  exact (Array.getElem?_eq_some_iff.1 this).1
 ·rw [<- h4 j hj]; simp [World.cell?, he]
theorem own_mono {w : World} {base base2 : Nat} {e : TypeId} {size : Nat} {v : Value} {n : Nat} {xs : List Value} (h : w.ownsRow base e size v n xs) (hb : base2 <= base) : w.ownsRow base2 e size v n xs := by
 refine ⟨h.1, ?_⟩
 rcases h.2 with h2 | ⟨g, cap, cur, rfl, h3, h4⟩
 ·exact .inl h2
 ·exact .inr ⟨g, cap, cur, rfl, Nat.le_trans hb h3, h4⟩
theorem bA_app (a b : List Nat) : (bA a).toList ++ (bA b).toList = (bA (a ++ b)).toList := by simp [bA]
/-- the bytes of a row -/
theorem own_bytes {w : World} {base : Nat} {v : Value} {n : Nat} {l : List Nat} (hl : ∀ x ∈ l, x < 256) (h : w.ownsRow base 5 1 v n (bA l).toList) : ∃ a cap, v = .slice a n cap /\ BytesAt w a cap l /\ l.length = n /\ n <= cap /\ cap <= maxLen /\ (a = none -> cap = 0) /\ (∀ g o z, a = some ⟨g, o, z⟩ -> base <= g /\ o = 0 /\ z = none /\ v.ownBlock = some g /\ g < w.heap.size) := by
 have hln : l.length = n := by have := h.1; simpa [bA] using this
 rcases h.2 with ⟨rfl, rfl⟩ | ⟨g, cap, cur, rfl, h3, hg, h4, h5, h6, h7⟩
 ·exact ⟨none, 0, rfl, ⟨hl, fun h0 => by omega⟩, hln, Nat.le_refl _, Nat.zero_le _, fun _ => rfl, (fun _ _ _ h => by cases h)⟩
 ·refine ⟨_, cap, rfl, ⟨hl, fun h0 => ⟨g, 0, rfl, by omega, lt_of_block hg, fun j hj => ?_⟩⟩, hln, h4, h5, (fun h => by cases h), fun g' o z h => ?_⟩
  ·rw [Nat.zero_add, cells_at hg j]
   have := congrArg (fun l => l[j]?) h7
   simp only [Nat.mul_one] at *
   rw [List.getElem?_take_of_lt (by omega), Array.getElem?_toList, Array.getElem?_toList, bA_get _ j hj] at *
   assumption
  ·cases h
   exact ⟨h3, rfl, rfl, rfl, lt_of_block hg⟩
theorem own_up {w w' : World} {base : Nat} {e : TypeId} {size : Nat} {v : Value} {n : Nat} {xs : List Value} (h : w.ownsRow base e size v n xs) (hb : Below w.heap.size w w') : w'.ownsRow base e size v n xs :=
 h.kept (row := none) ⟨hb.os, hb.tape, hb.output, hb.size, fun k hk _ => hb.block k hk⟩ (by
  cases h : v.ownBlock with
  | none => exact .inl rfl
  | some k => exact .inr (by simp))
theorem own_slice {w : World} {base : Nat} {v : Value} {n : Nat} {xs : List Value} (h : w.ownsRow base 5 1 v n xs) : ∃ a cap, v = .slice a n cap := by
 rcases h.2 with ⟨rfl, rfl⟩ | ⟨g, cap, cur, rfl, _⟩
 ·exact ⟨none, 0, rfl⟩
 ·exact ⟨_, cap, rfl⟩
theorem bA_one (l : List Nat) : (bA l).all (·.oneCell') = true := by
 rw [<- Array.all_toList]; simp [bA, Value.oneCell']
theorem own_sliceR {w : World} {base : Nat} {v : Value} {n : Nat} {xs : List Value} {e : TypeId} {size : Nat} (h : w.ownsRow base e size v n xs) : ∃ a cap, v = .slice a n cap := by
 rcases h.2 with ⟨rfl, rfl⟩ | ⟨g, cap, cur, rfl, _⟩
 ·exact ⟨none, 0, rfl⟩
 ·exact ⟨_, cap, rfl⟩
theorem wpList_met {P : Program} {ops : Array Oper} {Q : Exit -> Act -> World -> Prop} {a : Act} {w : World} {rest : List Oper} {o : Oper} (hw : Region.wanted o (yielded ops a.tmps) = true)
  (h : ∀ K : Act -> World -> Prop, (∀ a w, wpList P ops Q rest a w -> K a w) -> o.wp P a w K Q) : wpList P ops Q (o :: rest) a w :=
 wpList_step fun K hK => by simp only [hw, if_true]; exact h K hK
theorem wpList_load_mid_g {P : Program} {ops : Array Oper} {rest : List Oper} {op : Oper} {a : Act} {w : World} {Q : Exit -> Act -> World -> Prop} (hw : Region.wanted op (yielded ops a.tmps) = true) (ty : TypeId) (x : Operand) (ho : op.op = .load ty x)
  (b o : Nat) (hx : a.eval x = .pointer (some ⟨b, o, none⟩)) (cs : List Value) (d : TypeDesc) (hc : w.rangeAt b o cs)
  (hu : P.underlying ty = some d) (hd : d.isRow = true) (hi : (P.info? ty).map (·.size) = some cs.length)
  (h : wpList P ops Q rest (a.put op.dst (.agg cs.toArray)) w) : wpList P ops Q (op :: rest) a w :=
 wpList_met hw fun _ hK => wp_load_mid ty x ho b o hx cs d hc hu hd hi (hK _ _ h)
theorem range_row {w : World} {g : Nat} {A : Array Value} {t : TypeId} (h : w.heap[g]? = some (.cells A t (0, 0))) : w.rangeAt g 0 A.toList := by
 intro j u hu
 rw [cells_at h (0 + j), Nat.zero_add, <- hu, Array.getElem?_toList]
theorem own_some {w : World} {base : Nat} {v : Value} {n : Nat} {xs : List Value} {e : TypeId} {size : Nat} (h : w.ownsRow base e size v n xs) (hn : 0 < n) : ∃ g cap, v = .slice (some ⟨g, 0, none⟩) n cap /\ base <= g /\ g < w.heap.size := by
 rcases h.2 with ⟨_, h2⟩ | ⟨g, cap, cur, rfl, h3, h4, _⟩
 ·omega
 ·exact ⟨g, cap, rfl, h3, lt_of_block h4⟩
theorem bytes_takeM {w : World} {a : Option Addr} {cap : Nat} {l : List Nat} (h : BytesAt w a cap l) (m : Nat) : BytesAt w a cap (l.take m) := by
 refine ⟨fun x hx => h.1 x (List.mem_of_mem_take hx), fun h0 => ?_⟩
 have hl : (l.take m).length <= l.length := by rw [List.length_take]; omega
 obtain ⟨g, o, h1, h2, h3, h4⟩ := h.2 (by omega)
 refine ⟨g, o, h1, by omega, h3, fun j hj => ?_⟩
 rw [h4 j (by omega), List.getD_eq_getElem?_getD, List.getD_eq_getElem?_getD, List.getElem?_take_of_lt (by rw [List.length_take] at hj; omega)]
def subO (o cap l : Nat) : Nat := if cap = l then o else o + l
theorem run_sub (g o len cap l h : Nat) (hl : l <= h) (hh : h <= cap) (w : World) :
  (Instr.sliceAt 47 (.slice (some ⟨g, o, none⟩) len cap) (some (.int .i64 (l : Int))) (some (.int .i64 (h : Int))) none).run Tryz.prog w = .ok (.slice (some ⟨g, subO o cap l, none⟩) (h - l) (cap - l)) w := by
 obtain ⟨i0, hi, hz0, hz1, hz2⟩ := info_parts u8info
 have he : Tryz.prog.elem 47 = 5 := by kernel_rfl
 have hu : Tryz.prog.underlying 47 = some (.slice (Tryz.prog.elem 47)) := by rw [he]; exact Tryz.underlying47
 rw [run_sliceAt_slice (h := hu), run_slice_lh (ht := hu) (h0 := by omega) (h1 := by omega) (h2 := by omega)]
 rw [he, run_sizeOf (w := w) hi, show Tryz.prog.cellsOf 5 = 1 from (by kernel_rfl)]
 simp only [Result.andThen_ok, sliced, Int.toNat_natCast, Nat.mul_one]
 unfold subO
 split
 ·rfl
 ·simp only [Option.map_some]; rw [add_plain]
theorem run_sub_op {g o len cap l h : Nat} (hl : l <= h) (hh : h <= cap) (E : Operand -> Value) (x y z : Operand) (op : Oper) (ho : op.op = .slice 47 x (some y) (some z) none) (hx : E x = .slice (some ⟨g, o, none⟩) len cap) (hy : E y = .int .i64 (l : Int)) (hz : E z = .int .i64 (h : Int)) (w : World) :
  (execOp E op).run Tryz.prog w = .ok (.value (.slice (some ⟨g, subO o cap l, none⟩) (h - l) (cap - l))) w := by
 unfold execOp
 simp only [ho, Option.map_some, Option.map_none, hx, hy, hz, Sem.run_bind, run_sub g o len cap l h hl hh w, Result.andThen_ok]
 rfl
theorem wpList_sub {w : World} {ops : Array Oper} {rest : List Oper} {op : Oper} {A : Act} {Q : Exit -> Act -> World -> Prop} (hgd : op.guard = none) {g o len cap l h : Nat} (x y z : Operand) (ho : op.op = .slice 47 x (some y) (some z) none) (hx : A.eval x = .slice (some ⟨g, o, none⟩) len cap) (hy : A.eval y = .int .i64 (l : Int)) (hz : A.eval z = .int .i64 (h : Int))
  (hl : l <= h) (hh : h <= cap) (hK : wpList Tryz.prog ops Q rest (A.put op.dst (.slice (some ⟨g, subO o cap l, none⟩) (h - l) (cap - l))) w) : wpList Tryz.prog ops Q (op :: rest) A w :=
 wpList_plain hgd fun _ hk => by
  unfold Oper.wp
  rw [run_sub_op hl hh A.eval x y z op ho hx hy hz w]
  exact hk _ _ hK
theorem BytesAt.sub {w : World} {g o cap : Nat} {l : List Nat} (h : BytesAt w (some ⟨g, o, none⟩) cap l) {lo hi : Nat} (hl : lo <= hi) (hh : hi <= l.length) : BytesAt w (some ⟨g, subO o cap lo, none⟩) (cap - lo) ((l.drop lo).take (hi - lo)) := by
 have hn : ((l.drop lo).take (hi - lo)).length = hi - lo := by rw [List.length_take, List.length_drop]; omega
 refine ⟨fun x hx => h.1 x (List.mem_of_mem_drop (List.mem_of_mem_take hx)), fun h0 => ?_⟩
 rw [hn] at h0
 obtain ⟨g', o', e1, h2, h3, h4⟩ := h.2 (by omega)
 cases e1
 have hs : subO o cap lo = o + lo := by unfold subO; rw [if_neg (by omega)]
 refine ⟨g, o + lo, by rw [hs], by rw [hn]; omega, h3, fun j hj => ?_⟩
 rw [hn] at hj
 rw [Nat.add_assoc, h4 (lo + j) (by omega), List.getD_eq_getElem?_getD, List.getD_eq_getElem?_getD, List.getElem?_take_of_lt hj, List.getElem?_drop]
theorem results_row_tmp {P : Program} {fn : Func} {p u : Tmp} {ty : TypeId} (h : fn.results = #[.cell p ty, .tmp u]) (tmps : Array Value) (w : World) (g : Nat) (t : TypeId) (cs : Array Value) (fr : Nat × Nat) (d : TypeDesc)
  (hp : tmps.getD p undef = .pointer (some ⟨g, 0, none⟩)) (hg : w.heap[g]? = some (.cells cs t fr))
  (hu : P.underlying ty = some d) (hd : (match d with | .struct _ | .array _ _ => true | _ => false) = true) (hi : (P.info? ty).map (·.size) = some cs.size) :
  (results fn tmps).run P w = .ok (.tuple #[.agg cs, tmps.getD u undef]) w := by
 have hp' : tmps[p]?.getD undef = .pointer (some ⟨g, 0, none⟩) := by simpa using hp
 simp [results, h, hp', asAddr, run_loadVar_row w g t ty cs fr d hg hu hd hi]
end Go.Proofs.YtpbmjfjnmcpieaaGreat
namespace Go.Proofs.YtpbmjfjnmcpieaaGreat
open Go Go.RowKit
/-- what a page is -/
structure Pg where
 kind : Nat
 cls : Nat
 run : Nat
 size : Nat
 ser : Nat
def freeP (p : Pg) : Bool := p.kind == 0 && p.cls == 0 && p.run == 0 && p.size == 0 && p.ser == 0
def tailP (p : Pg) : Bool := p.kind == 3 && p.cls == 0 && p.run == 0 && p.size == 0 && p.ser == 0
def slotsP (p : Pg) : Bool := p.kind == 1 && p.run == 0 && p.size == 0 && p.ser == 0 && decide (p.cls < 8)
def pagesOf (n : Nat) : Nat := (n + 255) / 256
def headP (p : Pg) : Bool := p.kind == 2 && p.cls == 0 && decide (120 < p.size) && decide (p.size <= 4096) && p.run == pagesOf p.size && decide (0 < p.ser) && decide (p.ser < 281474976710656)
def oneP (p : Pg) : Bool := freeP p || slotsP p || headP p || tailP p
theorem oneP_kind {p : Pg} (h : oneP p = true) : (p.kind = 0 /\ freeP p = true) \/ (p.kind = 1 /\ slotsP p = true) \/ (p.kind = 2 /\ headP p = true) \/ (p.kind = 3 /\ tailP p = true) := by
 unfold oneP at h
 simp only [Bool.or_eq_true] at h
 rcases h with ((h | h) | h) | h
 ·exact Or.inl ⟨by unfold freeP at h; simp only [Bool.and_eq_true, beq_iff_eq] at h; exact h.1.1.1.1, h⟩
 ·exact Or.inr (Or.inl ⟨by unfold slotsP at h; simp only [Bool.and_eq_true, beq_iff_eq] at h; exact h.1.1.1.1, h⟩)
 ·exact Or.inr (Or.inr (Or.inl ⟨by unfold headP at h; simp only [Bool.and_eq_true, beq_iff_eq] at h; exact h.1.1.1.1.1.1, h⟩))
 ·exact Or.inr (Or.inr (Or.inr ⟨by unfold tailP at h; simp only [Bool.and_eq_true, beq_iff_eq] at h; exact h.1.1.1.1, h⟩))
theorem tailP_iff {p : Pg} (h : oneP p = true) : tailP p = (p.kind == 3) := by
 rcases oneP_kind h with ⟨k, _⟩ | ⟨k, _⟩ | ⟨k, _⟩ | ⟨k, t⟩
 ·unfold tailP; rw [k]; rfl
 ·unfold tailP; rw [k]; rfl
 ·unfold tailP; rw [k]; rfl
 ·rw [t, k]; rfl
theorem run_pos {p : Pg} (h : oneP p = true) (k : p.kind = 2) : 1 <= p.run := by
 rcases oneP_kind h with ⟨k', _⟩ | ⟨k', _⟩ | ⟨_, h2⟩ | ⟨k', _⟩
 ·omega
 ·omega
 ·unfold headP pagesOf at h2
  simp only [Bool.and_eq_true, beq_iff_eq, decide_eq_true_eq] at h2
  omega
 ·omega
/-- the program's: Tails that must come -/
def goP : Nat -> List Pg -> Bool
 | w, [] => w == 0
 | w, p :: l => if decide (0 < w) != tailP p then false else if 0 < w then goP (w - 1) l else if p.kind = 2 then goP (p.run - 1) l else goP 0 l
/-- the reference's: by runs -/
def refP : Nat -> List Pg -> Bool
 | 0, _ => true
 | _ + 1, [] => true
 | f + 1, p :: l =>
  if !oneP p || p.kind == 3 then false else
  let n := if p.kind = 2 then p.run else 1
  if n > l.length + 1 then false else
  if ((l.take (n - 1)).all fun q => oneP q && q.kind == 3) then refP f (l.drop (n - 1)) else false
theorem go_tails : ∀ (w : Nat) (l : List Pg), l.all oneP = true -> goP w l = (decide (w <= l.length) && ((l.take w).all fun q => oneP q && q.kind == 3) && goP 0 (l.drop w)) := by
 intro w
 induction w with
 | zero => intro l _; simp
 | succ w ih =>
  intro l hl
  cases l with
  | nil => simp [goP]
  | cons p l =>
   rw [List.all_cons, Bool.and_eq_true] at hl
   rw [goP, tailP_iff hl.1]
   cases hk : (p.kind == 3) with
   | false => simp [hk]
   | true =>
    simp only [List.take_succ_cons, List.all_cons, List.drop_succ_cons, List.length_cons]
    have e0 : decide (0 < w + 1) = true := by simp
    have e1 : decide (w + 1 <= l.length + 1) = decide (w <= l.length) := by simp
    rw [e0, e1, hl.1, hk, if_neg (by simp), if_pos (by omega), Nat.add_sub_cancel, ih l hl.2]
    simp
theorem ref_go : ∀ (f : Nat) (l : List Pg), l.length <= f -> refP f l = (l.all oneP && goP 0 l) := by
 intro f
 induction f with
 | zero => intro l h; have : l = [] := List.length_eq_zero_iff.1 (by omega); subst this; rfl
 | succ f ih =>
  intro l h
  cases l with
  | nil => rfl
  | cons p l =>
   rw [List.length_cons] at h
   rw [refP, List.all_cons, goP]
   cases ho : oneP p with
   | false => simp
   | true =>
    rw [tailP_iff ho]
    cases h3 : (p.kind == 3) with
    | true => simp
    | false =>
     simp only [Bool.not_true, Bool.false_or, Bool.true_and, Nat.lt_irrefl, decide_false, bne_self_eq_false, Bool.false_eq_true, if_false]
     by_cases h2 : p.kind = 2
     ·have hr := run_pos ho h2
      simp only [if_pos h2]
      by_cases hn : p.run > l.length + 1
      ·rw [if_pos hn]
       cases ha : l.all oneP with
       | false => rfl
       | true =>
        rw [go_tails _ l ha]
        have : decide (p.run - 1 <= l.length) = false := by simp; omega
        rw [this]; rfl
      ·rw [if_neg hn]
       have hd : decide (p.run - 1 <= l.length) = true := by simp; omega
       have hs : l.all oneP = ((l.take (p.run - 1)).all oneP && (l.drop (p.run - 1)).all oneP) := by rw [<- List.all_append, List.take_append_drop]
       cases ht : ((l.take (p.run - 1)).all fun q => oneP q && q.kind == 3) with
       | false =>
        simp only [Bool.false_eq_true, if_false]
        cases ha : l.all oneP with
        | false => rfl
        | true => rw [go_tails _ l ha, ht]; simp
       | true =>
        simp only [if_true]
        rw [ih _ (by rw [List.length_drop]; omega)]
        have h1 : (l.take (p.run - 1)).all oneP = true := by
         rw [List.all_eq_true] at ht ⊢
         intro q hq
         have := ht q hq
         rw [Bool.and_eq_true] at this
         exact this.1
        cases ha : l.all oneP with
        | false => rw [hs, h1, Bool.true_and] at ha; rw [ha]; rfl
        | true => rw [go_tails _ l ha, ht, hd]; rw [hs, h1, Bool.true_and] at ha; rw [ha]; rfl
     ·simp only [if_neg h2, Nat.sub_self, List.take_zero, List.all_nil, if_true, List.drop_zero]
      have : ¬ (1 > l.length + 1) := by omega
      rw [if_neg this, ih _ (by omega)]
end Go.Proofs.YtpbmjfjnmcpieaaGreat
namespace Go.Proofs.YtpbmjfjnmcpieaaGreat
open Go Go.RowKit
def leN : List Nat -> Nat
 | [] => 0
 | c :: l => c + 256 * leN l
def lowL : Nat -> Nat -> List Nat
 | 0, _ => []
 | n + 1, v => v % 256 :: lowL n (v / 256)
def zeroB (l : List Nat) : Bool := l.all fun c => c == 0
def padB (l : List Nat) (z : Nat) : List Nat := l.take z ++ List.replicate (z - l.length) 0
theorem zeroB_app (l m : List Nat) : zeroB (l ++ m) = (zeroB l && zeroB m) := by unfold zeroB; rw [List.all_append]
theorem zeroB_rep (l : List Nat) : zeroB l = true ↔ l = List.replicate l.length 0 := by
 unfold zeroB
 rw [List.all_eq_true]
 constructor
 ·intro h
  exact List.eq_replicate_iff.2 ⟨rfl, fun x hx => by simpa using h x hx⟩
 ·intro h x hx
  have := (List.eq_replicate_iff.1 h).2 x hx
  simp [this]
theorem leN_zero (l : List Nat) : leN l = 0 ↔ zeroB l = true := by
 unfold zeroB
 induction l with
 | nil => simp [leN]
 | cons c l ih =>
  rw [leN, List.all_cons, Bool.and_eq_true, <- ih, beq_iff_eq]
  omega
theorem low_le (l : List Nat) (h : ∀ x ∈ l, x < 256) : lowL l.length (leN l) = l := by
 induction l with
 | nil => rfl
 | cons c l ih =>
  have hc := h c List.mem_cons_self
  have e1 : (c + 256 * leN l) % 256 = c := by omega
  have e2 : (c + 256 * leN l) / 256 = leN l := by omega
  rw [List.length_cons, leN, lowL, e1, e2, ih (fun x hx => h x (List.mem_cons_of_mem _ hx))]
theorem pad_take (w : List Nat) (k : Nat) (hk : k <= w.length) : padB (w.take k) w.length = w ↔ zeroB (w.drop k) = true := by
 have e : padB (w.take k) w.length = w.take k ++ List.replicate (w.length - k) 0 := by
  unfold padB
  rw [List.length_take, Nat.min_eq_left hk, List.take_of_length_le (by rw [List.length_take]; omega)]
 rw [e, zeroB_rep, List.length_drop]
 constructor
 ·intro h
  have h2 : w.take k ++ List.replicate (w.length - k) 0 = w.take k ++ w.drop k := by rw [h, List.take_append_drop]
  exact (List.append_cancel_left h2).symm
 ·intro h
  rw [<- h, List.take_append_drop]
def sizeW (w : List Nat) : Nat := leN (w.take 2)
def serW (w : List Nat) : Nat := leN ((w.drop 2).take 6)
/-- the program's -/
def okW (w : List Nat) : Bool := if zeroB (w.take 8) then zeroB w else decide (0 < sizeW w) && decide (sizeW w <= w.length - 8) && decide (0 < serW w) && zeroB (w.drop (8 + sizeW w))
/-- the reference's: a slot written again -/
def encW (n s : Nat) (b : List Nat) (z : Nat) : List Nat := padB (if 0 < s then lowL 2 n ++ lowL 6 s ++ b else []) z
def agW (w : List Nat) : Bool := decide (sizeW w <= w.length - 8) && (sizeW w == 0) == (serW w == 0) && decide (encW (sizeW w) (serW w) ((w.drop 8).take (sizeW w)) w.length = w)
theorem take_eight (w : List Nat) : w.take 8 = w.take 2 ++ (w.drop 2).take 6 := by
 rw [show 8 = 2 + 6 from rfl, List.take_add]
theorem ok_ag (w : List Nat) (h8 : 8 <= w.length) (hb : ∀ x ∈ w, x < 256) : agW w = okW w := by
 have hz : zeroB (w.take 8) = (zeroB (w.take 2) && zeroB ((w.drop 2).take 6)) := by rw [take_eight, zeroB_app]
 have z1 := leN_zero (w.take 2)
 have z2 := leN_zero ((w.drop 2).take 6)
 change sizeW w = 0 ↔ _ at z1
 change serW w = 0 ↔ _ at z2
 have l2 : lowL 2 (sizeW w) = w.take 2 := by
  have := low_le (w.take 2) (fun x hx => hb x (List.mem_of_mem_take hx))
  rwa [List.length_take, Nat.min_eq_left (by omega)] at this
 have l6 : lowL 6 (serW w) = (w.drop 2).take 6 := by
  have := low_le ((w.drop 2).take 6) (fun x hx => hb x (List.mem_of_mem_drop (List.mem_of_mem_take hx)))
  rwa [List.length_take, List.length_drop, Nat.min_eq_left (by omega)] at this
 unfold agW okW
 rw [hz]
 by_cases hs : serW w = 0
 ·have hs2 := z2.1 hs
  have e : encW (sizeW w) (serW w) ((w.drop 8).take (sizeW w)) w.length = padB (w.take 0) w.length := by
   unfold encW; rw [if_neg (by omega)]; rfl
  have hp : decide (encW (sizeW w) (serW w) ((w.drop 8).take (sizeW w)) w.length = w) = zeroB w := by
   rw [e]
   have := pad_take w 0 (by omega)
   rw [List.drop_zero] at this
   rw [Bool.eq_iff_iff, decide_eq_true_eq]
   exact this
  rw [hp, hs2, Bool.and_true]
  by_cases hn : sizeW w = 0
  ·rw [z1.1 hn, hn, hs]; simp
  ·have : zeroB (w.take 2) = false := by cases h : zeroB (w.take 2) with | false => rfl | true => exact absurd (z1.2 h) hn
   rw [this, hs]
   simp [hn]
 ·have hs2 : zeroB ((w.drop 2).take 6) = false := by cases h : zeroB ((w.drop 2).take 6) with | false => rfl | true => exact absurd (z2.2 h) hs
  rw [hs2, Bool.and_false, if_neg (by simp)]
  by_cases hn : sizeW w <= w.length - 8
  ·have e : encW (sizeW w) (serW w) ((w.drop 8).take (sizeW w)) w.length = padB (w.take (8 + sizeW w)) w.length := by
    unfold encW
    rw [if_pos (by omega), l2, l6, <- take_eight, List.take_add]
   have hp : decide (encW (sizeW w) (serW w) ((w.drop 8).take (sizeW w)) w.length = w) = zeroB (w.drop (8 + sizeW w)) := by
    rw [e]
    have := pad_take w (8 + sizeW w) (by omega)
    rw [Bool.eq_iff_iff, decide_eq_true_eq]
    exact this
   rw [hp]
   have c1 : (serW w == 0) = false := by simpa using hs
   have c2 : decide (0 < serW w) = true := by simp; omega
   have c3 : decide (sizeW w <= w.length - 8) = true := by simpa using hn
   rw [c1, c2, c3]
   by_cases h0 : sizeW w = 0
   ·rw [h0]; simp
   ·have c4 : (sizeW w == 0) = false := by simpa using h0
    have c5 : decide (0 < sizeW w) = true := by simp; omega
    rw [c4, c5]; simp
  ·have c3 : decide (sizeW w <= w.length - 8) = false := by simpa using hn
   rw [c3]; simp
end Go.Proofs.YtpbmjfjnmcpieaaGreat
namespace Go.Proofs.YtpbmjfjnmcpieaaGreat
open Go Go.RowKit Go.Lib
theorem zeroB_snoc (l : List Nat) (i : Nat) (h : i < l.length) : zeroB (l.take (i + 1)) = (zeroB (l.take i) && (l.getD i 0 == 0)) := by
 rw [List.take_succ_eq_append_getElem h, zeroB_app, List.getD_eq_getElem?_getD, List.getElem?_eq_getElem h]
 simp [zeroB]
theorem zero_c (va : Option Addr) (n vc : Nat) (l : List Nat) (hl : l.length = n) (hn : n <= 1000000) (w : World) (h : BytesAt w va vc l) :
  Calls Tryz.prog 46 #[.slice va n vc] w fun e w' => e = .returned (.bool (zeroB l)) /\ w = w' := by
 have HL := Lib.hid hl
 have HB := Lib.hid h
 have HN := Lib.hid hn
 clear hl h hn
 go_enter Tryz.func46, Tryz.ntmps46
 go_wp2
 go_loop [3, 8] (fun vm vi => ∃ i m : Nat, i <= n /\ vi = .int .i64 (i : Int) /\ vm = .int .u8 (m : Int) /\ Hid (m < 256 /\ (m == 0) = zeroB (l.take i))) (fun _ vi => n - (RowKit.intOf vi).toNat)
 case atStart => exact ⟨0, 0, Nat.zero_le _, rfl, rfl, by decide, rfl⟩
 case round =>
  obtain ⟨i, m, hi, rfl, rfl, hm⟩ := hrel
  by_cases hlt : i < n
  ·have hd : decide ((i : Int) < (n : Int)) = true := by simp; omega
   have dl : (i : Int) < (n : Int) := by omega
   have dk0 : ¬ (i : Int) < 0 := by omega
   obtain ⟨g, o, hva, hcap, hg, hc⟩ := HB.out.2 (by have := HL.out; omega)
   subst hva
   obtain ⟨c, hcc⟩ : ∃ c, c = l.getD i 0 := ⟨_, rfl⟩
   have c1 := hc i (by have := HL.out; omega)
   rw [<- hcc] at c1
   have c256 : c < 256 := by rw [hcc]; exact getD_lt HB.out.1 i
   have eo := u8_or_nat m c hm.out.1 c256
   have ek : IntKind.i64.wrap ((i : Int) + 1) = (i : Int) + 1 := by have := HN.out; exact IntWalk.i64_in _ (by omega)
   have HZ : Hid ((m ||| c) < 256 /\ ((m ||| c) == 0) = zeroB (l.take (i + 1))) := by
    refine ⟨Nat.or_lt_two_pow (n := 8) hm.out.1 c256, ?_⟩
    rw [zeroB_snoc l i (by have := HL.out; omega), <- hm.out.2, <- hcc, Bool.eq_iff_iff]
    simp
   have HI := Lib.hid hlt
   clear hc hcc c256 hcap hg hm hlt hi
   go_wp2
   go_round
   case rel => exact ⟨i + 1, m ||| c, by have := HI.out; omega, by go_num, rfl, HZ.out⟩
   case measure => simp [RowKit.intOf]; have := HI.out; omega
  ·have hd : decide ((i : Int) < (n : Int)) = false := by simp; omega
   have dl : ¬ (i : Int) < (n : Int) := by omega
   have hz := hm.out.2
   rw [List.take_of_length_le (by have := HL.out; omega)] at hz
   have ez : ((m : Int) == 0) = zeroB l := by rw [<- hz, Bool.eq_iff_iff]; simp
   have HE := Lib.hid ez
   clear hz ez hm
   go_wp2
   go_ret
   exact ⟨by rw [<- HE.out]; rfl, rfl⟩
theorem leN_snoc (l : List Nat) (i : Nat) (h : i < l.length) : leN (l.take (i + 1)) = leN (l.take i) + l.getD i 0 * 2 ^ (8 * i) := by
 induction i generalizing l with
 | zero =>
  cases l with
  | nil => simp at h
  | cons c l => simp [leN]
 | succ i ih =>
  cases l with
  | nil => simp at h
  | cons c l =>
   have h2 : i < l.length := by simpa using h
   rw [List.take_succ_cons, List.take_succ_cons, leN, leN, ih l h2, List.getD_cons_succ, Nat.mul_add, show 8 * (i + 1) = 8 + 8 * i by omega, Nat.pow_add]
   rw [show 256 * (l.getD i 0 * 2 ^ (8 * i)) = l.getD i 0 * (2 ^ 8 * 2 ^ (8 * i)) by rw [show (2 : Nat) ^ 8 = 256 from rfl, <- Nat.mul_assoc, <- Nat.mul_assoc, Nat.mul_comm 256]]
   omega
theorem leN_lt (l : List Nat) (h : ∀ x ∈ l, x < 256) : leN l < 2 ^ (8 * l.length) := by
 induction l with
 | nil => simp [leN]
 | cons c l ih =>
  have h1 := h c List.mem_cons_self
  have h2 := ih (fun x hx => h x (List.mem_cons_of_mem _ hx))
  rw [leN, List.length_cons, show 8 * (l.length + 1) = 8 + 8 * l.length by omega, Nat.pow_add, show (2 : Nat) ^ 8 = 256 from rfl]
  omega
theorem or_add (x c k : Nat) (h : x < 2 ^ k) : x ||| c * 2 ^ k = x + c * 2 ^ k := by
 rw [Nat.or_comm, Nat.mul_comm, <- Nat.two_pow_add_eq_or_of_lt h c, Nat.add_comm]
theorem get_c (va : Option Addr) (n vc : Nat) (l : List Nat) (hl : l.length = n) (hn : n <= 8) (w : World) (h : BytesAt w va vc l) :
  Calls Tryz.prog 86 #[.slice va n vc] w fun e w' => e = .returned (.int .u64 (leN l : Int)) /\ w = w' := by
 have HL := Lib.hid hl
 have HB := Lib.hid h
 have HN := Lib.hid hn
 clear hl h hn
 go_enter Tryz.func86, Tryz.ntmps86
 go_wp2
 go_loop [3, 8] (fun vm vi => ∃ i m : Nat, i <= n /\ vi = .int .i64 (i : Int) /\ vm = .int .u64 (m : Int) /\ Hid (m = leN (l.take i))) (fun _ vi => n - (RowKit.intOf vi).toNat)
 case atStart => exact ⟨0, 0, Nat.zero_le _, rfl, rfl, rfl⟩
 case round =>
  obtain ⟨i, m, hi, rfl, rfl, hm⟩ := hrel
  by_cases hlt : i < n
  ·have hd : decide ((i : Int) < (n : Int)) = true := by simp; omega
   have dl : (i : Int) < (n : Int) := by omega
   have dk0 : ¬ (i : Int) < 0 := by omega
   have i8 : ((i : Int) == 8) = false := by rw [beq_eq_false_iff_ne]; have := HN.out; omega
   have n8 : ¬ (i : Int) = 8 := by have := HN.out; omega
   obtain ⟨g, o, hva, hcap, hg, hc⟩ := HB.out.2 (by have := HL.out; omega)
   subst hva
   obtain ⟨c, hcc⟩ : ∃ c, c = l.getD i 0 := ⟨_, rfl⟩
   have c1 := hc i (by have := HL.out; omega)
   rw [<- hcc] at c1
   have c256 : c < 256 := by rw [hcc]; exact getD_lt HB.out.1 i
   have hml : m < 2 ^ (8 * i) := by
    have := leN_lt (l.take i) (fun x hx => HB.out.1 x (List.mem_of_mem_take hx))
    rw [List.length_take, Nat.min_eq_left (by have := HL.out; omega), <- hm.out] at this
    exact this
   have hsn := leN_snoc l i (by have := HL.out; omega)
   rw [<- hm.out, <- hcc] at hsn
   have hp : 2 ^ (8 * i) <= 2 ^ 56 := Nat.pow_le_pow_right (by decide) (by have := HN.out; omega)
   have hbig : c * 2 ^ (8 * i) < 18446744073709551616 := by
    have h1 : c * 2 ^ (8 * i) <= 255 * 2 ^ 56 := Nat.mul_le_mul (by omega) hp
    omega
   obtain ⟨q, hq⟩ : ∃ q, q = c * 2 ^ (8 * i) := ⟨_, rfl⟩
   have eo : bits BinOp.or IntKind.u64 (m : Int) (q : Int) = ((m + q : Nat) : Int) := by
    rw [u64_or_nat m q (by omega) (by omega), hq, or_add m c (8 * i) hml]
   have e8 : IntKind.i64.wrap (8 * (i : Int)) = 8 * (i : Int) := by have := HN.out; exact IntWalk.i64_in _ (by omega)
   have ec : IntKind.u64.wrap (c : Int) = (c : Int) := by rw [IntKind.wrap_u64]; omega
   have ek : IntKind.i64.wrap ((i : Int) + 1) = (i : Int) + 1 := by have := HN.out; exact IntWalk.i64_in _ (by omega)
   have e9 : ¬ 8 * (i : Int) < 0 := by omega
   have e10 : 8 * (i : Int) < 64 := by have := HN.out; omega
   have e11 : (8 * (i : Int)).toNat = 8 * i := by omega
   have e12 : ¬ 64 <= 8 * (i : Int) := by omega
   have e13 : IntKind.u64.wrap ((c : Int) * 2 ^ (8 * i)) = (q : Int) := by
    rw [show ((c : Int) * 2 ^ (8 * i)) = ((c * 2 ^ (8 * i) : Nat) : Int) by simp, <- hq, IntKind.wrap_u64]; omega
   have HZ : Hid (m + q = leN (l.take (i + 1))) := by show _ = _; rw [hsn, hq]
   have HI := Lib.hid hlt
   clear hc hcc c256 hcap hg hm hlt hi hml hsn hp hbig hq
   go_wp2
   go_round
   case rel => exact ⟨i + 1, m + q, by have := HI.out; omega, by go_num, rfl, HZ.out⟩
   case measure => simp [RowKit.intOf]; have := HI.out; omega
  ·have hd : decide ((i : Int) < (n : Int)) = false := by simp; omega
   have dl : ¬ (i : Int) < (n : Int) := by omega
   have hz := hm.out
   rw [List.take_of_length_le (by have := HL.out; omega)] at hz
   have HE := Lib.hid hz
   clear hz hm
   go_wp2
   go_ret
   exact ⟨by rw [<- HE.out]; rfl, rfl⟩
end Go.Proofs.YtpbmjfjnmcpieaaGreat
namespace Go.Proofs.YtpbmjfjnmcpieaaGreat
open Go Go.RowKit Go.Lib
def szT : List Nat := [8, 16, 24, 32, 48, 64, 96, 120]
def sz (c : Nat) : Nat := szT.getD c 0
theorem sz_le_all : ∀ c, c < 8 -> 8 <= sz c /\ sz c <= 120 := by decide +kernel
theorem sz_big (c : Nat) (h : 8 <= c) : sz c = 0 := by
 unfold sz
 rw [List.getD_eq_getElem?_getD, List.getElem?_eq_none (by simpa [szT] using h)]; rfl
theorem sz_zero (c : Nat) : sz c = 0 ↔ 8 <= c := ⟨fun h => by
 rcases Nat.lt_or_ge c 8 with h' | h'
 ·have := sz_le_all c h'; omega
 ·exact h', sz_big c⟩
def slotsN (c : Nat) : Nat := if sz c = 0 then 0 else 256 / (sz c + 8)
def szA : Array Value := #[.int .i64 8, .int .i64 16, .int .i64 24, .int .i64 32, .int .i64 48, .int .i64 64, .int .i64 96, .int .i64 120]
theorem idx_sz (c : Nat) (h : c < 8) (w : World) : (Instr.index 150 (.agg szA) (.int .i64 (c : Int))).run Tryz.prog w = .ok (.int .i64 (sz c : Int)) w := by
 have hc : c = 0 \/ c = 1 \/ c = 2 \/ c = 3 \/ c = 4 \/ c = 5 \/ c = 6 \/ c = 7 := by omega
 rcases hc with rfl | rfl | rfl | rfl | rfl | rfl | rfl | rfl
 all_goals (show _ = _; kernel_rfl)
theorem size_c (c : Nat) (w : World) :
  Calls Tryz.prog 73 #[.int .i64 (c : Int)] w fun e w' => e = .returned (.int .i64 (sz c : Int)) /\ w = w' := by
 go_enter Tryz.func73, Tryz.ntmps73
 go_wp2
 go_loop [6] (fun vi => ∃ k : Nat, k <= c /\ k <= 8 /\ vi = .int .i64 k) (fun vi => 8 - (RowKit.intOf vi).toNat)
 case atStart => exact ⟨0, by omega, by omega, rfl⟩
 case round =>
  obtain ⟨k, hk, h8, rfl⟩ := hrel
  by_cases hlt : k < 8
  ·have dk : decide ((k : Int) < 8) = true := by simp; omega
   have ik : (k : Int) < 8 := by omega
   have hi : ∀ w, (Instr.index 150 (.agg #[.int .i64 8, .int .i64 16, .int .i64 24, .int .i64 32, .int .i64 48, .int .i64 64, .int .i64 96, .int .i64 120]) (.int .i64 (k : Int))).run Tryz.prog w = .ok (.int .i64 (sz k : Int)) w := fun w => idx_sz k hlt w
   by_cases he : k = c
   ·subst he
    have hT : ((k : Int) == (k : Int)) = true := beq_self_eq_true _
    go_wp2
    go_ret
    exact ⟨rfl, rfl⟩
   ·have hT : ((k : Int) == (c : Int)) = false := by rw [beq_eq_false_iff_ne]; omega
    have HK : Hid (k < 8 /\ k < c) := ⟨hlt, by omega⟩
    clear hlt he hk h8
    go_wp2
    go_round
    case rel => exact ⟨k + 1, by have := HK.out; omega, by have := HK.out; omega, by go_num⟩
    case measure => simp [RowKit.intOf]; have := HK.out; omega
  ·have dk : decide ((k : Int) < 8) = false := by simp; omega
   have ik : ¬ (k : Int) < 8 := by omega
   have HZ : Hid (sz c = 0) := sz_big c (by omega)
   clear hlt
   go_wp2
   go_ret
   exact ⟨by rw [HZ.out]; rfl, rfl⟩
theorem slots_all : ∀ c, c < 8 -> slotsN c * (sz c + 8) <= 256 /\ 2 <= slotsN c /\ slotsN c <= 16 := by decide +kernel
theorem slots_c (c : Nat) (w : World) :
  Calls Tryz.prog 47 #[.int .i64 (c : Int)] w fun e w' => e = .returned (.int .i64 (slotsN c : Int)) /\ w = w' := by
 by_cases hc : c < 8
 ·have HS := Lib.hid (fun w => size_c c w)
  obtain ⟨z, s, hzs, hsz, hsn⟩ : ∃ z s : Nat, (z, s) ∈ [(8, 16), (16, 10), (24, 8), (32, 6), (48, 4), (64, 3), (96, 2), (120, 2)] /\ sz c = z /\ slotsN c = s := by
   have h9 : c = 0 \/ c = 1 \/ c = 2 \/ c = 3 \/ c = 4 \/ c = 5 \/ c = 6 \/ c = 7 := by omega
   rcases h9 with rfl | rfl | rfl | rfl | rfl | rfl | rfl | rfl <;> exact ⟨_, _, by decide +kernel, rfl, rfl⟩
  rw [hsz] at HS
  have HR : Hid (slotsN c = s) := hsn
  clear hsn hsz hc
  simp only [List.mem_cons, Prod.mk.injEq, List.not_mem_nil, or_false] at hzs
  rcases hzs with ⟨rfl, rfl⟩ | ⟨rfl, rfl⟩ | ⟨rfl, rfl⟩ | ⟨rfl, rfl⟩ | ⟨rfl, rfl⟩ | ⟨rfl, rfl⟩ | ⟨rfl, rfl⟩ | ⟨rfl, rfl⟩
  all_goals
   go_enter Tryz.func47, Tryz.ntmps47
   go_wp2_with fail
   refine (HS.out _).mono ?_
   rintro e w1 ⟨rfl, rfl⟩
   go_wp2_with fail
   refine (HS.out _).mono ?_
   rintro e w1 ⟨rfl, rfl⟩
   go_wp2
   go_ret
   exact ⟨by rw [HR.out]; rfl, rfl⟩
 ·have HS := Lib.hid (fun w => size_c c w)
  have hz := sz_big c (by omega)
  rw [hz] at HS
  have HR : Hid (slotsN c = 0) := by show _ = _; unfold slotsN; rw [if_pos hz]
  clear hz hc
  go_enter Tryz.func47, Tryz.ntmps47
  go_wp2_with fail
  refine (HS.out _).mono ?_
  rintro e w1 ⟨rfl, rfl⟩
  go_wp2
  go_ret
  exact ⟨by rw [HR.out]; rfl, rfl⟩
theorem place_yes (c k : Nat) (hk : k < slotsN c) (w : World) :
  Calls Tryz.prog 95 #[.int .i64 (c : Int), .int .i64 (k : Int)] w fun e w' => e = .returned (.tuple #[.int .i64 ((k * (sz c + 8) : Nat) : Int), .int .i64 ((sz c + 8 : Nat) : Int), .bool true]) /\ w = w' := by
 have hc : c < 8 := by
  rcases Nat.lt_or_ge c 8 with h | h
  ·exact h
  ·have : slotsN c = 0 := by unfold slotsN; rw [if_pos (sz_big c h)]
   omega
 have hz := sz_le_all c hc
 have hs := slots_all c hc
 have HS := Lib.hid (fun w => size_c c w)
 have HL := Lib.hid (fun w => slots_c c w)
 obtain ⟨z, hz9⟩ : ∃ z, z = sz c := ⟨_, rfl⟩
 obtain ⟨s, hs9⟩ : ∃ s, s = slotsN c := ⟨_, rfl⟩
 rw [<- hz9] at HS hz ⊢
 rw [<- hs9] at HL hk hs
 obtain ⟨y, hy⟩ : ∃ y, y = z + 8 := ⟨_, rfl⟩
 obtain ⟨x, hx⟩ : ∃ x, x = k * y := ⟨_, rfl⟩
 have hx2 : x <= 15 * 128 := by rw [hx]; exact Nat.mul_le_mul (by omega) (by omega)
 have e1 : IntKind.i64.wrap ((z : Int) + 8) = (y : Int) := by rw [hy]; exact IntWalk.i64_in _ (by omega)
 have e2 : IntKind.i64.wrap ((k : Int) * (y : Int)) = (x : Int) := by
  rw [show (k : Int) * (y : Int) = ((k * y : Nat) : Int) by simp, <- hx]; exact IntWalk.i64_in _ (by omega)
 have k0 : ¬ (k : Int) < 0 := by omega
 have k0d : decide ((k : Int) < 0) = false := by simp
 have k1 : ¬ (s : Int) <= (k : Int) := by omega
 have k1d : decide ((s : Int) <= (k : Int)) = false := by simp; omega
 have k2 : (k : Int) < (s : Int) := by omega
 rw [<- hy, <- hx]
 clear hz9 hs9 hy hx hx2 hz hs hc
 go_enter Tryz.func95, Tryz.ntmps95
 go_wp2_with fail
 refine (HL.out _).mono ?_
 rintro e w1 ⟨rfl, rfl⟩
 go_wp2_with fail
 refine (HS.out _).mono ?_
 rintro e w1 ⟨rfl, rfl⟩
 go_wp2
 go_ret3
 exact ⟨rfl, rfl⟩
end Go.Proofs.YtpbmjfjnmcpieaaGreat
namespace Go.Proofs.YtpbmjfjnmcpieaaGreat
open Go Go.RowKit Go.Lib
theorem serial_c (g o n cap : Nat) (l : List Nat) (hl : l.length = n) (hn : 8 <= n) (w : World) (h : BytesAt w (some ⟨g, o, none⟩) cap l) :
  Calls Tryz.prog 77 #[.slice (some ⟨g, o, none⟩) n cap] w fun e w' => e = .returned (.int .u64 (serW l : Int)) /\ w = w' := by
 have hc : n <= cap := by
  obtain ⟨_, _, _, hc, _⟩ := h.2 (by omega)
  omega
 have HB := Lib.hid (h.sub (lo := 2) (hi := 8) (by omega) (by omega))
 have HL : Hid (((l.drop 2).take (8 - 2)).length = 6) := by show _ = _; rw [List.length_take, List.length_drop]; omega
 have HC : Hid (8 <= cap) := by show _ <= _; omega
 have HV : Hid (leN ((l.drop 2).take (8 - 2)) = serW l) := rfl
 clear h hl hn hc
 go_enter Tryz.func77, Tryz.ntmps77
 go_wp2_with (first
  | (refine wpList_sub rfl (.tmp 3) (.const (.int .i64 2)) (.const (.int .i64 8)) (l := 2) (h := 8) rfl rfl rfl rfl (by omega) HC.out ?_)
  | fail)
 refine (get_c _ 6 _ _ HL.out (by omega) _ HB.out).mono ?_
 rintro e w1 ⟨rfl, rfl⟩
 go_wp2
 go_ret
 exact ⟨by rw [<- HV.out]; rfl, rfl⟩
theorem free_c (g o n cap : Nat) (l : List Nat) (hl : l.length = n) (hn : 8 <= n) (w : World) (h : BytesAt w (some ⟨g, o, none⟩) cap l) :
  Calls Tryz.prog 96 #[.slice (some ⟨g, o, none⟩) n cap] w fun e w' => e = .returned (.bool (zeroB (l.take 8))) /\ w = w' := by
 have hc : n <= cap := by
  obtain ⟨_, _, _, hc, _⟩ := h.2 (by omega)
  omega
 have HB := Lib.hid (bytes_takeM h 8)
 have HL : Hid ((l.take 8).length = 8) := by show _ = _; rw [List.length_take]; omega
 have h8 : 8 <= cap := by omega
 have h8i : (8 : Int) <= (cap : Int) := by omega
 have h8n : ¬ (cap : Int) < 8 := by omega
 clear h hl hn hc
 go_enter Tryz.func96, Tryz.ntmps96
 go_wp2_with fail
 refine (zero_c _ 8 _ _ HL.out (by omega) _ HB.out).mono ?_
 rintro e w1 ⟨rfl, rfl⟩
 go_wp2
 go_ret
 exact ⟨rfl, rfl⟩
theorem ssize_c (g o n cap : Nat) (l : List Nat) (hl : l.length = n) (hn : 8 <= n) (w : World) (h : BytesAt w (some ⟨g, o, none⟩) cap l) :
  Calls Tryz.prog 78 #[.slice (some ⟨g, o, none⟩) n cap] w fun e w' => e = .returned (.int .i64 (sizeW l : Int)) /\ w = w' := by
 have hc : n <= cap := by
  obtain ⟨_, _, _, hc, _⟩ := h.2 (by omega)
  omega
 have HB := Lib.hid (bytes_takeM h 2)
 have HL : Hid ((l.take 2).length = 2) := by show _ = _; rw [List.length_take]; omega
 have h8 : 2 <= cap := by omega
 have h8i : (2 : Int) <= (cap : Int) := by omega
 have h8n : ¬ (cap : Int) < 2 := by omega
 obtain ⟨v, hv⟩ : ∃ v, v = leN (l.take 2) := ⟨_, rfl⟩
 have hlt := leN_lt (l.take 2) (fun x hx => h.1 x (List.mem_of_mem_take hx))
 rw [HL.out, <- hv] at hlt
 have ew : IntKind.i64.wrap (v : Int) = (v : Int) := IntWalk.i64_in _ (by omega)
 have HV : Hid (sizeW l = v) := hv.symm
 have HG := Lib.hid (get_c _ 2 _ _ HL.out (by omega) w HB.out)
 rw [<- hv] at HG
 clear h hl hn hc hlt hv
 go_enter Tryz.func78, Tryz.ntmps78
 go_wp2_with fail
 refine HG.out.mono ?_
 rintro e w1 ⟨rfl, rfl⟩
 go_wp2
 go_ret
 exact ⟨by rw [HV.out]; rfl, rfl⟩
end Go.Proofs.YtpbmjfjnmcpieaaGreat
namespace Go.Proofs.YtpbmjfjnmcpieaaGreat
open Go Go.RowKit Go.Lib
theorem run_subF (g o len cap l : Nat) (hl : l <= len) (w : World) :
  (Instr.sliceAt 47 (.slice (some ⟨g, o, none⟩) len cap) (some (.int .i64 (l : Int))) none none).run Tryz.prog w = .ok (.slice (some ⟨g, subO o cap l, none⟩) (len - l) (cap - l)) w := by
 obtain ⟨i0, hi, hz0, hz1, hz2⟩ := info_parts u8info
 have he : Tryz.prog.elem 47 = 5 := by kernel_rfl
 have hu : Tryz.prog.underlying 47 = some (.slice (Tryz.prog.elem 47)) := by rw [he]; exact Tryz.underlying47
 rw [run_sliceAt_slice (h := hu), run_slice_l (ht := hu) (h0 := by omega) (h1 := by omega)]
 rw [he, run_sizeOf (w := w) hi, show Tryz.prog.cellsOf 5 = 1 from (by kernel_rfl)]
 simp only [Result.andThen_ok, sliced, Int.toNat_natCast, Nat.mul_one]
 unfold subO
 split
 ·rfl
 ·simp only [Option.map_some]; rw [add_plain]
theorem wpList_subF_g {w : World} {ops : Array Oper} {rest : List Oper} {op : Oper} {A : Act} {Q : Exit -> Act -> World -> Prop} (hw : Region.wanted op (yielded ops A.tmps) = true) {g o len cap l : Nat} (x y : Operand) (ho : op.op = .slice 47 x (some y) none none) (hx : A.eval x = .slice (some ⟨g, o, none⟩) len cap) (hy : A.eval y = .int .i64 (l : Int))
  (hl : l <= len) (hK : wpList Tryz.prog ops Q rest (A.put op.dst (.slice (some ⟨g, subO o cap l, none⟩) (len - l) (cap - l))) w) : wpList Tryz.prog ops Q (op :: rest) A w :=
 wpList_met hw fun _ hk => by
  unfold Oper.wp
  have : (execOp A.eval op).run Tryz.prog w = .ok (.value (.slice (some ⟨g, subO o cap l, none⟩) (len - l) (cap - l))) w := by
   unfold execOp
   simp only [ho, Option.map_some, Option.map_none, hx, hy, Sem.run_bind, run_subF g o len cap l hl w, Result.andThen_ok]
   rfl
  rw [this]
  exact hk _ _ hK
theorem slmay_c (g o n cap : Nat) (l : List Nat) (hl : l.length = n) (hn : 8 <= n) (hn2 : n <= 1000) (w : World) (h : BytesAt w (some ⟨g, o, none⟩) cap l) :
  Calls Tryz.prog 75 #[.slice (some ⟨g, o, none⟩) n cap] w fun e w' => e = .returned (.bool (okW l)) /\ w = w' := by
 have HF := Lib.hid (free_c g o n cap l hl hn w h)
 have HZ := Lib.hid (zero_c _ n cap l hl (by omega) w h)
 have HS := Lib.hid (ssize_c g o n cap l hl hn w h)
 have HR := Lib.hid (serial_c g o n cap l hl hn w h)
 obtain ⟨m, hm⟩ : ∃ m, m = sizeW l := ⟨_, rfl⟩
 obtain ⟨s, hs⟩ : ∃ s, s = serW l := ⟨_, rfl⟩
 have HT : Hid (8 + m <= n -> Calls Tryz.prog 46 #[.slice (some ⟨g, subO o cap (8 + m), none⟩) (n - (8 + m)) (cap - (8 + m))] w fun e w' => e = .returned (.bool (zeroB (l.drop (8 + m)))) /\ w = w') := fun hle => by
  have hb := h.sub (lo := 8 + m) (hi := n) hle (by omega)
  rw [List.take_of_length_le (by rw [List.length_drop]; omega)] at hb
  exact zero_c _ _ _ _ (by rw [List.length_drop]; omega) (by omega) w hb
 have HO : Hid (okW l = if zeroB (l.take 8) then zeroB l else decide (0 < m) && decide (m <= n - 8) && decide (0 < s) && zeroB (l.drop (8 + m))) := by
  show _ = _
  rw [hm, hs, <- hl]
  rfl
 rw [<- hm] at HS
 rw [<- hs] at HR
 obtain ⟨z, hz⟩ : ∃ z, z = zeroB (l.take 8) := ⟨_, rfl⟩
 rw [<- hz] at HF HO
 have e1 : IntKind.i64.wrap ((n : Int) - 8) = (n : Int) - 8 := IntWalk.i64_in _ (by omega)
 have HN8 : Hid (8 <= n /\ n <= 1000) := ⟨hn, hn2⟩
 clear hl hn hn2 h hm hs hz
 go_enter Tryz.func75, Tryz.ntmps75
 go_wp2_with fail
 refine HF.out.mono ?_
 rintro e w1 ⟨rfl, rfl⟩
 cases z with
 | true =>
  go_wp2_with fail
  refine HZ.out.mono ?_
  rintro e w1 ⟨rfl, rfl⟩
  go_wp2
  go_ret
  exact ⟨by rw [HO.out]; rfl, rfl⟩
 | false =>
  go_wp2_with fail
  refine HS.out.mono ?_
  rintro e w1 ⟨rfl, rfl⟩
  by_cases h0 : 0 < m
  ·have d0 : decide ((0 : Int) < (m : Int)) = true := by simp; omega
   have i0 : (0 : Int) < (m : Int) := by omega
   by_cases h1 : m <= n - 8
   ·have d1 : decide ((m : Int) <= (n : Int) - 8) = true := by have := HN8.out; simp; omega
    have i1 : (m : Int) <= (n : Int) - 8 := by have := HN8.out; omega
    have H1 : Hid (8 + m <= n /\ decide (0 < m) = true /\ decide (m <= n - 8) = true) := ⟨by have := HN8.out; omega, by simpa using h0, by simpa using h1⟩
    have e2 : IntKind.i64.wrap (8 + (m : Int)) = ((8 + m : Nat) : Int) := by
     rw [show (8 + (m : Int)) = ((8 + m : Nat) : Int) by omega]; exact IntWalk.i64_in _ (by have := H1.out; have := HN8.out; omega)
    obtain ⟨q, hq⟩ : ∃ q, q = 8 + m := ⟨_, rfl⟩
    rw [<- hq] at e2 HT HO H1
    clear h0 h1 hq
    go_wp2_with fail
    refine HR.out.mono ?_
    rintro e w1 ⟨rfl, rfl⟩
    by_cases h2 : 0 < s
    ·have d2 : decide ((0 : Int) < (s : Int)) = true := by simp; omega
     have i2 : (0 : Int) < (s : Int) := by omega
     have H2 : Hid (decide (0 < s) = true) := by show _ = _; simpa using h2
     clear h2
     go_wp2_with (first
      | (refine wpList_subF_g (by rfl) (.tmp 25) (.tmp 27) (l := q) rfl rfl rfl H1.out.1 ?_)
      | fail)
     refine (HT.out H1.out.1).mono ?_
     rintro e w1 ⟨rfl, rfl⟩
     go_wp2
     go_ret
     exact ⟨by rw [HO.out, H1.out.2.1, H1.out.2.2, H2.out]; simp, rfl⟩
    ·have d2 : decide ((0 : Int) < (s : Int)) = false := by simp; omega
     have i2 : ¬ (0 : Int) < (s : Int) := by omega
     have H2 : Hid (decide (0 < s) = false) := by show _ = _; simpa using h2
     clear h2
     go_wp2
     go_ret
     exact ⟨by rw [HO.out, H2.out]; simp, rfl⟩
   ·have d1 : decide ((m : Int) <= (n : Int) - 8) = false := by have := HN8.out; simp; omega
    have i1 : ¬ (m : Int) <= (n : Int) - 8 := by have := HN8.out; omega
    have H1 : Hid (decide (m <= n - 8) = false) := by show _ = _; simpa using h1
    clear h0 h1
    go_wp2
    go_ret
    exact ⟨by rw [HO.out, H1.out]; simp, rfl⟩
  ·have d0 : decide ((0 : Int) < (m : Int)) = false := by simp; omega
   have i0 : ¬ (0 : Int) < (m : Int) := by omega
   have H0 : Hid (decide (0 < m) = false) := by show _ = _; simpa using h0
   clear h0
   go_wp2
   go_ret
   exact ⟨by rw [HO.out, H0.out]; simp, rfl⟩
end Go.Proofs.YtpbmjfjnmcpieaaGreat
namespace Go.Proofs.YtpbmjfjnmcpieaaGreat
open Go Go.RowKit Go.Lib
theorem place_no (c k : Nat) (hk : slotsN c <= k) (w : World) :
  Calls Tryz.prog 95 #[.int .i64 (c : Int), .int .i64 (k : Int)] w fun e w' => e = .returned (.tuple #[.int .i64 0, .int .i64 0, .bool false]) /\ w = w' := by
 have HL := Lib.hid (fun w => slots_c c w)
 obtain ⟨s, hs9⟩ : ∃ s, s = slotsN c := ⟨_, rfl⟩
 rw [<- hs9] at HL hk
 have k0 : ¬ (k : Int) < 0 := by omega
 have k0d : decide ((k : Int) < 0) = false := by simp
 have k1 : (s : Int) <= (k : Int) := by omega
 have k1d : decide ((s : Int) <= (k : Int)) = true := by simp; omega
 have k2 : ¬ (k : Int) < (s : Int) := by omega
 clear hs9
 go_enter Tryz.func95, Tryz.ntmps95
 go_wp2_with fail
 refine (HL.out _).mono ?_
 rintro e w1 ⟨rfl, rfl⟩
 go_wp2
 go_ret3
 exact ⟨rfl, rfl⟩
theorem run_subM (g o len cap l h : Nat) (hl : l < h) (hh : h <= cap) (w : World) :
  (Instr.sliceAt 47 (.slice (some ⟨g, o, none⟩) len cap) (some (.int .i64 (l : Int))) (some (.int .i64 (h : Int))) (some (.int .i64 (h : Int)))).run Tryz.prog w = .ok (.slice (some ⟨g, o + l, none⟩) (h - l) (h - l)) w := by
 obtain ⟨i0, hi, hz0, hz1, hz2⟩ := info_parts u8info
 have he : Tryz.prog.elem 47 = 5 := by kernel_rfl
 have hu : Tryz.prog.underlying 47 = some (.slice (Tryz.prog.elem 47)) := by rw [he]; exact Tryz.underlying47
 rw [run_sliceAt_slice (h := hu), run_slice_lhm (ht := hu) (h0 := by omega) (h1 := by omega) (h2 := by omega) (h3 := by omega)]
 rw [he, run_sizeOf (w := w) hi, show Tryz.prog.cellsOf 5 = 1 from (by kernel_rfl)]
 simp only [Result.andThen_ok, sliced, Int.toNat_natCast, Nat.mul_one]
 rw [if_neg (by omega)]
 simp only [Option.map_some]; rw [add_plain]
end Go.Proofs.YtpbmjfjnmcpieaaGreat
namespace Go.Proofs.YtpbmjfjnmcpieaaGreat
open Go Go.RowKit Go.Lib
/-- may a geometry be -/
def geoB (p t : Int) : Bool := decide (1 <= p) && decide (p <= 64) && decide (4 <= t) && decide (t <= 24)
theorem geoB_iff (p t : Int) : geoB p t = true ↔ 1 <= p /\ p <= 64 /\ 4 <= t /\ t <= 24 := by
 unfold geoB; simp [and_assoc]
/-- the program's word -/
def geoE (p t : Int) : Int := if geoB p t then 0 else 1
theorem geo2 : (Tryz.prog.info? 31).map (·.size) = some 2 := by kernel_rfl
theorem quiet_load_rowG {P : Program} {ops : Array Oper} {C : World -> Prop} {Q : Act -> Prop} {rest : List Oper} {o : Oper} {a : Act} (hgd : Region.wanted o (yielded ops a.tmps) = true) (ty : TypeId) (x : Operand) (ho : o.op = .load ty x)
  (g : Nat) (hx : a.eval x = .pointer (some ⟨g, 0, none⟩)) (t : TypeId) (cs : Array Value) (fr : Nat × Nat) (d : TypeDesc) (hg : ∀ w, C w -> w.heap[g]? = some (.cells cs t fr))
  (hu : P.underlying ty = some d) (hd : (match d with | .struct _ | .array _ _ => true | _ => false) = true) (hi : (P.info? ty).map (·.size) = some cs.size)
  (h : wpQuiet P ops C Q rest (a.put o.dst (.agg cs))) : wpQuiet P ops C Q (o :: rest) a :=
 wpQuiet_step fun K hK => by
  rw [if_pos hgd]
  refine ⟨.agg cs, fun w hw => ?_, hK _ h⟩
  unfold Oper.quietAt execOp
  simp only [ho, hx, Instr.loadAt, Instr.sureAddr, Sem.run_bind, Sem.run_pure, Result.andThen_ok, run_loadVar_row w g t ty cs fr d (hg w hw) hu hd hi]
  exact ⟨rfl, rfl⟩
theorem below_drewG {B : Nat} {a w : World} (h : Below B a w) (n : Nat) : Below B a (w.drewN n) := ⟨h.os, h.tape, h.output, h.size, h.block⟩
theorem below_box (w : World) (o : Obj) : Below w.heap.size w (w.alloc o) := (Below.refl _ _).alloc (Nat.le_refl _) _
theorem gcheck_c (p t : Int) (w : World) :
  Calls Tryz.prog 18 #[.agg #[.int .i64 p, .int .i64 t]] w fun e w' => e = .returned (.int .i64 (geoE p t)) /\ Below w.heap.size w w' := by
 by_cases h1 : p < 1
 ·have d1 : decide (p < 1) = true := by simpa using h1
  have HG : Hid (geoE p t = 1) := by show _ = _; unfold geoE geoB; rw [if_neg]; simp; omega
  go_enter Tryz.func18, Tryz.ntmps18
  go_wp2
  go_ret
  exact ⟨by rw [HG.out]; rfl, below_box _ _⟩
 ·have d1 : decide (p < 1) = false := by simpa using h1
  by_cases h2 : p > 64
  ·have d2 : decide (p > 64) = true := by simpa using h2
   have HG : Hid (geoE p t = 1) := by show _ = _; unfold geoE geoB; rw [if_neg]; simp; omega
   go_enter Tryz.func18, Tryz.ntmps18
   go_wp2
   go_ret
   exact ⟨by rw [HG.out]; rfl, below_box _ _⟩
  ·have d2 : decide (p > 64) = false := by simpa using h2
   by_cases h3 : t < 4
   ·have d3 : decide (t < 4) = true := by simpa using h3
    have HG : Hid (geoE p t = 1) := by show _ = _; unfold geoE geoB; rw [if_neg]; simp; omega
    go_enter Tryz.func18, Tryz.ntmps18
    go_wp2
    go_ret
    exact ⟨by rw [HG.out]; rfl, below_box _ _⟩
   ·have d3 : decide (t < 4) = false := by simpa using h3
    by_cases h4 : t > 24
    ·have d4 : decide (t > 24) = true := by simpa using h4
     have HG : Hid (geoE p t = 1) := by show _ = _; unfold geoE geoB; rw [if_neg]; simp; omega
     go_enter Tryz.func18, Tryz.ntmps18
     go_wp2
     go_ret
     exact ⟨by rw [HG.out]; rfl, below_box _ _⟩
    ·have d4 : decide (t > 24) = false := by simpa using h4
     have HG : Hid (geoE p t = 0) := by show _ = _; unfold geoE geoB; rw [if_pos]; simp; omega
     go_enter Tryz.func18, Tryz.ntmps18
     go_wp2
     go_ret
     exact ⟨by rw [HG.out]; rfl, below_box _ _⟩
theorem rgmay_c (p t : Int) (w : World) :
  Calls Tryz.prog 13 #[.agg #[.int .i64 p, .int .i64 t]] w fun e w' => e = .returned (.bool (geoB p t)) /\ Below w.heap.size w w' := by
 by_cases h1 : p >= 1
 ·have d1 : decide (p >= 1) = true := by simpa using h1
  by_cases h2 : p <= 64
  ·have d2 : decide (p <= 64) = true := by simpa using h2
   by_cases h3 : t >= 4
   ·have d3 : decide (t >= 4) = true := by simpa using h3
    by_cases h4 : t <= 24
    ·have d4 : decide (t <= 24) = true := by simpa using h4
     have HG : Hid (geoB p t = true) := by show _ = _; unfold geoB; simp; omega
     go_enter Tryz.func13, Tryz.ntmps13
     go_wp2
     go_ret
     exact ⟨by rw [HG.out]; rfl, below_box _ _⟩
    ·have d4 : decide (t <= 24) = false := by simpa using h4
     have HG : Hid (geoB p t = false) := by show _ = _; unfold geoB; simp; omega
     go_enter Tryz.func13, Tryz.ntmps13
     go_wp2
     go_ret
     exact ⟨by rw [HG.out]; rfl, below_box _ _⟩
   ·have d3 : decide (t >= 4) = false := by simpa using h3
    have HG : Hid (geoB p t = false) := by show _ = _; unfold geoB; simp; omega
    go_enter Tryz.func13, Tryz.ntmps13
    go_wp2
    go_ret
    exact ⟨by rw [HG.out]; rfl, below_box _ _⟩
  ·have d2 : decide (p <= 64) = false := by simpa using h2
   have HG : Hid (geoB p t = false) := by show _ = _; unfold geoB; simp; omega
   go_enter Tryz.func13, Tryz.ntmps13
   go_wp2
   go_ret
   exact ⟨by rw [HG.out]; rfl, below_box _ _⟩
 ·have d1 : decide (p >= 1) = false := by simpa using h1
  have HG : Hid (geoB p t = false) := by show _ = _; unfold geoB; simp; omega
  go_enter Tryz.func13, Tryz.ntmps13
  go_wp2
  go_ret
  exact ⟨by rw [HG.out]; rfl, below_box _ _⟩
def mapsN (p : Nat) : Nat := (p + 15) / 16
def sealedN (p : Nat) : Nat := 1 + mapsN p + p
theorem up16_c (n : Nat) (hn : n <= 64) (w : World) :
  Calls Tryz.prog 61 #[.int .i64 (n : Int), .int .i64 16] w fun e w' => e = .returned (.int .i64 (mapsN n : Int)) /\ w = w' := by
 have e1 : IntKind.i64.wrap ((n : Int) + 16) = (n : Int) + 16 := IntWalk.i64_in _ (by omega)
 have e2 : IntKind.i64.wrap ((n : Int) + 16 - 1) = (n : Int) + 15 := by rw [show (n : Int) + 16 - 1 = (n : Int) + 15 by omega]; exact IntWalk.i64_in _ (by omega)
 have e3 : IntKind.i64.wrap (((n : Int) + 15).tdiv 16) = (mapsN n : Int) := by
  rw [show ((n : Int) + 15).tdiv 16 = (mapsN n : Int) by unfold mapsN; rw [Int.tdiv_eq_ediv_of_nonneg (by omega)]; omega]
  exact IntWalk.i64_in _ (by unfold mapsN; omega)
 go_enter Tryz.func61, Tryz.ntmps61
 go_wp2
 go_ret
 exact ⟨rfl, rfl⟩
theorem gsealed_c (n : Nat) (t : Int) (hn : n <= 64) (w : World) :
  Calls Tryz.prog 34 #[.agg #[.int .i64 (n : Int), .int .i64 t]] w fun e w' => e = .returned (.int .i64 (sealedN n : Int)) /\ Below w.heap.size w w' := by
 have hc : (w.alloc (.cells #[.int .i64 (n : Int), .int .i64 t] 93)).cell? ⟨w.heap.size, 0, none⟩ = some (.int .i64 (n : Int)) := by simp
 have hm : mapsN n <= 4 := by unfold mapsN; omega
 obtain ⟨m, hm2⟩ : ∃ m, m = mapsN n := ⟨_, rfl⟩
 have HU : Hid (∀ w, Calls Tryz.prog 61 #[.int .i64 (n : Int), .int .i64 16] w fun e w' => e = .returned (.int .i64 (m : Int)) /\ w = w') := by rw [hm2]; exact fun w => up16_c n hn w
 rw [<- hm2] at hm
 have e1 : IntKind.i64.wrap (1 + (m : Int)) = 1 + (m : Int) := IntWalk.i64_in _ (by omega)
 have e2 : IntKind.i64.wrap (1 + (m : Int) + (n : Int)) = 1 + (m : Int) + (n : Int) := IntWalk.i64_in _ (by omega)
 have HS : Hid (sealedN n = 1 + m + n) := by show _ = _; unfold sealedN; rw [hm2]
 have hb := below_box w (.cells #[.int .i64 (n : Int), .int .i64 t] 93)
 obtain ⟨W, hW⟩ : ∃ W, W = w.alloc (.cells #[.int .i64 (n : Int), .int .i64 t] 93) := ⟨_, rfl⟩
 have HB := Lib.hid hb
 clear hm2 hb
 go_enter Tryz.func34, Tryz.ntmps34
 go_wp2
 go_quiet ((go_at_call 61; exact Calls.quiet_of_same ((HU.out _).mono fun _ _ h => ⟨h.1, h.2.symm⟩)))
 go_wp2
 go_ret
 exact ⟨by rw [HS.out]; go_num, below_drewG HB.out _⟩
theorem gmaps1_c (n : Nat) (t : Int) (hn : n <= 64) (w : World) :
  Calls Tryz.prog 62 #[.agg #[.int .i64 (n : Int), .int .i64 t]] w fun e w' => e = .returned (.int .i64 (mapsN n : Int)) /\ Below w.heap.size w w' := by
 have HU : Hid (∀ w, Calls Tryz.prog 61 #[.int .i64 (n : Int), .int .i64 16] w fun e w' => e = .returned (.int .i64 (mapsN n : Int)) /\ w = w') := fun w => up16_c n hn w
 go_enter Tryz.func62, Tryz.ntmps62
 go_wp2_with fail
 refine (HU.out _).mono ?_
 rintro e w1 ⟨rfl, rfl⟩
 go_wp2
 go_ret
 exact ⟨rfl, below_box _ _⟩
def ifGeo (p t : Int) (m : Nat) : Nat := if geoB p t then m else 0
theorem asked_sealed_c (p t : Int) (w : World) :
  Calls Tryz.prog 33 #[.agg #[.int .i64 p, .int .i64 t], .func (.func 34) #[] #[]] w fun e w' => e = .returned (.int .i64 (ifGeo p t (sealedN p.toNat) : Int)) /\ Below w.heap.size w w' := by
 have HE := Lib.hid (fun w => gcheck_c p t w)
 obtain ⟨x, hx⟩ : ∃ x, x = geoE p t := ⟨_, rfl⟩
 rw [<- hx] at HE
 by_cases hg : geoB p t = true
 ·have hx0 : x = 0 := by rw [hx]; unfold geoE; rw [if_pos hg]
  have hp := (geoB_iff p t).1 hg
  have HR : Hid (ifGeo p t (sealedN p.toNat) = sealedN p.toNat) := by show _ = _; unfold ifGeo; rw [if_pos hg]
  obtain ⟨n, rfl⟩ : ∃ n : Nat, p = n := ⟨p.toNat, by omega⟩
  have hn : n <= 64 := by omega
  rw [Int.toNat_natCast] at HR ⊢
  have HS := Lib.hid (fun w => gsealed_c n t hn w)
  clear hx hg hp hn
  subst hx0
  go_enter Tryz.func33, Tryz.ntmps33
  go_wp2_with fail
  refine (HE.out _).mono ?_
  rintro e w1 ⟨rfl, hb1⟩
  have hc1 := (hb1.block w.heap.size (by simp)).trans (heap_new' w _)
  have HB1 : Hid (Below w.heap.size w w1) := (below_box w _).trans (hb1.mono (by simp))
  have hi1 := lt_of_block hc1
  clear hb1
  go_wp2_with (first | (refine wpList_load_row rfl 31 (.tmp 2) rfl w.heap.size rfl _ _ _ _ hc1 Tryz.underlying31 rfl (by rw [geo2]; rfl) ?_) | fail)
  refine (HS.out _).mono ?_
  rintro e w2 ⟨rfl, hb2⟩
  have HB2 : Hid (Below w.heap.size w w2) := HB1.out.trans (hb2.mono HB1.out.size)
  go_wp2
  go_ret
  exact ⟨by rw [HR.out]; rfl, HB2.out⟩
 ·have hg' : geoB p t = false := by simpa using hg
  have hx1 : x = 1 := by rw [hx]; unfold geoE; rw [if_neg hg]
  have HR : Hid (ifGeo p t (sealedN p.toNat) = 0) := by show _ = _; unfold ifGeo; rw [if_neg hg]
  clear hx hg hg'
  subst hx1
  go_enter Tryz.func33, Tryz.ntmps33
  go_wp2_with fail
  refine (HE.out _).mono ?_
  rintro e w1 ⟨rfl, hb1⟩
  have HB1 : Hid (Below w.heap.size w w1) := (below_box w _).trans (hb1.mono (by simp))
  go_wp2
  go_ret
  exact ⟨by rw [HR.out]; rfl, HB1.out⟩
theorem gSealed_c (p t : Int) (w : World) :
  Calls Tryz.prog 19 #[.agg #[.int .i64 p, .int .i64 t]] w fun e w' => e = .returned (.int .i64 (ifGeo p t (sealedN p.toNat) : Int)) /\ Below w.heap.size w w' := by
 have HS := Lib.hid (fun w => asked_sealed_c p t w)
 obtain ⟨m, hm⟩ : ∃ m, m = ifGeo p t (sealedN p.toNat) := ⟨_, rfl⟩
 rw [<- hm] at HS ⊢
 clear hm
 go_enter Tryz.func19, Tryz.ntmps19
 go_wp2_with fail
 refine (HS.out _).mono ?_
 rintro e w1 ⟨rfl, hb1⟩
 have HB1 : Hid (Below w.heap.size w w1) := (below_box w _).trans (hb1.mono (by simp))
 go_wp2
 go_ret
 exact ⟨rfl, HB1.out⟩
theorem asked_maps_c (p t : Int) (w : World) :
  Calls Tryz.prog 33 #[.agg #[.int .i64 p, .int .i64 t], .func (.func 62) #[] #[]] w fun e w' => e = .returned (.int .i64 (ifGeo p t (mapsN p.toNat) : Int)) /\ Below w.heap.size w w' := by
 have HE := Lib.hid (fun w => gcheck_c p t w)
 obtain ⟨x, hx⟩ : ∃ x, x = geoE p t := ⟨_, rfl⟩
 rw [<- hx] at HE
 by_cases hg : geoB p t = true
 ·have hx0 : x = 0 := by rw [hx]; unfold geoE; rw [if_pos hg]
  have hp := (geoB_iff p t).1 hg
  have HR : Hid (ifGeo p t (mapsN p.toNat) = mapsN p.toNat) := by show _ = _; unfold ifGeo; rw [if_pos hg]
  obtain ⟨n, rfl⟩ : ∃ n : Nat, p = n := ⟨p.toNat, by omega⟩
  have hn : n <= 64 := by omega
  rw [Int.toNat_natCast] at HR ⊢
  have HS := Lib.hid (fun w => gmaps1_c n t hn w)
  clear hx hg hp hn
  subst hx0
  go_enter Tryz.func33, Tryz.ntmps33
  go_wp2_with fail
  refine (HE.out _).mono ?_
  rintro e w1 ⟨rfl, hb1⟩
  have hc1 := (hb1.block w.heap.size (by simp)).trans (heap_new' w _)
  have HB1 : Hid (Below w.heap.size w w1) := (below_box w _).trans (hb1.mono (by simp))
  have hi1 := lt_of_block hc1
  clear hb1
  go_wp2_with (first | (refine wpList_load_row rfl 31 (.tmp 2) rfl w.heap.size rfl _ _ _ _ hc1 Tryz.underlying31 rfl (by rw [geo2]; rfl) ?_) | fail)
  refine (HS.out _).mono ?_
  rintro e w2 ⟨rfl, hb2⟩
  have HB2 : Hid (Below w.heap.size w w2) := HB1.out.trans (hb2.mono HB1.out.size)
  go_wp2
  go_ret
  exact ⟨by rw [HR.out]; rfl, HB2.out⟩
 ·have hg' : geoB p t = false := by simpa using hg
  have hx1 : x = 1 := by rw [hx]; unfold geoE; rw [if_neg hg]
  have HR : Hid (ifGeo p t (mapsN p.toNat) = 0) := by show _ = _; unfold ifGeo; rw [if_neg hg]
  clear hx hg hg'
  subst hx1
  go_enter Tryz.func33, Tryz.ntmps33
  go_wp2_with fail
  refine (HE.out _).mono ?_
  rintro e w1 ⟨rfl, hb1⟩
  have HB1 : Hid (Below w.heap.size w w1) := (below_box w _).trans (hb1.mono (by simp))
  go_wp2
  go_ret
  exact ⟨by rw [HR.out]; rfl, HB1.out⟩
theorem gMaps_c (p t : Int) (w : World) :
  Calls Tryz.prog 36 #[.agg #[.int .i64 p, .int .i64 t]] w fun e w' => e = .returned (.int .i64 (ifGeo p t (mapsN p.toNat) : Int)) /\ Below w.heap.size w w' := by
 have HS := Lib.hid (fun w => asked_maps_c p t w)
 obtain ⟨m, hm⟩ : ∃ m, m = ifGeo p t (mapsN p.toNat) := ⟨_, rfl⟩
 rw [<- hm] at HS ⊢
 clear hm
 go_enter Tryz.func36, Tryz.ntmps36
 go_wp2_with fail
 refine (HS.out _).mono ?_
 rintro e w1 ⟨rfl, hb1⟩
 have HB1 : Hid (Below w.heap.size w w1) := (below_box w _).trans (hb1.mono (by simp))
 go_wp2
 go_ret
 exact ⟨rfl, HB1.out⟩
theorem mapsN_le (n : Nat) (h : n <= 64) : mapsN n <= 4 := by unfold mapsN; omega
theorem gPageAt_c (n k : Nat) (t : Int) (hg : geoB n t = true) (hk : k < n) (w : World) :
  Calls Tryz.prog 21 #[.agg #[.int .i64 (n : Int), .int .i64 t], .int .i64 (k : Int)] w fun e w' => e = .returned (.int .i64 ((1 + mapsN n + k : Nat) : Int)) /\ Below w.heap.size w w' := by
 have HE := Lib.hid (fun w => gcheck_c n t w)
 have hx0 : geoE n t = 0 := by unfold geoE; rw [if_pos hg]
 rw [hx0] at HE
 have hp := (geoB_iff n t).1 hg
 have hm := mapsN_le n (by omega)
 have HM := Lib.hid (fun w => gMaps_c n t w)
 have hi : ifGeo n t (mapsN (n : Int).toNat) = mapsN n := by unfold ifGeo; rw [if_pos hg, Int.toNat_natCast]
 rw [hi] at HM
 obtain ⟨m, hm2⟩ : ∃ m, m = mapsN n := ⟨_, rfl⟩
 rw [<- hm2] at HM hm ⊢
 have e1 : IntKind.i64.wrap (1 + (m : Int)) = 1 + (m : Int) := IntWalk.i64_in _ (by omega)
 have e2 : IntKind.i64.wrap (1 + (m : Int) + (k : Int)) = ((1 + m + k : Nat) : Int) := by
  rw [show 1 + (m : Int) + (k : Int) = ((1 + m + k : Nat) : Int) by omega]; exact IntWalk.i64_in _ (by omega)
 have k0 : decide ((k : Int) < 0) = false := by simp
 have k1 : decide ((k : Int) >= (n : Int)) = false := by simp; omega
 have k2 : ¬ (n : Int) <= (k : Int) := by omega
 have k3 : (k : Int) < (n : Int) := by omega
 clear hx0 hp hm2 hi hg hk hm
 go_enter Tryz.func21, Tryz.ntmps21
 go_wp2_with fail
 refine (HE.out _).mono ?_
 rintro e w1 ⟨rfl, hb1⟩
 have hc1 := (hb1.block w.heap.size (by simp)).trans (heap_new' w _)
 have cc0 := (cells_at hc1 0).trans (show _ = some (Value.int .i64 (n : Int)) from rfl)
 have HB1 : Hid (Below w.heap.size w w1) := (below_box w _).trans (hb1.mono (by simp))
 have hi1 := lt_of_block hc1
 clear hb1
 go_wp2_with (first | (refine wpList_load_row rfl 31 (.tmp 2) rfl w.heap.size rfl _ _ _ _ hc1 Tryz.underlying31 rfl (by rw [geo2]; rfl) ?_) | fail)
 refine (HM.out _).mono ?_
 rintro e w2 ⟨rfl, hb2⟩
 have HB2 : Hid (Below w.heap.size w w2) := HB1.out.trans (hb2.mono HB1.out.size)
 go_wp2
 go_ret
 exact ⟨rfl, HB2.out⟩
theorem rgMaps_c (n : Nat) (t : Int) (hn : n <= 64) (w : World) :
  Calls Tryz.prog 15 #[.agg #[.int .i64 (n : Int), .int .i64 t]] w fun e w' => e = .returned (.int .i64 (mapsN n : Int)) /\ Below w.heap.size w w' := by
 have hc : (w.alloc (.cells #[.int .i64 (n : Int), .int .i64 t] 31)).cell? ⟨w.heap.size, 0, none⟩ = some (.int .i64 (n : Int)) := by simp
 go_enter Tryz.func15, Tryz.ntmps15
 go_wp2
 go_loop [3] (fun vi => ∃ k : Nat, k <= mapsN n /\ vi = .int .i64 k) (fun vi => mapsN n - (RowKit.intOf vi).toNat)
 case atStart => exact ⟨0, by omega, rfl⟩
 case round =>
  obtain ⟨k, hk, rfl⟩ := hrel
  have hm := mapsN_le n hn
  have e1 : IntKind.i64.wrap (16 * (k : Int)) = 16 * (k : Int) := IntWalk.i64_in _ (by omega)
  have e2 : IntKind.i64.wrap ((k : Int) + 1) = (k : Int) + 1 := IntWalk.i64_in _ (by omega)
  by_cases hlt : k < mapsN n
  ·have dk : decide (16 * (k : Int) < (n : Int)) = true := by have := hlt; unfold mapsN at this; simp; omega
   have ik : 16 * (k : Int) < (n : Int) := by have := hlt; unfold mapsN at this; omega
   have HK := Lib.hid hlt
   clear hlt hk hm
   go_wp2
   go_round
   case rel => exact ⟨k + 1, by have := HK.out; omega, by go_num⟩
   case measure => simp [RowKit.intOf]; have := HK.out; omega
  ·have dk : decide (16 * (k : Int) < (n : Int)) = false := by have := hlt; unfold mapsN at this; simp; omega
   have ik : ¬ 16 * (k : Int) < (n : Int) := by have := hlt; unfold mapsN at this; omega
   have HZ : Hid (mapsN n = k) := by show _ = _; omega
   clear hlt hk hm
   go_wp2
   go_ret
   exact ⟨by rw [HZ.out]; rfl, below_box _ _⟩
theorem rgSealed_c (n : Nat) (t : Int) (hn : n <= 64) (w : World) :
  Calls Tryz.prog 12 #[.agg #[.int .i64 (n : Int), .int .i64 t]] w fun e w' => e = .returned (.int .i64 (sealedN n : Int)) /\ Below w.heap.size w w' := by
 have hm := mapsN_le n hn
 obtain ⟨m, hm2⟩ : ∃ m, m = mapsN n := ⟨_, rfl⟩
 have HS : Hid (sealedN n = 1 + m + n) := by show _ = _; unfold sealedN; rw [hm2]
 rw [<- hm2] at hm
 have e1 : IntKind.i64.wrap (1 + (m : Int)) = 1 + (m : Int) := IntWalk.i64_in _ (by omega)
 have e2 : IntKind.i64.wrap (1 + (m : Int) + (n : Int)) = 1 + (m : Int) + (n : Int) := IntWalk.i64_in _ (by omega)
 have HM : Hid (∀ w, Calls Tryz.prog 15 #[.agg #[.int .i64 (n : Int), .int .i64 t]] w fun e w' => e = .returned (.int .i64 (m : Int)) /\ Below w.heap.size w w') := by rw [hm2]; exact fun w => rgMaps_c n t hn w
 clear hm hm2 hn
 go_enter Tryz.func12, Tryz.ntmps12
 go_wp2
 obtain ⟨W, hW⟩ : ∃ W, W = w.alloc (.cells #[.int .i64 (n : Int), .int .i64 t] 31) := ⟨_, rfl⟩
 rw [<- hW]
 have hWh : W.heap[w.heap.size]? = some (.cells #[.int .i64 (n : Int), .int .i64 t] 31 (0, 0)) := by rw [hW]; exact heap_new' _ _
 have hz : w.heap.size < W.heap.size := by rw [hW]; simp
 have hbW : Below w.heap.size w W := by rw [hW]; exact below_box _ _
 clear hW
 obtain ⟨S, f, hne, h1, h2⟩ := bclass W
 have c0 : ∀ s, (f s).cell? ⟨w.heap.size, 0, none⟩ = some (.int .i64 (n : Int)) := fun s => (cells_at (((h1 s).block _ hz).trans hWh) 0).trans rfl
 have HK : Hid (∀ s', (f s').heap[w.heap.size]? = some (.cells #[.int .i64 (n : Int), .int .i64 t] 31 (0, 0))) := fun s' => ((h1 s').block _ hz).trans hWh
 have H1 := Lib.hid h1
 have H2 := Lib.hid h2
 have HB := Lib.hid hbW
 have M1 : Hid (∀ x : S, Calls Tryz.prog 15 #[.agg #[.int .i64 (n : Int), .int .i64 t]] (f x) fun e w' => e = .returned (.int .i64 (m : Int)) /\ ∃ s', w' = f s') := fun x => bcall h1 h2 (HM.out _)
 clear h1 h2 hbW
 refine wp_region_quiet (C := fun w' => ∃ s, w' = f s) (by kernel_rfl) (by kernel_rfl) (H2.out _ (Below.refl _ _).drew) ?_
 simp only
 repeat first | (refine quiet_load_rowG rfl 31 (.tmp 1) rfl w.heap.size rfl 31 #[.int .i64 (n : Int), .int .i64 t] (0, 0) _ (by rintro _ ⟨x, rfl⟩; exact HK.out x) Tryz.underlying31 rfl (by rw [geo2]; rfl) ?_; simp only [Act.put, List.setIfInBounds_toArray, List.set_cons_succ, List.set_cons_zero]) | go_big_quiet_step ((with_reducible first | exact M1.out _))
 refine wpQuiet_nil ?_
 rintro _ ⟨s0, rfl⟩
 have b0 := Lib.hid (HB.out.trans ((H1.out s0).mono (by omega)))
 clear HK H1 H2 HB M1 hWh
 go_wp2
 go_ret
 exact ⟨by rw [HS.out]; go_num, b0.out⟩
end Go.Proofs.YtpbmjfjnmcpieaaGreat
