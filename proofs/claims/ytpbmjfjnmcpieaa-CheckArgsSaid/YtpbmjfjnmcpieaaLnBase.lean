/- The lemmas of earlier texts that name no function, for the seat of the Lines laws (picked by pick.py out of CtrA, Byt and others). -/
import Derived.Test.YtpbmjfjnmcpieaaArrOpen
import Derived.Test.YtpbmjfjnmcpieaaReg
import Derived.Test.YtpbmjfjnmcpieaaProg
import Derived.Deep.OwnRows
import Derived.Deep.RegionHeld
import Derived.Deep.MidRow
import Derived.OrdersHeld
import Derived.Laws.BytesString
import Derived.Laws.IdiomStrings
import Derived.Laws.Rows
import Derived.Laws.CopyOwn
import Derived.Lib.BufferRead
import Derived.Maps.AppendAt
import Derived.Lib.Walk
set_option linter.unusedVariables false
set_option linter.unusedSimpArgs false
namespace Go.Proofs.Ytpbmjfjnmcpieaa
open Go Go.RowKit
theorem heap_new' (w : World) (o : Obj) : (w.alloc o).heap[w.heap.size]? = some o := by
  show (w.heap.push _)[_]? = _
  simp
theorem heap_old' (w : World) (o : Obj) (k : Nat) (h : k < w.heap.size) : (w.alloc o).heap[k]? = w.heap[k]? := Below.heap_alloc w o k h
theorem cells_at {w : World} {b : Nat} {A : Array Value} {t : TypeId} {z : Nat × Nat} (h : w.heap[b]? = some (.cells A t z)) (o : Nat) : w.cell? ⟨b, o, none⟩ = A[o]? := by simp [World.cell?, h]
theorem free_at {w : World} {b : Nat} {A : Array Value} {t : TypeId} (h : w.heap[b]? = some (.cells A t (0, 0))) (o : Nat) : w.frozen? ⟨b, o, none⟩ = false := by simp [World.frozen?, h]
theorem block_at {w : World} {b : Nat} {A : Array Value} {t : TypeId} {z : Nat × Nat} (h : w.heap[b]? = some (.cells A t z)) (o : Nat) (v : Value) :
    (w.setCell ⟨b, o, none⟩ v).heap[b]? = some (.cells (A.setIfInBounds o v) t z) := by
  simp [World.setCell, Array.getElem?_modify, h]
def upB (v k : Nat) : Nat := v / 2 ^ (8 * k) % 256
/-- the lowest n bytes, the highest first -/
def highB (n v : Nat) : List Nat := (List.range n).map fun k => upB v (n - 1 - k)
theorem highB_len (n v : Nat) : (highB n v).length = n := by simp [highB]
theorem highB_get (n v k : Nat) (h : k < n) : (highB n v).getD k 0 = upB v (n - 1 - k) := by simp [highB, h]
/-- what a loop has put so far -/
def partB (l : List Nat) (k : Nat) : List Nat := l.take k ++ List.replicate (l.length - k) 0
theorem partB_len (l : List Nat) (k : Nat) (h : k ≤ l.length) : (partB l k).length = l.length := by simp [partB]; omega
theorem partB_zero (l : List Nat) : partB l 0 = List.replicate l.length 0 := by simp [partB]
theorem partB_full (l : List Nat) : partB l l.length = l := by simp [partB]
theorem partB_set (l : List Nat) (k : Nat) (h : k < l.length) : (partB l k).set k (l.getD k 0) = partB l (k + 1) := by
  apply List.ext_getElem
  · simp [partB]; omega
  · intro i h1 h2
    simp only [partB, List.getElem_set, List.getElem_append, List.getElem_take, List.getElem_replicate, List.length_take]
    by_cases e : k = i
    · subst e
      rw [if_pos rfl, dif_pos (by omega)]; simp [h]
    · rw [if_neg e]
      by_cases h3 : i < k
      · rw [dif_pos (by omega), dif_pos (by omega)]
      · rw [dif_neg (by omega), dif_neg (by omega)]
theorem bA_rep (n : Nat) : bA (List.replicate n 0) = (List.replicate n (Value.int .u8 0)).toArray := by simp [bA]
theorem u8info : (Try.prog.info? 5).map (fun i => (i.zero, i.size, i.bytes)) = some (some (.int .u8 0), 1, 1) := by kernel_rfl
theorem mk_bytes (n : Nat) (hn : n ≤ 140737488355328) (w : World) :
    (Instr.makeSlice 34 (.int .i64 (n : Int)) (.int .i64 (n : Int))).run Try.prog w = .ok (.slice (some ⟨w.heap.size, 0, none⟩) n n) (w.alloc (.cells (bA (List.replicate n 0)) 5)) := by
  have h := run_make_row' (P := Try.prog) 34 5 (.int .u8 0) 1 Try.underlying34 u8info rfl .i64 .i64 n (by omega) (by omega) w
  rw [h]
  have e : madeCells #[Value.int .u8 0] n = bA (List.replicate n 0) := by
    apply Array.toList_inj.1
    rw [toList_madeCells_one]; simp [bA]
  rw [e]
/-- n bytes behind an address, if there are any -/
def BytesAt (w : World) (a : Option Addr) (cap : Nat) (l : List Nat) : Prop :=
  (∀ x ∈ l, x < 256) ∧ (0 < l.length → ∃ g o, a = some ⟨g, o, none⟩ ∧ l.length ≤ cap ∧ g < w.heap.size ∧ ∀ j, j < l.length → w.cell? ⟨g, o + j, none⟩ = some (.int .u8 ((l.getD j 0 : Nat) : Int)))
theorem BytesAt.up {w w' : World} {a : Option Addr} {cap : Nat} {l : List Nat} (h : BytesAt w a cap l) {B : Nat} (hb : Below B w w') (hB : w.heap.size ≤ B) : BytesAt w' a cap l := by
  refine ⟨h.1, fun h0 => ?_⟩
  obtain ⟨g, o, h1, h2, h3, h4⟩ := h.2 h0
  exact ⟨g, o, h1, h2, Nat.lt_of_lt_of_le h3 hb.size, fun j hj => (hb.cell (p := ⟨g, o + j, none⟩) (Nat.lt_of_lt_of_le h3 hB)).trans (h4 j hj)⟩
theorem getD_lt {l : List Nat} (h : ∀ x ∈ l, x < 256) (j : Nat) : l.getD j 0 < 256 := by
  rw [List.getD_eq_getElem?_getD]
  rcases Nat.lt_or_ge j l.length with hj | hj
  · rw [List.getElem?_eq_getElem hj]; exact h _ (List.getElem_mem _)
  · rw [List.getElem?_eq_none hj]; decide
theorem bytesAt_block {w : World} {q : Nat} {l : List Nat} {z : Nat × Nat} (hb : ∀ x ∈ l, x < 256) (h : w.heap[q]? = some (.cells (bA l) 5 z)) : BytesAt w (some ⟨q, 0, none⟩) l.length l :=
  ⟨hb, fun _ => ⟨q, 0, rfl, Nat.le_refl _, lt_of_block h, fun j hj => by rw [Nat.zero_add, cells_at h j, bA_get l j hj]⟩⟩
/-- bytes as a string's value -/
def strV (l : List Nat) : Value := .string ⟨(l.map UInt8.ofNat).toArray⟩
theorem run_conv {w : World} {a : Option Addr} {cap : Nat} {l : List Nat} (h : BytesAt w a cap l) : (convert 34 9 (.slice a l.length cap)).run Try.prog w = .ok (strV l) w := by
  by_cases h0 : l.length = 0
  · have hl : l = [] := List.length_eq_zero_iff.1 h0
    subst hl
    rw [run_convert_bytes_string w _ _ 5 a _ cap Try.underlying34 Try.underlying5 Try.underlying9]
    cases a with
    | none => simp [Conv.bytesToString, strV]; rfl
    | some p =>
      have := run_bytesToString (P := Try.prog) w p 0 cap [] (by simp [loadCells]; rfl)
      simp only [List.length_nil]
      rw [this]; rfl
  · obtain ⟨g, o, rfl, h2, h3, h4⟩ := h.2 (by omega)
    have := run_convert_bytes_back (P := Try.prog) w 34 9 5 ⟨g, o, none⟩ cap (l.map UInt8.ofNat) Try.underlying34 Try.underlying5 Try.underlying9 (fun j hj => by
      have hj' : j < l.length := by simpa using hj
      have e1 : (⟨g, o, none⟩ : Addr).add j = ⟨g, o + j, none⟩ := by
        unfold Addr.add; split
        · next h => subst h; rfl
        · rfl
      have hlt := h.1 _ (List.getElem_mem (l := l) (h := hj'))
      rw [e1, h4 j hj', List.getD_eq_getElem?_getD, List.getElem?_eq_getElem hj']
      simp [Nat.mod_eq_of_lt hlt])
    rw [List.length_map] at this
    exact this
theorem run_conv_op {w : World} {a : Option Addr} {cap n : Nat} {l : List Nat} (hl : l.length = n) (h : BytesAt w a cap l) (E : Operand → Value) (x : Operand) (o : Oper) (ho : o.op = .convert 34 9 x) (hx : E x = .slice a n cap) :
    (execOp E o).run Try.prog w = .ok (.value (strV l)) w := by
  subst hl
  unfold execOp
  simp only [ho, hx, Sem.run_bind, run_conv h, Result.andThen_ok]
  rfl
theorem wp_conv {o : Oper} {a : Act} {w : World} {K : Act → World → Prop} {Q : Exit → Act → World → Prop} (x : Operand) {s : Option Addr} {cap n : Nat} {l : List Nat} (hl : l.length = n) (h : BytesAt w s cap l) (ho : o.op = .convert 34 9 x)
    (hx : a.eval x = .slice s n cap) (hK : K (a.put o.dst (strV l)) w) : o.wp Try.prog a w K Q := by
  unfold Oper.wp
  rw [run_conv_op hl h a.eval x o ho hx]
  exact hK
theorem strV_inj {l m : List Nat} (hl : ∀ x ∈ l, x < 256) (hm : ∀ x ∈ m, x < 256) (h : l.map UInt8.ofNat = m.map UInt8.ofNat) : l = m := by
  have e : ∀ k : List Nat, (∀ x ∈ k, x < 256) → (k.map UInt8.ofNat).map UInt8.toNat = k := by
    intro k hk
    rw [List.map_map]
    conv => rhs; rw [← List.map_id k]
    apply List.map_congr_left
    intro x hx
    simp [Nat.mod_eq_of_lt (hk x hx)]
  rw [← e l hl, ← e m hm, h]
theorem eq_strV (l m : List Nat) (hl : ∀ x ∈ l, x < 256) (hm : ∀ x ∈ m, x < 256) (w : World) : (binOp .eql 9 (strV l) (strV m)).run Try.prog w = .ok (.bool (decide (l = m))) w := by
  have key : (l.map UInt8.ofNat == m.map UInt8.ofNat) = decide (l = m) := by
    by_cases h : l = m
    · subst h; simp
    · have hne : l.map UInt8.ofNat ≠ m.map UInt8.ofNat := fun h' => h (strV_inj hl hm h')
      simp [h, hne]
  unfold strV
  go_simp
  done
theorem run_eqs (l m : List Nat) (hl : ∀ x ∈ l, x < 256) (hm : ∀ x ∈ m, x < 256) (E : Operand → Value) (x y : Operand) (t : TypeId) (o : Oper) (ho : o.op = .binOp .eql 9 x y t) (hx : E x = strV l) (hy : E y = strV m) (w : World) :
    (execOp E o).run Try.prog w = .ok (.value (.bool (decide (l = m)))) w := by
  have key : (l.map UInt8.ofNat == m.map UInt8.ofNat) = decide (l = m) := by
    by_cases h : l = m
    · subst h; simp
    · have hne : l.map UInt8.ofNat ≠ m.map UInt8.ofNat := fun h' => h (strV_inj hl hm h')
      simp [h, hne]
  unfold execOp
  simp only [ho, hx, hy]
  unfold strV
  go_simp
theorem run_eqs1 (l : List Nat) (hl : ∀ x ∈ l, x < 256) (E : Operand → Value) (x y : Operand) (t : TypeId) (o : Oper) (ho : o.op = .binOp .eql 9 x y t) (hx : E x = strV l) (hy : E y = strV l) (w : World) :
    (execOp E o).run Try.prog w = .ok (.value (.bool true)) w := by
  rw [run_eqs l l hl hl E x y t o ho hx hy w]; simp
/-- the bytes of a slice that comes in, cut to m -/
theorem bytesAt_in {w : World} {a : Option Addr} {len cap : Nat} {zs : List Int} (h : IsRow .u8 w a len cap zs) (m : Nat) : ∃ l, l.length = min len m ∧ BytesAt w a cap l := by
  obtain ⟨l, hl, hR⟩ := rowIn h
  refine ⟨l.take m, by rw [List.length_take, hl]; omega, fun x hx => hR.1 x (List.mem_of_mem_take hx), fun h0 => ?_⟩
  have h0' : 0 < l.length := by rw [List.length_take] at h0; omega
  rcases hR.2 with ⟨h1, h2⟩ | ⟨g, o, cap', sp, h1, h2, h3, h4, h5⟩
  · rw [h2] at h0'; simp at h0'
  · obtain ⟨rfl, hg⟩ := h4 h0'
    cases h1
    refine ⟨g, o, rfl, by rw [List.length_take]; omega, hg, fun j hj => ?_⟩
    rw [List.length_take] at hj
    rw [h5 j (by omega), List.getD_eq_getElem?_getD, List.getD_eq_getElem?_getD, List.getElem?_take_of_lt (by omega)]
theorem row_cap {w : World} {a : Option Addr} {len cap : Nat} {zs : List Int} {k : IntKind} (hrow : IsRow k w a len cap zs) : len ≤ cap ∧ cap ≤ 9223372036854775807 := by
  rcases hrow with ⟨rfl, rfl, rfl, _⟩ | ⟨_, _, h1, h2, _⟩
  · exact ⟨Nat.le_refl _, Nat.zero_le _⟩
  · exact ⟨h1, h2⟩
theorem add_plain (g o j : Nat) : (⟨g, o, none⟩ : Addr).add j = ⟨g, o + j, none⟩ := by
  unfold Addr.add; split
  · next h => subst h; rfl
  · rfl
/-- append(v, bytes...): the bytes may be none, and nil -/
theorem run_append_bytes {w : World} (ty : TypeId) {base n : Nat} {v : Value} {xs : List Value} (hown : w.ownsRow base 5 1 v n xs) {a : Option Addr} {cap m : Nat} {l : List Nat} (hm : l.length = m) (hB : BytesAt w a cap l) (hnil : a = none → cap = 0) (h63 : n + m ≤ 1000000) (hbase : base ≤ w.heap.size) :
    ∃ v' w', (Builtin.append_ #[34, 34] ty #[v, .slice a m cap]).run Try.prog w = .ok v' w' ∧ w'.ownsRow base 5 1 v' (n + m) (xs ++ (bA l).toList) ∧ w.grownBy w' v.ownBlock := by
  obtain ⟨i0, hi, hz0, hz1, hz2⟩ := info_parts u8info
  cases a with
  | none =>
    have hm0 : m = 0 := by
      rcases Nat.eq_zero_or_pos m with h | h
      · exact h
      · obtain ⟨_, _, h1, _⟩ := hB.2 (by omega); cases h1
    have hc := hnil rfl
    subst hm0; subst hc
    have hl : l = [] := List.length_eq_zero_iff.1 hm
    subst hl
    refine ⟨v, w, run_append_owned_none w base 34 ty 5 i0 1 Try.underlying34 hi v n xs hown, ?_, World.grownBy.refl w _⟩
    simpa [bA] using hown
  | some ad =>
    have hnews : ∀ j u, (bA l).toList[j]? = some u → w.cell? (ad.add j) = some u := by
      intro j u hu
      have hj : j < l.length := by
        have := (List.getElem?_eq_some_iff.1 hu).1; simpa [bA] using this
      obtain ⟨g, o, h1, h2, h3, h4⟩ := hB.2 (by omega)
      cases h1
      rw [add_plain, h4 j hj]
      rw [Array.getElem?_toList, bA_get l j hj] at hu
      exact hu
    obtain ⟨v', w', h1, h2, h3, _⟩ := run_append_own_at (P := Try.prog) w base 34 ty 5 i0 _ 1 1 Try.underlying34 hi hz0 hz1 hz2 rfl (by omega) v n xs hown ad m cap (bA l).toList (by simp [bA, hm]) hnews (by simp [bA, Value.oneCell']) (by unfold maxLen; omega) (by omega) hbase
    exact ⟨v', w', h1, h2, h3⟩
theorem wpList_append_bytes {w : World} {ops : Array Oper} {rest : List Oper} {o : Oper} {A : Act} {Q : Exit → Act → World → Prop} (hgd : o.guard = none) (s x : Operand)
    (ho : o.op = .call { callee := .builtin .append, args := #[s, x], argTypes := #[34, 34] }) {base n : Nat} {v : Value} {xs : List Value} (hs : A.eval s = v) (hown : w.ownsRow base 5 1 v n xs)
    {a : Option Addr} {cap m : Nat} {l : List Nat} (hx : A.eval x = .slice a m cap) (hm : l.length = m) (hB : BytesAt w a cap l) (hnil : a = none → cap = 0) (h63 : n + m ≤ 1000000) (hbase : base ≤ w.heap.size)
    (h : ∀ v' w', w'.ownsRow base 5 1 v' (n + m) (xs ++ (bA l).toList) → w.grownBy w' v.ownBlock → wpList Try.prog ops Q rest (A.put o.dst v') w') : wpList Try.prog ops Q (o :: rest) A w :=
  wpList_plain hgd fun _ hK => by
    obtain ⟨v', w', h1, h2, h3⟩ := run_append_bytes o.type hown hm hB hnil h63 hbase
    unfold Oper.wp execOp
    simp only [ho, resolve, invoke, builtin, Sem.run_bind, Sem.run_pure, Result.andThen_ok, List.map_toArray, List.map_cons, List.map_nil, hs, hx, h1]
    exact hK _ _ (h v' w' h2 h3)
def lenV : Value → Nat
  | .slice _ n _ => n
  | _ => 0
theorem rep_next (l : List Nat) (k c : Nat) : (bA (l ++ List.replicate (k + 1) c)).toList = (bA (l ++ List.replicate k c)).toList ++ [.int .u8 (c : Int)] := by
  rw [List.replicate_succ']; simp [bA]
theorem own_none0 {w : World} {base : Nat} (h : base ≤ w.heap.size) : (w.alloc (Obj.cells #[] 5)).ownsRow base 5 1 (.slice (some ⟨w.heap.size, 0, none⟩) 0 0) 0 [] :=
  ⟨rfl, .inr ⟨_, 0, #[], rfl, h, heap_new' _ _, Nat.le_refl _, Nat.zero_le _, rfl, rfl⟩⟩
theorem wpList_conv {w : World} {ops : Array Oper} {rest : List Oper} {o : Oper} {A : Act} {Q : Exit → Act → World → Prop} (hgd : o.guard = none) (x : Operand) {s : Option Addr} {cap n : Nat} {l : List Nat} (hl : l.length = n) (h : BytesAt w s cap l) (ho : o.op = .convert 34 9 x)
    (hx : A.eval x = .slice s n cap) (hK : wpList Try.prog ops Q rest (A.put o.dst (strV l)) w) : wpList Try.prog ops Q (o :: rest) A w :=
  wpList_plain hgd fun _ hk => wp_conv x hl h ho hx (hk _ _ hK)
theorem wpList_eqs {w : World} {ops : Array Oper} {rest : List Oper} {o : Oper} {A : Act} {Q : Exit → Act → World → Prop} (hgd : o.guard = none) (x y : Operand) (t : TypeId) (l m : List Nat) (hl : ∀ x ∈ l, x < 256) (hm : ∀ x ∈ m, x < 256) (ho : o.op = .binOp .eql 9 x y t)
    (hx : A.eval x = strV l) (hy : A.eval y = strV m) (hK : wpList Try.prog ops Q rest (A.put o.dst (.bool (decide (l = m)))) w) : wpList Try.prog ops Q (o :: rest) A w :=
  wpList_plain hgd fun _ hk => by
    unfold Oper.wp
    rw [run_eqs l m hl hm A.eval x y t o ho hx hy w]
    exact hk _ _ hK
set_option maxRecDepth 100000 in
theorem equal_c (a1 a2 : Option Addr) (c1 c2 n : Nat) (l1 l2 : List Nat) (e1 : l1.length = n) (e2 : l2.length = n) (w : World) (h1 : BytesAt w a1 c1 l1) (h2 : BytesAt w a2 c2 l2) :
    Calls Try.prog 49 #[.slice a1 n c1, .slice a2 n c2] w fun e w' => e = .returned (.bool (decide (l1 = l2))) ∧ w = w' := by
  have H1 := Lib.hid h1
  have H2 := Lib.hid h2
  have HE := Lib.hid e1
  have HE2 := Lib.hid e2
  have hlt1 := h1.1
  have hlt2 := h2.1
  have HLT := Lib.hid (And.intro hlt1 hlt2)
  clear h1 h2 e1 e2 hlt1 hlt2
  go_enter Try.func49, Try.ntmps49
  go_wp2_with (first
    | (refine wpList_conv rfl (.tmp 5) HE.out H1.out rfl rfl ?_)
    | (refine wpList_conv rfl (.tmp 7) HE2.out H2.out rfl rfl ?_)
    | (refine wpList_eqs rfl (.tmp 6) (.tmp 8) 9 l1 l2 HLT.out.1 HLT.out.2 rfl rfl rfl ?_)
    | fail)
  go_ret
  exact ⟨rfl, rfl⟩
theorem own_keep {w w' : World} {base : Nat} {e : TypeId} {size : Nat} {v : Value} {n : Nat} {xs : List Value} (h : w.ownsRow base e size v n xs) (hk : ∀ k, v.ownBlock = some k → w'.heap[k]? = w.heap[k]?) : w'.ownsRow base e size v n xs := by
  refine ⟨h.1, ?_⟩
  rcases h.2 with h2 | ⟨g, cap, cur, rfl, h3, hg, h4⟩
  · exact .inl h2
  · exact .inr ⟨g, cap, cur, rfl, h3, (hk g rfl).trans hg, h4⟩
theorem bytes_keep {w w' : World} {a : Option Addr} {cap : Nat} {l : List Nat} (hB : BytesAt w a cap l) (hk : ∀ g o, a = some ⟨g, o, none⟩ → g < w.heap.size → w'.heap[g]? = w.heap[g]?) : BytesAt w' a cap l := by
  refine ⟨hB.1, fun h0 => ?_⟩
  obtain ⟨g, o, h1, h2, h3, h4⟩ := hB.2 h0
  have he := hk g o h1 h3
  refine ⟨g, o, h1, h2, ?_, fun j hj => ?_⟩
  · have := he.trans (Array.getElem?_eq_getElem h3)
    exact (Array.getElem?_eq_some_iff.1 this).1
  · rw [← h4 j hj]; simp [World.cell?, he]
theorem own_mono {w : World} {base base2 : Nat} {e : TypeId} {size : Nat} {v : Value} {n : Nat} {xs : List Value} (h : w.ownsRow base e size v n xs) (hb : base2 ≤ base) : w.ownsRow base2 e size v n xs := by
  refine ⟨h.1, ?_⟩
  rcases h.2 with h2 | ⟨g, cap, cur, rfl, h3, h4⟩
  · exact .inl h2
  · exact .inr ⟨g, cap, cur, rfl, Nat.le_trans hb h3, h4⟩
theorem bA_app (a b : List Nat) : (bA a).toList ++ (bA b).toList = (bA (a ++ b)).toList := by simp [bA]
/-- the bytes of a row -/
theorem own_bytes {w : World} {base : Nat} {v : Value} {n : Nat} {l : List Nat} (hl : ∀ x ∈ l, x < 256) (h : w.ownsRow base 5 1 v n (bA l).toList) : ∃ a cap, v = .slice a n cap ∧ BytesAt w a cap l ∧ l.length = n ∧ n ≤ cap ∧ cap ≤ maxLen ∧ (a = none → cap = 0) ∧ (∀ g o z, a = some ⟨g, o, z⟩ → base ≤ g ∧ o = 0 ∧ z = none ∧ v.ownBlock = some g ∧ g < w.heap.size) := by
  have hln : l.length = n := by have := h.1; simpa [bA] using this
  rcases h.2 with ⟨rfl, rfl⟩ | ⟨g, cap, cur, rfl, h3, hg, h4, h5, h6, h7⟩
  · exact ⟨none, 0, rfl, ⟨hl, fun h0 => by omega⟩, hln, Nat.le_refl _, Nat.zero_le _, fun _ => rfl, (fun _ _ _ h => by cases h)⟩
  · refine ⟨_, cap, rfl, ⟨hl, fun h0 => ⟨g, 0, rfl, by omega, lt_of_block hg, fun j hj => ?_⟩⟩, hln, h4, h5, (fun h => by cases h), fun g' o z h => ?_⟩
    · rw [Nat.zero_add, cells_at hg j]
      have := congrArg (fun l => l[j]?) h7
      simp only [Nat.mul_one] at *
      rw [List.getElem?_take_of_lt (by omega), Array.getElem?_toList, Array.getElem?_toList, bA_get _ j hj] at *
      assumption
    · cases h
      exact ⟨h3, rfl, rfl, rfl, lt_of_block hg⟩
theorem own_up {w w' : World} {base : Nat} {e : TypeId} {size : Nat} {v : Value} {n : Nat} {xs : List Value} (h : w.ownsRow base e size v n xs) (hb : Below w.heap.size w w') : w'.ownsRow base e size v n xs :=
  h.kept (row := none) ⟨hb.os, hb.tape, hb.output, hb.size, fun k hk _ => hb.block k hk⟩ (by
    cases h : v.ownBlock with
    | none => exact .inl rfl
    | some k => exact .inr (by simp))
theorem own_slice {w : World} {base : Nat} {v : Value} {n : Nat} {xs : List Value} (h : w.ownsRow base 5 1 v n xs) : ∃ a cap, v = .slice a n cap := by
  rcases h.2 with ⟨rfl, rfl⟩ | ⟨g, cap, cur, rfl, _⟩
  · exact ⟨none, 0, rfl⟩
  · exact ⟨_, cap, rfl⟩
theorem bA_one (l : List Nat) : (bA l).all (·.oneCell') = true := by
  rw [← Array.all_toList]; simp [bA, Value.oneCell']
theorem own_sliceR {w : World} {base : Nat} {v : Value} {n : Nat} {xs : List Value} {e : TypeId} {size : Nat} (h : w.ownsRow base e size v n xs) : ∃ a cap, v = .slice a n cap := by
  rcases h.2 with ⟨rfl, rfl⟩ | ⟨g, cap, cur, rfl, _⟩
  · exact ⟨none, 0, rfl⟩
  · exact ⟨_, cap, rfl⟩
theorem own_take {w : World} {base g n c m : Nat} {l : List Nat} (h : w.ownsRow base 5 1 (.slice (some ⟨g, 0, none⟩) n c) n (bA l).toList) (hm : m ≤ n) : w.ownsRow base 5 1 (.slice (some ⟨g, 0, none⟩) m c) m (bA (l.take m)).toList := by
  have hln : l.length = n := by have := h.1; simpa [bA] using this
  refine ⟨by simp [bA]; omega, .inr ?_⟩
  rcases h.2 with ⟨h2, _⟩ | ⟨g', c', cur, h2, h3, h4, h5, h6, h7, h8⟩
  · cases h2
  · injection h2 with e1 _ e2
    cases e1
    subst e2
    refine ⟨g, c, cur, rfl, h3, h4, by omega, h6, h7, ?_⟩
    rw [Nat.mul_one] at h8 ⊢
    have : cur.toList.take m = (cur.toList.take n).take m := by rw [List.take_take, Nat.min_eq_left hm]
    rw [this, h8]
    simp [bA, List.map_take]
theorem wpList_met {P : Program} {ops : Array Oper} {Q : Exit → Act → World → Prop} {a : Act} {w : World} {rest : List Oper} {o : Oper} (hw : Region.wanted o (yielded ops a.tmps) = true)
    (h : ∀ K : Act → World → Prop, (∀ a w, wpList P ops Q rest a w → K a w) → o.wp P a w K Q) : wpList P ops Q (o :: rest) a w :=
  wpList_step fun K hK => by simp only [hw, if_true]; exact h K hK
theorem wpList_load_mid_g {P : Program} {ops : Array Oper} {rest : List Oper} {op : Oper} {a : Act} {w : World} {Q : Exit → Act → World → Prop} (hw : Region.wanted op (yielded ops a.tmps) = true) (ty : TypeId) (x : Operand) (ho : op.op = .load ty x)
    (b o : Nat) (hx : a.eval x = .pointer (some ⟨b, o, none⟩)) (cs : List Value) (d : TypeDesc) (hc : w.rangeAt b o cs)
    (hu : P.underlying ty = some d) (hd : d.isRow = true) (hi : (P.info? ty).map (·.size) = some cs.length)
    (h : wpList P ops Q rest (a.put op.dst (.agg cs.toArray)) w) : wpList P ops Q (op :: rest) a w :=
  wpList_met hw fun _ hK => wp_load_mid ty x ho b o hx cs d hc hu hd hi (hK _ _ h)
theorem range_row {w : World} {g : Nat} {A : Array Value} {t : TypeId} (h : w.heap[g]? = some (.cells A t (0, 0))) : w.rangeAt g 0 A.toList := by
  intro j u hu
  rw [cells_at h (0 + j), Nat.zero_add, ← hu, Array.getElem?_toList]
theorem own_some {w : World} {base : Nat} {v : Value} {n : Nat} {xs : List Value} {e : TypeId} {size : Nat} (h : w.ownsRow base e size v n xs) (hn : 0 < n) : ∃ g cap, v = .slice (some ⟨g, 0, none⟩) n cap ∧ base ≤ g ∧ g < w.heap.size := by
  rcases h.2 with ⟨_, h2⟩ | ⟨g, cap, cur, rfl, h3, h4, _⟩
  · omega
  · exact ⟨g, cap, rfl, h3, lt_of_block h4⟩
theorem bytes_takeM {w : World} {a : Option Addr} {cap : Nat} {l : List Nat} (h : BytesAt w a cap l) (m : Nat) : BytesAt w a cap (l.take m) := by
  refine ⟨fun x hx => h.1 x (List.mem_of_mem_take hx), fun h0 => ?_⟩
  have hl : (l.take m).length ≤ l.length := by rw [List.length_take]; omega
  obtain ⟨g, o, h1, h2, h3, h4⟩ := h.2 (by omega)
  refine ⟨g, o, h1, by omega, h3, fun j hj => ?_⟩
  rw [h4 j (by omega), List.getD_eq_getElem?_getD, List.getD_eq_getElem?_getD, List.getElem?_take_of_lt (by rw [List.length_take] at hj; omega)]
theorem run_neqs (l m : List Nat) (hl : ∀ x ∈ l, x < 256) (hm : ∀ x ∈ m, x < 256) (E : Operand → Value) (x y : Operand) (t : TypeId) (o : Oper) (ho : o.op = .binOp .neq 9 x y t) (hx : E x = strV l) (hy : E y = strV m) (w : World) :
    (execOp E o).run Try.prog w = .ok (.value (.bool (!decide (l = m)))) w := by
  have key : (l.map UInt8.ofNat == m.map UInt8.ofNat) = decide (l = m) := by
    by_cases h : l = m
    · subst h; simp
    · have hne : l.map UInt8.ofNat ≠ m.map UInt8.ofNat := fun h' => h (strV_inj hl hm h')
      simp [h, hne]
  unfold execOp
  simp only [ho, hx, hy]
  unfold strV
  go_simp
def subO (o cap l : Nat) : Nat := if cap = l then o else o + l
theorem run_sub (g o len cap l h : Nat) (hl : l ≤ h) (hh : h ≤ cap) (w : World) :
    (Instr.sliceAt 34 (.slice (some ⟨g, o, none⟩) len cap) (some (.int .i64 (l : Int))) (some (.int .i64 (h : Int))) none).run Try.prog w = .ok (.slice (some ⟨g, subO o cap l, none⟩) (h - l) (cap - l)) w := by
  obtain ⟨i0, hi, hz0, hz1, hz2⟩ := info_parts u8info
  have he : Try.prog.elem 34 = 5 := by kernel_rfl
  have hu : Try.prog.underlying 34 = some (.slice (Try.prog.elem 34)) := by rw [he]; exact Try.underlying34
  rw [run_sliceAt_slice (h := hu), run_slice_lh (ht := hu) (h0 := by omega) (h1 := by omega) (h2 := by omega)]
  rw [he, run_sizeOf (w := w) hi, show Try.prog.cellsOf 5 = 1 from (by kernel_rfl)]
  simp only [Result.andThen_ok, sliced, Int.toNat_natCast, Nat.mul_one]
  unfold subO
  split
  · rfl
  · simp only [Option.map_some]; rw [add_plain]
theorem run_sub_op {g o len cap l h : Nat} (hl : l ≤ h) (hh : h ≤ cap) (E : Operand → Value) (x y z : Operand) (op : Oper) (ho : op.op = .slice 34 x (some y) (some z) none) (hx : E x = .slice (some ⟨g, o, none⟩) len cap) (hy : E y = .int .i64 (l : Int)) (hz : E z = .int .i64 (h : Int)) (w : World) :
    (execOp E op).run Try.prog w = .ok (.value (.slice (some ⟨g, subO o cap l, none⟩) (h - l) (cap - l))) w := by
  unfold execOp
  simp only [ho, Option.map_some, Option.map_none, hx, hy, hz, Sem.run_bind, run_sub g o len cap l h hl hh w, Result.andThen_ok]
  rfl
theorem wpList_sub {w : World} {ops : Array Oper} {rest : List Oper} {op : Oper} {A : Act} {Q : Exit → Act → World → Prop} (hgd : op.guard = none) {g o len cap l h : Nat} (x y z : Operand) (ho : op.op = .slice 34 x (some y) (some z) none) (hx : A.eval x = .slice (some ⟨g, o, none⟩) len cap) (hy : A.eval y = .int .i64 (l : Int)) (hz : A.eval z = .int .i64 (h : Int))
    (hl : l ≤ h) (hh : h ≤ cap) (hK : wpList Try.prog ops Q rest (A.put op.dst (.slice (some ⟨g, subO o cap l, none⟩) (h - l) (cap - l))) w) : wpList Try.prog ops Q (op :: rest) A w :=
  wpList_plain hgd fun _ hk => by
    unfold Oper.wp
    rw [run_sub_op hl hh A.eval x y z op ho hx hy hz w]
    exact hk _ _ hK
theorem BytesAt.sub {w : World} {g o cap : Nat} {l : List Nat} (h : BytesAt w (some ⟨g, o, none⟩) cap l) {lo hi : Nat} (hl : lo ≤ hi) (hh : hi ≤ l.length) : BytesAt w (some ⟨g, subO o cap lo, none⟩) (cap - lo) ((l.drop lo).take (hi - lo)) := by
  have hn : ((l.drop lo).take (hi - lo)).length = hi - lo := by rw [List.length_take, List.length_drop]; omega
  refine ⟨fun x hx => h.1 x (List.mem_of_mem_drop (List.mem_of_mem_take hx)), fun h0 => ?_⟩
  rw [hn] at h0
  obtain ⟨g', o', e1, h2, h3, h4⟩ := h.2 (by omega)
  cases e1
  have hs : subO o cap lo = o + lo := by unfold subO; rw [if_neg (by omega)]
  refine ⟨g, o + lo, by rw [hs], by rw [hn]; omega, h3, fun j hj => ?_⟩
  rw [hn] at hj
  rw [Nat.add_assoc, h4 (lo + j) (by omega), List.getD_eq_getElem?_getD, List.getD_eq_getElem?_getD, List.getElem?_take_of_lt hj, List.getElem?_drop]
theorem results_row_tmp {P : Program} {fn : Func} {p u : Tmp} {ty : TypeId} (h : fn.results = #[.cell p ty, .tmp u]) (tmps : Array Value) (w : World) (g : Nat) (t : TypeId) (cs : Array Value) (fr : Nat × Nat) (d : TypeDesc)
    (hp : tmps.getD p undef = .pointer (some ⟨g, 0, none⟩)) (hg : w.heap[g]? = some (.cells cs t fr))
    (hu : P.underlying ty = some d) (hd : (match d with | .struct _ | .array _ _ => true | _ => false) = true) (hi : (P.info? ty).map (·.size) = some cs.size) :
    (results fn tmps).run P w = .ok (.tuple #[.agg cs, tmps.getD u undef]) w := by
  have hp' : tmps[p]?.getD undef = .pointer (some ⟨g, 0, none⟩) := by simpa using hp
  simp [results, h, hp', asAddr, run_loadVar_row w g t ty cs fr d hg hu hd hi]
end Go.Proofs.Ytpbmjfjnmcpieaa
