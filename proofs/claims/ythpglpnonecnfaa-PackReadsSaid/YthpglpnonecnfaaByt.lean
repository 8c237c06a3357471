/- Bytes in memory: rows of bytes, append, clone, equal, strings. Moved here from Xor, App, CBack, SealA. -/
import Derived.Test.YthpglpnonecnfaaArrOpen
import Derived.Test.YthpglpnonecnfaaCtrA
import Derived.Laws.BytesString
import Derived.Laws.IdiomStrings
import Derived.Lib.BufferRead
import Derived.Maps.AppendAt
set_option linter.unusedVariables false
set_option linter.unusedSimpArgs false
namespace Go.Proofs.Ythpglpnonecnfaa
open Go Go.RowKit
/-- n bytes behind an address, if there are any -/
def BytesAt (w : World) (a : Option Addr) (cap : Nat) (l : List Nat) : Prop :=
  (∀ x ∈ l, x < 256) ∧ (0 < l.length → ∃ g o, a = some ⟨g, o, none⟩ ∧ l.length ≤ cap ∧ g < w.heap.size ∧ ∀ j, j < l.length → w.cell? ⟨g, o + j, none⟩ = some (.int .u8 ((l.getD j 0 : Nat) : Int)))
theorem BytesAt.up {w w' : World} {a : Option Addr} {cap : Nat} {l : List Nat} (h : BytesAt w a cap l) {B : Nat} (hb : Below B w w') (hB : w.heap.size ≤ B) : BytesAt w' a cap l := by
  refine ⟨h.1, fun h0 => ?_⟩
  obtain ⟨g, o, h1, h2, h3, h4⟩ := h.2 h0
  exact ⟨g, o, h1, h2, Nat.lt_of_lt_of_le h3 hb.size, fun j hj => (hb.cell (p := ⟨g, o + j, none⟩) (Nat.lt_of_lt_of_le h3 hB)).trans (h4 j hj)⟩
theorem getD_lt {l : List Nat} (h : ∀ x ∈ l, x < 256) (j : Nat) : l.getD j 0 < 256 := by
  rw [List.getD_eq_getElem?_getD]
  rcases Nat.lt_or_ge j l.length with hj | hj
  · rw [List.getElem?_eq_getElem hj]; exact h _ (List.getElem_mem _)
  · rw [List.getElem?_eq_none hj]; decide
theorem bytesAt_block {w : World} {q : Nat} {l : List Nat} {z : Nat × Nat} (hb : ∀ x ∈ l, x < 256) (h : w.heap[q]? = some (.cells (bA l) 5 z)) : BytesAt w (some ⟨q, 0, none⟩) l.length l :=
  ⟨hb, fun _ => ⟨q, 0, rfl, Nat.le_refl _, lt_of_block h, fun j hj => by rw [Nat.zero_add, cells_at h j, bA_get l j hj]⟩⟩
/-- bytes as a string's value -/
def strV (l : List Nat) : Value := .string ⟨(l.map UInt8.ofNat).toArray⟩
theorem run_conv {w : World} {a : Option Addr} {cap : Nat} {l : List Nat} (h : BytesAt w a cap l) : (convert 27 9 (.slice a l.length cap)).run Try.prog w = .ok (strV l) w := by
  by_cases h0 : l.length = 0
  · have hl : l = [] := List.length_eq_zero_iff.1 h0
    subst hl
    rw [run_convert_bytes_string w _ _ 5 a _ cap Try.underlying27 Try.underlying5 Try.underlying9]
    cases a with
    | none => simp [Conv.bytesToString, strV]; rfl
    | some p =>
      have := run_bytesToString (P := Try.prog) w p 0 cap [] (by simp [loadCells]; rfl)
      simp only [List.length_nil]
      rw [this]; rfl
  · obtain ⟨g, o, rfl, h2, h3, h4⟩ := h.2 (by omega)
    have := run_convert_bytes_back (P := Try.prog) w 27 9 5 ⟨g, o, none⟩ cap (l.map UInt8.ofNat) Try.underlying27 Try.underlying5 Try.underlying9 (fun j hj => by
      have hj' : j < l.length := by simpa using hj
      have e1 : (⟨g, o, none⟩ : Addr).add j = ⟨g, o + j, none⟩ := by
        unfold Addr.add; split
        · next h => subst h; rfl
        · rfl
      have hlt := h.1 _ (List.getElem_mem (l := l) (h := hj'))
      rw [e1, h4 j hj', List.getD_eq_getElem?_getD, List.getElem?_eq_getElem hj']
      simp [Nat.mod_eq_of_lt hlt])
    rw [List.length_map] at this
    exact this
theorem run_conv_op {w : World} {a : Option Addr} {cap n : Nat} {l : List Nat} (hl : l.length = n) (h : BytesAt w a cap l) (E : Operand → Value) (x : Operand) (o : Oper) (ho : o.op = .convert 27 9 x) (hx : E x = .slice a n cap) :
    (execOp E o).run Try.prog w = .ok (.value (strV l)) w := by
  subst hl
  unfold execOp
  simp only [ho, hx, Sem.run_bind, run_conv h, Result.andThen_ok]
  rfl
theorem wp_conv {o : Oper} {a : Act} {w : World} {K : Act → World → Prop} {Q : Exit → Act → World → Prop} (x : Operand) {s : Option Addr} {cap n : Nat} {l : List Nat} (hl : l.length = n) (h : BytesAt w s cap l) (ho : o.op = .convert 27 9 x)
    (hx : a.eval x = .slice s n cap) (hK : K (a.put o.dst (strV l)) w) : o.wp Try.prog a w K Q := by
  unfold Oper.wp
  rw [run_conv_op hl h a.eval x o ho hx]
  exact hK
theorem strV_inj {l m : List Nat} (hl : ∀ x ∈ l, x < 256) (hm : ∀ x ∈ m, x < 256) (h : l.map UInt8.ofNat = m.map UInt8.ofNat) : l = m := by
  have e : ∀ k : List Nat, (∀ x ∈ k, x < 256) → (k.map UInt8.ofNat).map UInt8.toNat = k := by
    intro k hk
    rw [List.map_map]
    conv => rhs; rw [← List.map_id k]
    apply List.map_congr_left
    intro x hx
    simp [Nat.mod_eq_of_lt (hk x hx)]
  rw [← e l hl, ← e m hm, h]
theorem eq_strV (l m : List Nat) (hl : ∀ x ∈ l, x < 256) (hm : ∀ x ∈ m, x < 256) (w : World) : (binOp .eql 9 (strV l) (strV m)).run Try.prog w = .ok (.bool (decide (l = m))) w := by
  have key : (l.map UInt8.ofNat == m.map UInt8.ofNat) = decide (l = m) := by
    by_cases h : l = m
    · subst h; simp
    · have hne : l.map UInt8.ofNat ≠ m.map UInt8.ofNat := fun h' => h (strV_inj hl hm h')
      simp [h, hne]
  unfold strV
  go_simp
  done
theorem run_eqs (l m : List Nat) (hl : ∀ x ∈ l, x < 256) (hm : ∀ x ∈ m, x < 256) (E : Operand → Value) (x y : Operand) (t : TypeId) (o : Oper) (ho : o.op = .binOp .eql 9 x y t) (hx : E x = strV l) (hy : E y = strV m) (w : World) :
    (execOp E o).run Try.prog w = .ok (.value (.bool (decide (l = m)))) w := by
  have key : (l.map UInt8.ofNat == m.map UInt8.ofNat) = decide (l = m) := by
    by_cases h : l = m
    · subst h; simp
    · have hne : l.map UInt8.ofNat ≠ m.map UInt8.ofNat := fun h' => h (strV_inj hl hm h')
      simp [h, hne]
  unfold execOp
  simp only [ho, hx, hy]
  unfold strV
  go_simp
theorem run_eqs1 (l : List Nat) (hl : ∀ x ∈ l, x < 256) (E : Operand → Value) (x y : Operand) (t : TypeId) (o : Oper) (ho : o.op = .binOp .eql 9 x y t) (hx : E x = strV l) (hy : E y = strV l) (w : World) :
    (execOp E o).run Try.prog w = .ok (.value (.bool true)) w := by
  rw [run_eqs l l hl hl E x y t o ho hx hy w]; simp
/-- the bytes of a slice that comes in, cut to m -/
theorem bytesAt_in {w : World} {a : Option Addr} {len cap : Nat} {zs : List Int} (h : IsRow .u8 w a len cap zs) (m : Nat) : ∃ l, l.length = min len m ∧ BytesAt w a cap l := by
  obtain ⟨l, hl, hR⟩ := rowIn h
  refine ⟨l.take m, by rw [List.length_take, hl]; omega, fun x hx => hR.1 x (List.mem_of_mem_take hx), fun h0 => ?_⟩
  have h0' : 0 < l.length := by rw [List.length_take] at h0; omega
  rcases hR.2 with ⟨h1, h2⟩ | ⟨g, o, cap', sp, h1, h2, h3, h4, h5⟩
  · rw [h2] at h0'; simp at h0'
  · obtain ⟨rfl, hg⟩ := h4 h0'
    cases h1
    refine ⟨g, o, rfl, by rw [List.length_take]; omega, hg, fun j hj => ?_⟩
    rw [List.length_take] at hj
    rw [h5 j (by omega), List.getD_eq_getElem?_getD, List.getD_eq_getElem?_getD, List.getElem?_take_of_lt (by omega)]
theorem row_cap {w : World} {a : Option Addr} {len cap : Nat} {zs : List Int} {k : IntKind} (hrow : IsRow k w a len cap zs) : len ≤ cap ∧ cap ≤ 9223372036854775807 := by
  rcases hrow with ⟨rfl, rfl, rfl, _⟩ | ⟨_, _, h1, h2, _⟩
  · exact ⟨Nat.le_refl _, Nat.zero_le _⟩
  · exact ⟨h1, h2⟩
theorem add_plain (g o j : Nat) : (⟨g, o, none⟩ : Addr).add j = ⟨g, o + j, none⟩ := by
  unfold Addr.add; split
  · next h => subst h; rfl
  · rfl
/-- append(v, bytes...): the bytes may be none, and nil -/
theorem run_append_bytes {w : World} (ty : TypeId) {base n : Nat} {v : Value} {xs : List Value} (hown : w.ownsRow base 5 1 v n xs) {a : Option Addr} {cap m : Nat} {l : List Nat} (hm : l.length = m) (hB : BytesAt w a cap l) (hnil : a = none → cap = 0) (h63 : n + m ≤ 1000000) (hbase : base ≤ w.heap.size) :
    ∃ v' w', (Builtin.append_ #[27, 27] ty #[v, .slice a m cap]).run Try.prog w = .ok v' w' ∧ w'.ownsRow base 5 1 v' (n + m) (xs ++ (bA l).toList) ∧ w.grownBy w' v.ownBlock := by
  obtain ⟨i0, hi, hz0, hz1, hz2⟩ := info_parts u8info
  cases a with
  | none =>
    have hm0 : m = 0 := by
      rcases Nat.eq_zero_or_pos m with h | h
      · exact h
      · obtain ⟨_, _, h1, _⟩ := hB.2 (by omega); cases h1
    have hc := hnil rfl
    subst hm0; subst hc
    have hl : l = [] := List.length_eq_zero_iff.1 hm
    subst hl
    refine ⟨v, w, run_append_owned_none w base 27 ty 5 i0 1 Try.underlying27 hi v n xs hown, ?_, World.grownBy.refl w _⟩
    simpa [bA] using hown
  | some ad =>
    have hnews : ∀ j u, (bA l).toList[j]? = some u → w.cell? (ad.add j) = some u := by
      intro j u hu
      have hj : j < l.length := by
        have := (List.getElem?_eq_some_iff.1 hu).1; simpa [bA] using this
      obtain ⟨g, o, h1, h2, h3, h4⟩ := hB.2 (by omega)
      cases h1
      rw [add_plain, h4 j hj]
      rw [Array.getElem?_toList, bA_get l j hj] at hu
      exact hu
    obtain ⟨v', w', h1, h2, h3, _⟩ := run_append_own_at (P := Try.prog) w base 27 ty 5 i0 _ 1 1 Try.underlying27 hi hz0 hz1 hz2 rfl (by omega) v n xs hown ad m cap (bA l).toList (by simp [bA, hm]) hnews (by simp [bA, Value.oneCell']) (by unfold maxLen; omega) (by omega) hbase
    exact ⟨v', w', h1, h2, h3⟩
theorem wpList_append_bytes {w : World} {ops : Array Oper} {rest : List Oper} {o : Oper} {A : Act} {Q : Exit → Act → World → Prop} (hgd : o.guard = none) (s x : Operand)
    (ho : o.op = .call { callee := .builtin .append, args := #[s, x], argTypes := #[27, 27] }) {base n : Nat} {v : Value} {xs : List Value} (hs : A.eval s = v) (hown : w.ownsRow base 5 1 v n xs)
    {a : Option Addr} {cap m : Nat} {l : List Nat} (hx : A.eval x = .slice a m cap) (hm : l.length = m) (hB : BytesAt w a cap l) (hnil : a = none → cap = 0) (h63 : n + m ≤ 1000000) (hbase : base ≤ w.heap.size)
    (h : ∀ v' w', w'.ownsRow base 5 1 v' (n + m) (xs ++ (bA l).toList) → w.grownBy w' v.ownBlock → wpList Try.prog ops Q rest (A.put o.dst v') w') : wpList Try.prog ops Q (o :: rest) A w :=
  wpList_plain hgd fun _ hK => by
    obtain ⟨v', w', h1, h2, h3⟩ := run_append_bytes o.type hown hm hB hnil h63 hbase
    unfold Oper.wp execOp
    simp only [ho, resolve, invoke, builtin, Sem.run_bind, Sem.run_pure, Result.andThen_ok, List.map_toArray, List.map_cons, List.map_nil, hs, hx, h1]
    exact hK _ _ (h v' w' h2 h3)
def lenV : Value → Nat
  | .slice _ n _ => n
  | _ => 0
theorem rep_next (l : List Nat) (k c : Nat) : (bA (l ++ List.replicate (k + 1) c)).toList = (bA (l ++ List.replicate k c)).toList ++ [.int .u8 (c : Int)] := by
  rw [List.replicate_succ']; simp [bA]
theorem own_none0 {w : World} {base : Nat} (h : base ≤ w.heap.size) : (w.alloc (Obj.cells #[] 5)).ownsRow base 5 1 (.slice (some ⟨w.heap.size, 0, none⟩) 0 0) 0 [] :=
  ⟨rfl, .inr ⟨_, 0, #[], rfl, h, heap_new' _ _, Nat.le_refl _, Nat.zero_le _, rfl, rfl⟩⟩
theorem wpList_conv {w : World} {ops : Array Oper} {rest : List Oper} {o : Oper} {A : Act} {Q : Exit → Act → World → Prop} (hgd : o.guard = none) (x : Operand) {s : Option Addr} {cap n : Nat} {l : List Nat} (hl : l.length = n) (h : BytesAt w s cap l) (ho : o.op = .convert 27 9 x)
    (hx : A.eval x = .slice s n cap) (hK : wpList Try.prog ops Q rest (A.put o.dst (strV l)) w) : wpList Try.prog ops Q (o :: rest) A w :=
  wpList_plain hgd fun _ hk => wp_conv x hl h ho hx (hk _ _ hK)
theorem wpList_eqs {w : World} {ops : Array Oper} {rest : List Oper} {o : Oper} {A : Act} {Q : Exit → Act → World → Prop} (hgd : o.guard = none) (x y : Operand) (t : TypeId) (l m : List Nat) (hl : ∀ x ∈ l, x < 256) (hm : ∀ x ∈ m, x < 256) (ho : o.op = .binOp .eql 9 x y t)
    (hx : A.eval x = strV l) (hy : A.eval y = strV m) (hK : wpList Try.prog ops Q rest (A.put o.dst (.bool (decide (l = m)))) w) : wpList Try.prog ops Q (o :: rest) A w :=
  wpList_plain hgd fun _ hk => by
    unfold Oper.wp
    rw [run_eqs l m hl hm A.eval x y t o ho hx hy w]
    exact hk _ _ hK
set_option maxRecDepth 100000 in
theorem clone_c (q o cap n : Nat) (l : List Nat) (e1 : l.length = n) (hn : n ≤ 65536) (w : World) (h1 : BytesAt w (some ⟨q, o, none⟩) cap l) (h0 : 0 < n) :
    Calls Try.prog 37 #[.slice (some ⟨q, o, none⟩) n cap] w fun e w' => ∃ g cp, e = .returned (.slice (some ⟨g, 0, none⟩) n cp) ∧ w.heap.size ≤ g ∧ BytesAt w' (some ⟨g, 0, none⟩) cp l ∧ Below w.heap.size w w' := by
  have HE := Lib.hid e1
  have HOWN0 : Hid ((w.alloc (Obj.cells #[] 5)).ownsRow w.heap.size 5 1 (.slice (some ⟨w.heap.size, 0, none⟩) 0 0) 0 []) := own_none0 (Nat.le_refl _)
  have HBE0 : Hid (Below w.heap.size w (w.alloc (Obj.cells #[] 5))) := (Below.refl _ _).alloc (Nat.le_refl _) _
  have HB0 : Hid (BytesAt (w.alloc (Obj.cells #[] 5)) (some ⟨q, o, none⟩) cap l) := h1.up HBE0.out (Nat.le_refl _)
  have hnn : ∀ w : World, (binOp .eql 27 (.slice (some ⟨q, o, none⟩) n cap) (.slice none 0 0)).run Try.prog w = .ok (.bool false) w := fun w => by first | rfl | kernel_rfl | (simp [binOp, Op.equal]; done)
  clear h1 e1
  go_enter Try.func37, Try.ntmps37
  go_wp2_with (first
    | (refine wpList_append_bytes (v := .slice (some ⟨w.heap.size, 0, none⟩) 0 0) (base := w.heap.size) (n := 0) (xs := []) rfl (.tmp 5) (.tmp 6) rfl rfl HOWN0.out rfl HE.out HB0.out (fun h => by cases h) (by omega) (by rw [World.size_alloc]; omega) ?_; intro v1 w1 hown1 hgrow1; have HOWN1 := Lib.hid hown1; have HBEL : Hid (Below w.heap.size w w1) := HBE0.out.grown hgrow1 (by rw [World.size_alloc]; omega) (fun q e => by simp [Value.ownBlock] at e; omega); clear hown1 hgrow1)
    | fail)
  go_ret
  have hown := HOWN1.out
  rw [Nat.zero_add, List.nil_append] at hown
  rcases hown.2 with ⟨_, h⟩ | ⟨g', cap', cur, h, e2, e3, e4, e5, e6, e7⟩
  · omega
  · subst h
    refine ⟨g', cap', rfl, e2, ⟨HB0.out.1, fun _ => ⟨g', 0, rfl, by have := HE.out; omega, lt_of_block e3, fun j hj => ?_⟩⟩, HBEL.out⟩
    rw [Nat.zero_add, cells_at e3 j]
    have := congrArg (fun l => l[j]?) e7
    have := HE.out
    simp only [Nat.mul_one] at *
    rw [List.getElem?_take_of_lt (by omega), Array.getElem?_toList, Array.getElem?_toList, bA_get _ j hj] at *
    assumption
set_option maxRecDepth 100000 in
theorem equal_c (a1 a2 : Option Addr) (c1 c2 n : Nat) (l1 l2 : List Nat) (e1 : l1.length = n) (e2 : l2.length = n) (w : World) (h1 : BytesAt w a1 c1 l1) (h2 : BytesAt w a2 c2 l2) :
    Calls Try.prog 28 #[.slice a1 n c1, .slice a2 n c2] w fun e w' => e = .returned (.bool (decide (l1 = l2))) ∧ w = w' := by
  have H1 := Lib.hid h1
  have H2 := Lib.hid h2
  have HE := Lib.hid e1
  have HE2 := Lib.hid e2
  have hlt1 := h1.1
  have hlt2 := h2.1
  have HLT := Lib.hid (And.intro hlt1 hlt2)
  clear h1 h2 e1 e2 hlt1 hlt2
  go_enter Try.func28, Try.ntmps28
  go_wp2_with (first
    | (refine wpList_conv rfl (.tmp 5) HE.out H1.out rfl rfl ?_)
    | (refine wpList_conv rfl (.tmp 7) HE2.out H2.out rfl rfl ?_)
    | (refine wpList_eqs rfl (.tmp 6) (.tmp 8) 9 l1 l2 HLT.out.1 HLT.out.2 rfl rfl rfl ?_)
    | fail)
  go_ret
  exact ⟨rfl, rfl⟩
end Go.Proofs.Ythpglpnonecnfaa
