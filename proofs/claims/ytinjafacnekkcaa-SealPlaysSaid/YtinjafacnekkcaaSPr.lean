/- Texts StRow, put together by pack.py. -/
import Derived.Test.YtinjafacnekkcaaSPq
import Derived.Test.YtinjafacnekkcaaSPa
import Derived.Great.BuildSlice
import Derived.Maps.AppendAt
import Derived.Laws.OwnMore
import Derived.Deep.MidRow
set_option linter.unusedVariables false
set_option linter.unusedSimpArgs false
namespace Go.Proofs.Ytinjafacnekkcaa
open Go Go.RowKit
theorem cells_atK {w : World} {g : Nat} {A : Array Value} {t : TypeId} {z : Nat × Nat} (h : w.heap[g]? = some (.cells A t z)) (j : Nat) : w.cell? ⟨g, j, none⟩ = A[j]? := by
  simp [World.cell?, h]
/-- things of a type T, each of k cells; slices of them are of type S -/
structure RowTy (P : Program) {α : Type} (val : α → Value) (enc : α → List Value) (k b : Nat) (S T : TypeId) : Prop where
  und : P.underlying S = some (.slice T)
  info : ∃ z, (P.info? T).map (fun i => (i.zero, i.size, i.bytes)) = some (some z, k, b) ∧ z.cells.size = k
  cells : ∀ x, (val x).cells = (enc x).toArray
  len : ∀ x, (enc x).length = k
  one : ∀ x, ∀ v ∈ enc x, v.oneCell' = true
  pos : 0 < k
section
variable {P : Program} {α : Type} {val : α → Value} {enc : α → List Value} {k b : Nat} {S T : TypeId}
def cellsK (enc : α → List Value) (L : List α) : List Value := L.flatMap enc
theorem cellsK_len (hk : ∀ x, (enc x).length = k) (L : List α) : (cellsK enc L).length = L.length * k := by
  induction L with
  | nil => simp [cellsK]
  | cons x xs ih => unfold cellsK at *; rw [List.flatMap_cons, List.length_append, ih, hk, List.length_cons, Nat.succ_mul]; omega
theorem cellsK_app (L M : List α) : cellsK enc (L ++ M) = cellsK enc L ++ cellsK enc M := by unfold cellsK; rw [List.flatMap_append]
theorem cellsK_one (x : α) : cellsK enc [x] = enc x := by simp [cellsK]
theorem cellsK_cons (x : α) (L : List α) : cellsK enc (x :: L) = enc x ++ cellsK enc L := by simp [cellsK]
theorem cellsK_get (hk : ∀ x, (enc x).length = k) : ∀ (L : List α) (i j : Nat) (p : α), L[i]? = some p → j < k → (cellsK enc L)[i * k + j]? = (enc p)[j]?
  | [], i, j, p, h, hj => by cases h
  | x :: xs, 0, j, p, h, hj => by
    have hx : x = p := by simpa using h
    subst hx
    rw [cellsK_cons, Nat.zero_mul, Nat.zero_add, List.getElem?_append_left (by rw [hk]; exact hj)]
  | x :: xs, i + 1, j, p, h, hj => by
    rw [cellsK_cons, List.getElem?_append_right (by rw [hk, Nat.succ_mul]; omega), hk, show (i + 1) * k + j - k = i * k + j by rw [Nat.succ_mul]; omega]
    exact cellsK_get hk xs i j p (by simpa using h) hj
theorem cellsK_oneCell (h1 : ∀ x, ∀ v ∈ enc x, v.oneCell' = true) (L : List α) : ∀ v ∈ cellsK enc L, v.oneCell' = true := by
  intro v hv
  obtain ⟨p, _, hp⟩ := List.mem_flatMap.1 hv
  exact h1 p v hp
/-- things lie in a slice -/
def RowK (enc : α → List Value) (k : Nat) (w : World) (a : Option Addr) (L : List α) : Prop :=
  ∀ (i : Nat) x, L[i]? = some x → ∃ g o, a = some ⟨g, o, none⟩ ∧ g < w.heap.size ∧ ∀ j u, (enc x)[j]? = some u → w.cell? ⟨g, o + (i * k + j), none⟩ = some u
theorem RowK.nil (w : World) (a : Option Addr) : RowK enc k w a ([] : List α) := fun i x h => by cases h
theorem RowK.up {w w' : World} {a : Option Addr} {L : List α} (h : RowK enc k w a L) {B : Nat} (hb : Below B w w') (hB : w.heap.size ≤ B) : RowK enc k w' a L := by
  intro i x hx
  obtain ⟨g, o, e, hg, hc⟩ := h i x hx
  exact ⟨g, o, e, Nat.lt_of_lt_of_le hg hb.size, fun j u hu => (hb.cell (p := ⟨g, _, none⟩) (Nat.lt_of_lt_of_le hg hB)).trans (hc j u hu)⟩
/-- the same block -/
theorem RowK.keep {w w' : World} {g o : Nat} {L : List α} (h : RowK enc k w (some ⟨g, o, none⟩) L) (he : w'.heap[g]? = w.heap[g]?) : RowK enc k w' (some ⟨g, o, none⟩) L := by
  intro i x hx
  obtain ⟨g', o', e, hg, hc⟩ := h i x hx
  cases e
  refine ⟨_, _, rfl, ?_, fun j u hu => ?_⟩
  · have := he.trans (Array.getElem?_eq_getElem hg); exact (Array.getElem?_eq_some_iff.1 this).1
  · rw [← hc j u hu]; simp [World.cell?, he]
theorem RowK.take {w : World} {a : Option Addr} {L : List α} (h : RowK enc k w a L) (n : Nat) : RowK enc k w a (L.take n) := by
  intro i x hx
  rw [List.getElem?_take] at hx
  split at hx
  · exact h i x hx
  · cases hx
/-- one thing's cells -/
theorem RowK.at {w : World} {g o : Nat} {L : List α} (h : RowK enc k w (some ⟨g, o, none⟩) L) {i : Nat} {x : α} (hx : L[i]? = some x) : g < w.heap.size ∧ ∀ j u, (enc x)[j]? = some u → w.cell? ⟨g, o + (i * k + j), none⟩ = some u := by
  obtain ⟨g', o', e, hg, hc⟩ := h i x hx
  cases e
  exact ⟨hg, hc⟩
theorem RowK.range {w : World} {g o : Nat} {L : List α} (h : RowK enc k w (some ⟨g, o, none⟩) L) {i : Nat} {x : α} (hx : L[i]? = some x) : w.rangeAt g (o + i * k) (enc x) := by
  intro j v hv
  rw [Nat.add_assoc]
  exact (h.at hx).2 j v hv
/-- from number n on -/
theorem RowK.drop {w : World} {g o : Nat} {L : List α} (h : RowK enc k w (some ⟨g, o, none⟩) L) (n : Nat) : RowK enc k w (some ⟨g, o + n * k, none⟩) (L.drop n) := by
  intro i x hx
  rw [List.getElem?_drop] at hx
  obtain ⟨hg, hc⟩ := h.at hx
  refine ⟨_, _, rfl, hg, fun j u hu => ?_⟩
  rw [← hc j u hu]
  congr 2
  rw [Nat.add_mul]
  omega
theorem rowK_cells (hk : ∀ x, (enc x).length = k) {w : World} {g o : Nat} {M : List α} (h : RowK enc k w (some ⟨g, o, none⟩) M) : ∀ j u, (cellsK enc M)[j]? = some u → w.cell? ⟨g, o + j, none⟩ = some u := by
  intro j u hu
  have hj : j < M.length * k := by have := (List.getElem?_eq_some_iff.1 hu).1; rwa [cellsK_len hk] at this
  have hk0 : 0 < k := by rcases Nat.eq_zero_or_pos k with h | h; · subst h; omega
                         · exact h
  have hq : j / k < M.length := (Nat.div_lt_iff_lt_mul hk0).2 hj
  obtain ⟨_, h3⟩ := h.at (List.getElem?_eq_getElem hq)
  have e : j / k * k + j % k = j := by rw [Nat.mul_comm]; exact Nat.div_add_mod j k
  have h4 := cellsK_get hk M (j / k) (j % k) _ (List.getElem?_eq_getElem hq) (Nat.mod_lt _ hk0)
  rw [e, hu] at h4
  have h5 := h3 (j % k) u h4.symm
  rw [e] at h5
  exact h5
theorem rowK_of_cells (hk : ∀ x, (enc x).length = k) {w : World} {g o : Nat} {M : List α} (hg : g < w.heap.size) (h : ∀ j u, (cellsK enc M)[j]? = some u → w.cell? ⟨g, o + j, none⟩ = some u) : RowK enc k w (some ⟨g, o, none⟩) M := by
  intro i x hx
  refine ⟨g, o, rfl, hg, fun j u hu => h _ _ ?_⟩
  have hj : j < k := by have := (List.getElem?_eq_some_iff.1 hu).1; rwa [hk] at this
  rw [cellsK_get hk M i j x hx hj]; exact hu
/-- a block that begins so -/
theorem rowK_blk (hk : ∀ x, (enc x).length = k) {w : World} {g : Nat} {M : List α} {A : Array Value} {t : TypeId} {z : Nat × Nat} (h : w.heap[g]? = some (.cells A t z)) (hA : ∀ (j : Nat) (u : Value), (cellsK enc M)[j]? = some u → A[j]? = some u) : RowK enc k w (some ⟨g, 0, none⟩) M :=
  rowK_of_cells hk (lt_of_block h) fun j u hu => by rw [Nat.zero_add, cells_atK h j]; exact hA j u hu
theorem rowK_own (hk : ∀ x, (enc x).length = k) (hk0 : 0 < k) {w : World} {base n : Nat} {a : Option Addr} {c : Nat} {L : List α} (hown : w.ownsRow base T k (.slice a n c) n (cellsK enc L)) : RowK enc k w a L := by
  have hn : n = L.length := Nat.eq_of_mul_eq_mul_right hk0 (by have := hown.1; rw [cellsK_len hk] at this; omega)
  intro i x hx
  have hi : i < L.length := (List.getElem?_eq_some_iff.1 hx).1
  rcases hown.2 with ⟨h3, h4⟩ | ⟨g, cap, cur, h3, h4, h5, h6⟩
  · omega
  · cases h3
    refine ⟨g, 0, rfl, lt_of_block h5, fun j u hu => ?_⟩
    have hj : j < k := by have := (List.getElem?_eq_some_iff.1 hu).1; rwa [hk] at this
    have hlt : i * k + j < (cellsK enc L).length := by
      rw [cellsK_len hk]
      have : (i + 1) * k ≤ L.length * k := Nat.mul_le_mul_right k hi
      rw [Nat.succ_mul] at this; omega
    have hlt2 : i * k + j < n * k := by rw [cellsK_len hk] at hlt; rw [hn]; exact hlt
    rw [Nat.zero_add, hown.cellAt (i * k + j) (by first | exact hlt2 | exact hlt), cellsK_get hk L i j x hx hj]
    exact hu
theorem RowTy.parts (h : RowTy P val enc k b S T) : ∃ i z, P.info? T = some i ∧ i.zero = some z ∧ i.size = k ∧ i.bytes = b ∧ z.cells.size = k := by
  obtain ⟨z, h1, h2⟩ := h.info
  obtain ⟨i, hi, hh⟩ := Option.map_eq_some_iff.1 h1
  simp only [Prod.mk.injEq] at hh
  exact ⟨i, z, hi, hh.1, hh.2.1, hh.2.2, h2⟩
/-- append -/
theorem RowTy.run_append (R : RowTy P val enc k b S T) {w : World} (ty : TypeId) {base n : Nat} {v : Value} {L : List α} (hA : w.ownsRow base T k v n (cellsK enc L)) {a : Option Addr} {m cap : Nat} {M : List α} (hm : M.length = m) (hM : RowK enc k w a M) (hnil : a = none → m = 0 ∧ cap = 0) (hpl : ∀ p, a = some p → p.spot = none)
    (h63 : n + m ≤ maxLen) (hby : (n + m) * b ≤ 140737488355328) (hbase : base ≤ w.heap.size) :
    ∃ v' w', (Builtin.append_ #[S, S] ty #[v, .slice a m cap]).run P w = .ok v' w' ∧ w'.ownsRow base T k v' (n + m) (cellsK enc (L ++ M)) ∧ w.grownBy w' v.ownBlock ∧ (v' = .slice none 0 0 ↔ v = .slice none 0 0 ∧ m = 0) := by
  obtain ⟨i0, z, hi, hz, hs, hb0, hzs⟩ := R.parts
  cases a with
  | none =>
    obtain ⟨rfl, rfl⟩ := hnil rfl
    have hl : M = [] := List.length_eq_zero_iff.1 hm
    subst hl
    refine ⟨v, w, run_append_owned_none w base S ty T i0 k R.und hi v n _ hA, ?_, World.grownBy.refl w _, by simp⟩
    simpa using hA
  | some ad =>
    obtain ⟨g, o, sp⟩ := ad
    have hsp : sp = none := hpl _ rfl
    subst hsp
    obtain ⟨v', w', h4, h5, h6, h7, _⟩ := run_append_own_at (P := P) w base S ty T i0 z k b R.und hi hz hs hb0 hzs R.pos v n (cellsK enc L) hA ⟨g, o, none⟩ m cap (cellsK enc M) (by rw [cellsK_len R.len, hm])
      (fun j u hu => by rw [Addr.add_mid]; exact rowK_cells R.len hM j u hu) (cellsK_oneCell R.one M) h63 hby hbase
    exact ⟨v', w', h4, by rw [cellsK_app]; exact h5, h6, h7⟩
theorem RowTy.wp_append (R : RowTy P val enc k b S T) {w : World} {o : Oper} {A : Act} {K : Act → World → Prop} {Q : Exit → Act → World → Prop} (s x : Operand)
    (ho : o.op = .call { callee := .builtin .append, args := #[s, x], argTypes := #[S, S] }) {base n : Nat} {v : Value} {L : List α} (hs : A.eval s = v) (hA : w.ownsRow base T k v n (cellsK enc L))
    {a : Option Addr} {m cap : Nat} {M : List α} (hx : A.eval x = .slice a m cap) (hm : M.length = m) (hM : RowK enc k w a M) (hnil : a = none → m = 0 ∧ cap = 0) (hpl : ∀ p, a = some p → p.spot = none) (h63 : n + m ≤ maxLen) (hby : (n + m) * b ≤ 140737488355328) (hbase : base ≤ w.heap.size)
    (h : ∀ v' w', w'.ownsRow base T k v' (n + m) (cellsK enc (L ++ M)) → w.grownBy w' v.ownBlock → (v' = .slice none 0 0 ↔ v = .slice none 0 0 ∧ m = 0) → K (A.put o.dst v') w') : o.wp P A w K Q := by
  obtain ⟨v', w', h1, h2, h3, h4⟩ := R.run_append o.type hA hm hM hnil hpl h63 hby hbase
  unfold Oper.wp execOp
  simp only [ho, resolve, invoke, builtin, Sem.run_bind, Sem.run_pure, Result.andThen_ok, List.map_toArray, List.map_cons, List.map_nil, hs, hx, h1]
  exact h v' w' h2 h3 h4
theorem RowTy.wpList_append (R : RowTy P val enc k b S T) {w : World} {ops : Array Oper} {rest : List Oper} {o : Oper} {A : Act} {Q : Exit → Act → World → Prop} (hgd : o.guard = none) (s x : Operand)
    (ho : o.op = .call { callee := .builtin .append, args := #[s, x], argTypes := #[S, S] }) {base n : Nat} {v : Value} {L : List α} (hs : A.eval s = v) (hA : w.ownsRow base T k v n (cellsK enc L))
    {a : Option Addr} {m cap : Nat} {M : List α} (hx : A.eval x = .slice a m cap) (hm : M.length = m) (hM : RowK enc k w a M) (hnil : a = none → m = 0 ∧ cap = 0) (hpl : ∀ p, a = some p → p.spot = none) (h63 : n + m ≤ maxLen) (hby : (n + m) * b ≤ 140737488355328) (hbase : base ≤ w.heap.size)
    (h : ∀ v' w', w'.ownsRow base T k v' (n + m) (cellsK enc (L ++ M)) → w.grownBy w' v.ownBlock → (v' = .slice none 0 0 ↔ v = .slice none 0 0 ∧ m = 0) → wpList P ops Q rest (A.put o.dst v') w') : wpList P ops Q (o :: rest) A w :=
  wpList_plain hgd fun _ hK => R.wp_append s x ho hs hA hx hm hM hnil hpl h63 hby hbase fun v' w' h1 h2 h3 => hK _ _ (h v' w' h1 h2 h3)
theorem foldl_set (off : Nat) : ∀ (l : List Value) (n : Nat) (B : Array Value), off + n + l.length ≤ B.size →
    ∀ i, ((l.zipIdx n).foldl (fun (cs : Array Value) (p : Value × Nat) => cs.setIfInBounds (off + p.2) p.1) B)[i]? = if off + n ≤ i ∧ i < off + n + l.length then l[i - (off + n)]? else B[i]?
  | [], n, B, h, i => by simp only [List.zipIdx_nil, List.foldl_nil, List.length_nil]; rw [if_neg (by omega)]
  | x :: xs, n, B, h, i => by
    rw [List.zipIdx_cons, List.foldl_cons, foldl_set off xs (n + 1) _ (by simp at h ⊢; omega) i, Array.getElem?_setIfInBounds]
    simp only [List.length_cons] at h ⊢
    by_cases h1 : i = off + n
    · subst h1
      rw [if_neg (by omega), if_pos rfl, if_pos (by omega), if_pos (by omega)]
      simp
    · by_cases h2 : off + (n + 1) ≤ i ∧ i < off + (n + 1) + xs.length
      · rw [if_pos h2, if_pos (by omega), show i - (off + n) = (i - (off + (n + 1))) + 1 by omega, List.getElem?_cons_succ]
      · rw [if_neg h2, if_neg (Ne.symm h1), if_neg (by omega)]
theorem fill_one {v : Value} {A B : Array Value} (hv : v.cells = A) (hA : A.size = k) (hB : B.size = k) : Instr.fill (fun i => some (i * k, k)) B [(0, v)] = some A := by
  unfold Instr.fill
  simp only [hv, Nat.zero_mul]
  rw [if_neg (by simp [hA, hB])]
  unfold Instr.fill
  congr 1
  apply Array.ext_getElem?
  intro i
  have h := foldl_set 0 A.toList 0 B (by simp [hA, hB]) i
  rw [← Array.foldl_toList, Array.toList_zipIdx]
  refine h.trans ?_
  by_cases hi : i < A.size
  · rw [if_pos (by simp; exact hi)]; simp
  · rw [if_neg (by simp; omega), Array.getElem?_eq_none (by omega), Array.getElem?_eq_none (by omega)]
theorem RowTy.wp_build (R : RowTy P val enc k b S T) {w : World} {o : Oper} {A : Act} {K : Act → World → Prop} {Q : Exit → Act → World → Prop} (hk24 : k ≤ 2 ^ 24) (x : Operand) (ho : o.op = .buildSlice S 1 #[(0, x)])
    {p : α} (hx : A.eval x = val p) (h : K (A.put o.dst (.slice (some ⟨w.heap.size, 0, none⟩) 1 1)) (w.alloc (.cells (enc p).toArray T))) : o.wp P A w K Q := by
  obtain ⟨i0, z, hi, hz, hs, hb0, hzs⟩ := R.parts
  have hp := R.pos
  refine wp_buildSlice S T 1 _ ho (enc p).toArray i0 z R.und hi hz (by rw [hs]; omega) (by rw [hs]; omega) ?_ h
  rw [hs]
  rw [show (Array.map (fun x : Nat × Operand => match x with | (i, x) => (i, A.eval x)) #[(0, x)]).toList = [(0, A.eval x)] by simp, hx]
  exact fill_one (R.cells p) (by simp [R.len]) (by simp)
theorem RowTy.wpList_build (R : RowTy P val enc k b S T) {w : World} {ops : Array Oper} {rest : List Oper} {o : Oper} {A : Act} {Q : Exit → Act → World → Prop} (hk24 : k ≤ 2 ^ 24) (hgd : o.guard = none) (x : Operand) (ho : o.op = .buildSlice S 1 #[(0, x)])
    {p : α} (hx : A.eval x = val p) (h : wpList P ops Q rest (A.put o.dst (.slice (some ⟨w.heap.size, 0, none⟩) 1 1)) (w.alloc (.cells (enc p).toArray T))) : wpList P ops Q (o :: rest) A w :=
  wpList_plain hgd fun _ hK => R.wp_build hk24 x ho hx (hK _ _ h)
theorem rowK_one {w : World} {g : Nat} {p : α} {t : TypeId} {z : Nat × Nat} (hk : ∀ x, (enc x).length = k) (h : w.heap[g]? = some (.cells (enc p).toArray t z)) : RowK enc k w (some ⟨g, 0, none⟩) [p] :=
  rowK_blk hk h fun j u hu => by rw [cellsK_one] at hu; simpa using hu
/-- an operation within a round, by its law outside -/
theorem wpListInG_of_wp {l n : Nat} {P : Program} {ops : Array Oper} {rest : List Oper} {o : Oper} {A : Act} {Q : Exit → Act → World → Prop} {w : World} (hgd : o.guard = none) (hd : ∀ c, o.op ≠ Op.defer c)
    (h : ∀ K : Act → World → Prop, (∀ a w, wpListIn (Fence.wide.inRound l) n P ops Q rest a w → K a w) → o.wp P A w K (OnlyG fun _ _ => False)) : wpListIn (Fence.wide.inRound l) n P ops Q (o :: rest) A w :=
  wpListIn_plain hgd fun K hK => ⟨fun _ _ => trivial, by
    show o.uponIn _ _ _ _ _ _ ((Oper.semAt (some l) A.eval o).run P w)
    rw [Oper.semAt_some l A.eval o hd]
    exact upon_roundG (Q := fun _ _ => False) (h K hK)⟩
theorem RowTy.wpListIn_build (R : RowTy P val enc k b S T) {l n : Nat} {w : World} {ops : Array Oper} {rest : List Oper} {o : Oper} {A : Act} {Q : Exit → Act → World → Prop} (hk24 : k ≤ 2 ^ 24) (hgd : o.guard = none) (x : Operand) (ho : o.op = .buildSlice S 1 #[(0, x)])
    {p : α} (hx : A.eval x = val p) (h : wpListIn (Fence.wide.inRound l) n P ops Q rest (A.put o.dst (.slice (some ⟨w.heap.size, 0, none⟩) 1 1)) (w.alloc (.cells (enc p).toArray T))) : wpListIn (Fence.wide.inRound l) n P ops Q (o :: rest) A w :=
  wpListInG_of_wp hgd (fun c hc => by rw [ho] at hc; cases hc) fun K hK => R.wp_build hk24 x ho hx (hK _ _ h)
theorem RowTy.wpListIn_append (R : RowTy P val enc k b S T) {l n0 : Nat} {w : World} {ops : Array Oper} {rest : List Oper} {o : Oper} {A : Act} {Q : Exit → Act → World → Prop} (hgd : o.guard = none) (s x : Operand)
    (ho : o.op = .call { callee := .builtin .append, args := #[s, x], argTypes := #[S, S] }) {base n : Nat} {v : Value} {L : List α} (hs : A.eval s = v) (hA : w.ownsRow base T k v n (cellsK enc L))
    {a : Option Addr} {m cap : Nat} {M : List α} (hx : A.eval x = .slice a m cap) (hm : M.length = m) (hM : RowK enc k w a M) (hnil : a = none → m = 0 ∧ cap = 0) (hpl : ∀ p, a = some p → p.spot = none) (h63 : n + m ≤ maxLen) (hby : (n + m) * b ≤ 140737488355328) (hbase : base ≤ w.heap.size)
    (h : ∀ v' w', w'.ownsRow base T k v' (n + m) (cellsK enc (L ++ M)) → w.grownBy w' v.ownBlock → (v' = .slice none 0 0 ↔ v = .slice none 0 0 ∧ m = 0) → wpListIn (Fence.wide.inRound l) n0 P ops Q rest (A.put o.dst v') w') : wpListIn (Fence.wide.inRound l) n0 P ops Q (o :: rest) A w :=
  wpListInG_of_wp hgd (fun c hc => by rw [ho] at hc; cases hc) fun K hK => R.wp_append s x ho hs hA hx hm hM hnil hpl h63 hby hbase fun v' w' h1 h2 h3 => hK _ _ (h v' w' h1 h2 h3)
theorem RowTy.elem (R : RowTy P val enc k b S T) : P.elem S = T := by
  unfold Program.elem; rw [R.und]
theorem RowTy.sizeOf (R : RowTy P val enc k b S T) (w : World) : (Go.sizeOf T).run P w = .ok k w := by
  obtain ⟨i0, z, hi, hz, hs, hb0, hzs⟩ := R.parts
  simp [Go.sizeOf, typeInfo, hi, hs]
/-- the address behind l things -/
def subK (k : Nat) (a : Option Addr) (c l : Nat) : Option Addr := if c = l then a else a.map (·.add (l * k))
theorem RowTy.run_subH (R : RowTy P val enc k b S T) (w : World) (a : Option Addr) (n c h : Nat) (hh : h ≤ c) : (Instr.sliceAt S (.slice a n c) none (some (.int .i64 (h : Int))) none).run P w = .ok (.slice a h c) w := by
  have hu : P.underlying S = some (.slice (P.elem S)) := by rw [R.elem]; exact R.und
  rw [run_sliceAt_slice (P := P) w S _ _ _ _ hu, run_slice_h w S a n c hu .i64 (h : Int) (by omega) (by omega), R.elem, R.sizeOf]
  simp only [Result.andThen, sliced, Int.toNat_natCast, Nat.zero_mul, Nat.sub_zero]
  congr 2
  split
  · rfl
  · cases a with
    | none => rfl
    | some p => simp [Addr.add]
theorem RowTy.run_subL (R : RowTy P val enc k b S T) (w : World) (a : Option Addr) (n c l : Nat) (hl : l ≤ n) : (Instr.sliceAt S (.slice a n c) (some (.int .i64 (l : Int))) none none).run P w = .ok (.slice (subK k a c l) (n - l) (c - l)) w := by
  have hu : P.underlying S = some (.slice (P.elem S)) := by rw [R.elem]; exact R.und
  rw [run_sliceAt_slice (P := P) w S _ _ _ _ hu, run_slice_l w S a n c hu .i64 (l : Int) (by omega) (by omega), R.elem, R.sizeOf]
  simp only [Result.andThen, sliced, Int.toNat_natCast, subK]
theorem RowK.sub {w : World} {a : Option Addr} {L : List α} (h : RowK enc k w a L) {c l : Nat} (hc : L.length ≤ c) : RowK enc k w (subK k a c l) (L.drop l) := by
  unfold subK
  split
  · next e => subst e; rw [List.drop_eq_nil_of_le hc]; exact RowK.nil _ _
  · intro i x hx
    obtain ⟨g, o, rfl, _⟩ := h _ x (by rw [List.getElem?_drop] at hx; exact hx)
    rw [Option.map_some, Addr.add_mid]
    exact (RowK.drop h l) i x hx
/-- a slice of the row, by the operation -/
theorem RowTy.wpList_subH (R : RowTy P val enc k b S T) {w : World} {ops : Array Oper} {rest : List Oper} {o : Oper} {A : Act} {Q : Exit → Act → World → Prop} (hgd : o.guard = none) (x y : Operand) (ho : o.op = .slice S x none (some y) none) {a : Option Addr} {n c h : Nat} (hx : A.eval x = .slice a n c) (hy : A.eval y = .int .i64 (h : Int)) (hh : h ≤ c)
    (hK : wpList P ops Q rest (A.put o.dst (.slice a h c)) w) : wpList P ops Q (o :: rest) A w :=
  wpList_plain hgd fun _ hk => by
    unfold Oper.wp execOp
    simp only [ho, hx, hy, Option.map_some, Option.map_none, Sem.run_bind, R.run_subH w a n c h hh, Result.andThen_ok]
    exact hk _ _ hK
theorem RowTy.wpList_subL (R : RowTy P val enc k b S T) {w : World} {ops : Array Oper} {rest : List Oper} {o : Oper} {A : Act} {Q : Exit → Act → World → Prop} (hgd : o.guard = none) (x y : Operand) (ho : o.op = .slice S x (some y) none none) {a : Option Addr} {n c l : Nat} (hx : A.eval x = .slice a n c) (hy : A.eval y = .int .i64 (l : Int)) (hl : l ≤ n)
    (hK : wpList P ops Q rest (A.put o.dst (.slice (subK k a c l) (n - l) (c - l))) w) : wpList P ops Q (o :: rest) A w :=
  wpList_plain hgd fun _ hk => by
    unfold Oper.wp execOp
    simp only [ho, hx, hy, Option.map_some, Option.map_none, Sem.run_bind, R.run_subL w a n c l hl, Result.andThen_ok]
    exact hk _ _ hK
/-- an empty slice of the call's own -/
theorem RowTy.own_empty (R : RowTy P val enc k b S T) (w : World) (base : Nat) (hb : base ≤ w.heap.size) : (w.alloc (.cells #[] T)).ownsRow base T k (.slice (some ⟨w.heap.size, 0, none⟩) 0 0) 0 (cellsK enc ([] : List α)) :=
  ⟨by simp [cellsK], .inr ⟨w.heap.size, 0, #[], rfl, hb, World.alloc_heap_new w _, Nat.le_refl _, by unfold maxLen; omega, by simp, by simp [cellsK]⟩⟩
end
end Go.Proofs.Ytinjafacnekkcaa
