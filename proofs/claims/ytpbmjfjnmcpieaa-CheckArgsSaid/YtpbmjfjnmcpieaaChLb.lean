/- Rows of faults that the call owns: append, one fault as a slice. Turned from ChX. -/
import Derived.Test.YtpbmjfjnmcpieaaChLa
set_option linter.unusedVariables false
set_option linter.unusedSimpArgs false
namespace Go.Proofs.Ytpbmjfjnmcpieaa
open Go Go.RowKit
structure Ft where
  k : Int
  a : Int
def ftA (f : Ft) : Array Value := #[.int .i64 f.k, .int .i64 f.a]
theorem ftA_one (f : Ft) : (ftA f).all (·.oneCell') = true := by simp [ftA, Value.oneCell']
def FtsAt (w : World) (a : Option Addr) (L : List Ft) : Prop := ∀ (i : Nat) (p : Ft), L[i]? = some p → ∃ g o, a = some ⟨g, o, none⟩ ∧ g < w.heap.size ∧ w.rangeAt g (o + i * 2) (ftA p).toList
theorem FtsAt.up {w w' : World} {a : Option Addr} {L : List Ft} (h : FtsAt w a L) {B : Nat} (hb : Below B w w') (hB : w.heap.size ≤ B) : FtsAt w' a L := by
  intro i p hp
  obtain ⟨g, o, h1, h2, h3⟩ := h i p hp
  exact ⟨g, o, h1, Nat.lt_of_lt_of_le h2 hb.size, fun j u hu => (hb.cell (p := ⟨g, o + i * 2 + j, none⟩) (Nat.lt_of_lt_of_le h2 hB)).trans (h3 j u hu)⟩
def rowF (p : Ft) : List Value := (ftA p).toList
def cellsF (L : List Ft) : List Value := L.flatMap rowF
theorem rowF_len (p : Ft) : (rowF p).length = 2 := rfl
theorem cellsF_len (L : List Ft) : (cellsF L).length = L.length * 2 := by
  induction L with
  | nil => rfl
  | cons x xs ih => unfold cellsF at *; rw [List.flatMap_cons, List.length_append, ih, rowF_len, List.length_cons]; omega
theorem cellsF_app (L M : List Ft) : cellsF (L ++ M) = cellsF L ++ cellsF M := by unfold cellsF; rw [List.flatMap_append]
theorem cellsF_one (p : Ft) : cellsF [p] = rowF p := by simp [cellsF]
theorem cellsF_get : ∀ (L : List Ft) (i j : Nat) (p : Ft), L[i]? = some p → j < 2 → (cellsF L)[i * 2 + j]? = (rowF p)[j]?
  | [], i, j, p, h, hj => by cases h
  | x :: xs, 0, j, p, h, hj => by
    have hx : x = p := by simpa using h
    subst hx
    show (rowF x ++ cellsF xs)[0 * 2 + j]? = _
    rw [Nat.zero_mul, Nat.zero_add, List.getElem?_append_left (by rw [rowF_len]; exact hj)]
  | x :: xs, i + 1, j, p, h, hj => by
    show (rowF x ++ cellsF xs)[(i + 1) * 2 + j]? = _
    rw [List.getElem?_append_right (by rw [rowF_len]; omega), rowF_len, show (i + 1) * 2 + j - 2 = i * 2 + j by omega]
    exact cellsF_get xs i j p (by simpa using h) hj
theorem cellsF_oneCell (L : List Ft) : ∀ v ∈ cellsF L, v.oneCell' = true := by
  intro v hv
  unfold cellsF at hv
  obtain ⟨p, _, hp⟩ := List.mem_flatMap.1 hv
  have := ftA_one p
  rw [← Array.all_toList, List.all_eq_true] at this
  exact this v hp
theorem ftinfo : (Try.prog.info? 56).map (fun i => (i.zero, i.size, i.bytes)) = some (some (.agg (ftA ⟨0, 0⟩))  , 2, 16) := by kernel_rfl
theorem fts_of_own {w : World} {base n : Nat} {a : Option Addr} {c : Nat} {L : List Ft} (hown : w.ownsRow base 56 2 (.slice a n c) n (cellsF L)) : FtsAt w a L := by
  intro i p hp
  have hi : i < L.length := (List.getElem?_eq_some_iff.1 hp).1
  have hn : n = L.length := by have := hown.1; rw [cellsF_len] at this; omega
  rcases hown.2 with ⟨h3, h4⟩ | ⟨g, cap, cur, h3, h4, h5, h6⟩
  · omega
  · cases h3
    refine ⟨g, 0, rfl, lt_of_block h5, fun j u hu => ?_⟩
    have hj : j < 2 := by have := (List.getElem?_eq_some_iff.1 hu).1; simpa [ftA] using this
    rw [Nat.zero_add, hown.cellAt (i * 2 + j) (by omega), cellsF_get L i j p hp hj]
    exact hu
theorem fts_cells {w : World} {g o m : Nat} {M : List Ft} (h : FtsAt w (some ⟨g, o, none⟩) M) : ∀ j u, (cellsF M)[j]? = some u → w.cell? ⟨g, o + j, none⟩ = some u := by
  intro j u hu
  have hj : j < M.length * 2 := by have := (List.getElem?_eq_some_iff.1 hu).1; rwa [cellsF_len] at this
  have hq : j / 2 < M.length := by omega
  obtain ⟨g', o', e1, _, h3⟩ := h (j / 2) M[j / 2] (List.getElem?_eq_getElem hq)
  cases e1
  have e : j / 2 * 2 + j % 2 = j := by omega
  have h4 := cellsF_get M (j / 2) (j % 2) _ (List.getElem?_eq_getElem hq) (by omega)
  rw [e, hu] at h4
  have h5 := h3 (j % 2) u h4.symm
  rw [Nat.add_assoc, e] at h5
  exact h5
/-- append of pages -/
theorem run_append_fts {w : World} (ty : TypeId) {base n : Nat} {v : Value} {L : List Ft} (hA : w.ownsRow base 56 2 v n (cellsF L)) {a : Option Addr} {m cap : Nat} {M : List Ft} (hm : M.length = m) (hM : FtsAt w a M) (hnil : a = none → m = 0 ∧ cap = 0) (hpl : ∀ p, a = some p → p.spot = none) (h63 : n + m ≤ 1000000) (hbase : base ≤ w.heap.size) :
    ∃ v' w', (Builtin.append_ #[25, 25] ty #[v, .slice a m cap]).run Try.prog w = .ok v' w' ∧ w'.ownsRow base 56 2 v' (n + m) (cellsF (L ++ M)) ∧ w.grownBy w' v.ownBlock := by
  obtain ⟨i0, hi, h⟩ := Option.map_eq_some_iff.1 ftinfo
  simp only [Prod.mk.injEq] at h
  cases a with
  | none =>
    obtain ⟨rfl, rfl⟩ := hnil rfl
    have hl : M = [] := List.length_eq_zero_iff.1 hm
    subst hl
    refine ⟨v, w, run_append_owned_none w base 25 ty 56 i0 2 Try.underlying25 hi v n _ hA, ?_, World.grownBy.refl w _⟩
    simpa using hA
  | some ad =>
    obtain ⟨g, o, sp⟩ := ad
    have hsp : sp = none := hpl _ rfl
    subst hsp
    obtain ⟨v', w', h4, h5, h6, _⟩ := run_append_own_at (P := Try.prog) w base 25 ty 56 i0 _ 2 16 Try.underlying25 hi h.1 h.2.1 h.2.2 rfl (by omega) v n (cellsF L) hA ⟨g, o, none⟩ m cap (cellsF M) (by rw [cellsF_len, hm])
      (fun j u hu => by rw [add_plain]; exact fts_cells (m := m) hM j u hu) (cellsF_oneCell M) (by unfold maxLen; omega) (by omega) hbase
    exact ⟨v', w', h4, by rw [cellsF_app]; exact h5, h6⟩
theorem wpList_append_fts {w : World} {ops : Array Oper} {rest : List Oper} {o : Oper} {A : Act} {Q : Exit → Act → World → Prop} (hgd : o.guard = none) (s x : Operand)
    (ho : o.op = .call { callee := .builtin .append, args := #[s, x], argTypes := #[25, 25] }) {base n : Nat} {v : Value} {L : List Ft} (hs : A.eval s = v) (hA : w.ownsRow base 56 2 v n (cellsF L))
    {a : Option Addr} {m cap : Nat} {M : List Ft} (hx : A.eval x = .slice a m cap) (hm : M.length = m) (hM : FtsAt w a M) (hnil : a = none → m = 0 ∧ cap = 0) (hpl : ∀ p, a = some p → p.spot = none) (h63 : n + m ≤ 1000000) (hbase : base ≤ w.heap.size)
    (h : ∀ v' w', w'.ownsRow base 56 2 v' (n + m) (cellsF (L ++ M)) → w.grownBy w' v.ownBlock → wpList Try.prog ops Q rest (A.put o.dst v') w') : wpList Try.prog ops Q (o :: rest) A w :=
  wpList_plain hgd fun _ hK => by
    obtain ⟨v', w', h1, h2, h3⟩ := run_append_fts o.type hA hm hM hnil hpl h63 hbase
    unfold Oper.wp execOp
    simp only [ho, resolve, invoke, builtin, Sem.run_bind, Sem.run_pure, Result.andThen_ok, List.map_toArray, List.map_cons, List.map_nil, hs, hx, h1]
    exact hK _ _ (h v' w' h2 h3)
theorem fillF_any (p : Ft) (B : Array Value) (hB : B.size = 2) : Instr.fill (fun i => some (i * 2, 2)) B [(0, .agg (ftA p))] = some (ftA p) := by
  obtain ⟨l⟩ := B
  match l, hB with
  | [b0, b1], _ =>
    unfold Instr.fill
    simp only [Value.cells, ftA, Nat.zero_mul]
    simp [Instr.fill]
theorem wpList_build_ft {w : World} {ops : Array Oper} {rest : List Oper} {o : Oper} {A : Act} {Q : Exit → Act → World → Prop} (hgd : o.guard = none) (x : Operand) (ho : o.op = .buildSlice 25 1 #[(0, x)])
    {p : Ft} (hx : A.eval x = .agg (ftA p)) (h : wpList Try.prog ops Q rest (A.put o.dst (.slice (some ⟨w.heap.size, 0, none⟩) 1 1)) (w.alloc (.cells (ftA p) 56))) : wpList Try.prog ops Q (o :: rest) A w := by
  obtain ⟨i0, hi, hh⟩ := Option.map_eq_some_iff.1 ftinfo
  simp only [Prod.mk.injEq] at hh
  refine wpList_buildSlice hgd 25 56 1 _ ho (ftA p) i0 _ Try.underlying25 hi hh.1 (by rw [hh.2.1]; decide) (by rw [hh.2.1]; decide) ?_ h
  rw [hh.2.1]
  rw [show (Array.map (fun x : Nat × Operand => match x with | (i, x) => (i, A.eval x)) #[(0, x)]).toList = [(0, A.eval x)] by simp, hx]
  exact fillF_any p _ (by simp [ftA, Value.cells])
theorem fts_blk {w : World} {g : Nat} {p : Ft} {t : TypeId} {z : Nat × Nat} (h : w.heap[g]? = some (.cells (ftA p) t z)) : FtsAt w (some ⟨g, 0, none⟩) [p] := by
  intro i q hq
  have hi : i = 0 := by have := (List.getElem?_eq_some_iff.1 hq).1; simpa using this
  subst hi
  have hpq : p = q := by simpa using hq
  subst hpq
  refine ⟨g, 0, rfl, lt_of_block h, fun j u hu => ?_⟩
  rw [Nat.zero_mul, Nat.zero_add, cells_at h j, ← hu, Array.getElem?_toList]
end Go.Proofs.Ytpbmjfjnmcpieaa
