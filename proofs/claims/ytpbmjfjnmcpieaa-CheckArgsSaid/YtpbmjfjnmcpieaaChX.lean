/- Rows of pages that the call owns: append, one page as a slice. -/
import Derived.Test.YtpbmjfjnmcpieaaChV
import Derived.Great.BuildSlice
set_option linter.unusedVariables false
set_option linter.unusedSimpArgs false
namespace Go.Proofs.Ytpbmjfjnmcpieaa
open Go Go.RowKit
def rowP (p : Pg) : List Value := (pgA p).toList
def cellsP (L : List Pg) : List Value := L.flatMap rowP
theorem rowP_len (p : Pg) : (rowP p).length = 5 := rfl
theorem cellsP_len (L : List Pg) : (cellsP L).length = L.length * 5 := by
  induction L with
  | nil => rfl
  | cons x xs ih => unfold cellsP at *; rw [List.flatMap_cons, List.length_append, ih, rowP_len, List.length_cons]; omega
theorem cellsP_app (L M : List Pg) : cellsP (L ++ M) = cellsP L ++ cellsP M := by unfold cellsP; rw [List.flatMap_append]
theorem cellsP_one (p : Pg) : cellsP [p] = rowP p := by simp [cellsP]
theorem cellsP_get : ∀ (L : List Pg) (i j : Nat) (p : Pg), L[i]? = some p → j < 5 → (cellsP L)[i * 5 + j]? = (rowP p)[j]?
  | [], i, j, p, h, hj => by cases h
  | x :: xs, 0, j, p, h, hj => by
    have hx : x = p := by simpa using h
    subst hx
    show (rowP x ++ cellsP xs)[0 * 5 + j]? = _
    rw [Nat.zero_mul, Nat.zero_add, List.getElem?_append_left (by rw [rowP_len]; exact hj)]
  | x :: xs, i + 1, j, p, h, hj => by
    show (rowP x ++ cellsP xs)[(i + 1) * 5 + j]? = _
    rw [List.getElem?_append_right (by rw [rowP_len]; omega), rowP_len, show (i + 1) * 5 + j - 5 = i * 5 + j by omega]
    exact cellsP_get xs i j p (by simpa using h) hj
theorem cellsP_oneCell (L : List Pg) : ∀ v ∈ cellsP L, v.oneCell' = true := by
  intro v hv
  unfold cellsP at hv
  obtain ⟨p, _, hp⟩ := List.mem_flatMap.1 hv
  have := pgA_one p
  rw [← Array.all_toList, List.all_eq_true] at this
  exact this v hp
theorem pginfo : (Try.prog.info? 81).map (fun i => (i.zero, i.size, i.bytes)) = some (some (.agg (pgA ⟨0, 0, 0, 0, 0⟩)), 5, 40) := by kernel_rfl
theorem pgs_of_own {w : World} {base n : Nat} {a : Option Addr} {c : Nat} {L : List Pg} (hown : w.ownsRow base 81 5 (.slice a n c) n (cellsP L)) : PgsAt w a L := by
  intro i p hp
  have hi : i < L.length := (List.getElem?_eq_some_iff.1 hp).1
  have hn : n = L.length := by have := hown.1; rw [cellsP_len] at this; omega
  rcases hown.2 with ⟨h3, h4⟩ | ⟨g, cap, cur, h3, h4, h5, h6⟩
  · omega
  · cases h3
    refine ⟨g, 0, rfl, lt_of_block h5, fun j u hu => ?_⟩
    have hj : j < 5 := by have := (List.getElem?_eq_some_iff.1 hu).1; simpa [pgA] using this
    rw [Nat.zero_add, hown.cellAt (i * 5 + j) (by omega), cellsP_get L i j p hp hj]
    exact hu
theorem pgs_cells {w : World} {g o m : Nat} {M : List Pg} (h : PgsAt w (some ⟨g, o, none⟩) M) : ∀ j u, (cellsP M)[j]? = some u → w.cell? ⟨g, o + j, none⟩ = some u := by
  intro j u hu
  have hj : j < M.length * 5 := by have := (List.getElem?_eq_some_iff.1 hu).1; rwa [cellsP_len] at this
  have hq : j / 5 < M.length := by omega
  obtain ⟨g', o', e1, _, h3⟩ := h (j / 5) M[j / 5] (List.getElem?_eq_getElem hq)
  cases e1
  have e : j / 5 * 5 + j % 5 = j := by omega
  have h4 := cellsP_get M (j / 5) (j % 5) _ (List.getElem?_eq_getElem hq) (by omega)
  rw [e, hu] at h4
  have h5 := h3 (j % 5) u h4.symm
  rw [Nat.add_assoc, e] at h5
  exact h5
/-- append of pages -/
theorem run_append_pgs {w : World} (ty : TypeId) {base n : Nat} {v : Value} {L : List Pg} (hA : w.ownsRow base 81 5 v n (cellsP L)) {a : Option Addr} {m cap : Nat} {M : List Pg} (hm : M.length = m) (hM : PgsAt w a M) (hnil : a = none → m = 0 ∧ cap = 0) (hpl : ∀ p, a = some p → p.spot = none) (h63 : n + m ≤ 1000000) (hbase : base ≤ w.heap.size) :
    ∃ v' w', (Builtin.append_ #[50, 50] ty #[v, .slice a m cap]).run Try.prog w = .ok v' w' ∧ w'.ownsRow base 81 5 v' (n + m) (cellsP (L ++ M)) ∧ w.grownBy w' v.ownBlock := by
  obtain ⟨i0, hi, h⟩ := Option.map_eq_some_iff.1 pginfo
  simp only [Prod.mk.injEq] at h
  cases a with
  | none =>
    obtain ⟨rfl, rfl⟩ := hnil rfl
    have hl : M = [] := List.length_eq_zero_iff.1 hm
    subst hl
    refine ⟨v, w, run_append_owned_none w base 50 ty 81 i0 5 Try.underlying50 hi v n _ hA, ?_, World.grownBy.refl w _⟩
    simpa using hA
  | some ad =>
    obtain ⟨g, o, sp⟩ := ad
    have hsp : sp = none := hpl _ rfl
    subst hsp
    obtain ⟨v', w', h4, h5, h6, _⟩ := run_append_own_at (P := Try.prog) w base 50 ty 81 i0 _ 5 40 Try.underlying50 hi h.1 h.2.1 h.2.2 rfl (by omega) v n (cellsP L) hA ⟨g, o, none⟩ m cap (cellsP M) (by rw [cellsP_len, hm])
      (fun j u hu => by rw [add_plain]; exact pgs_cells (m := m) hM j u hu) (cellsP_oneCell M) (by unfold maxLen; omega) (by omega) hbase
    exact ⟨v', w', h4, by rw [cellsP_app]; exact h5, h6⟩
theorem wpList_append_pgs {w : World} {ops : Array Oper} {rest : List Oper} {o : Oper} {A : Act} {Q : Exit → Act → World → Prop} (hgd : o.guard = none) (s x : Operand)
    (ho : o.op = .call { callee := .builtin .append, args := #[s, x], argTypes := #[50, 50] }) {base n : Nat} {v : Value} {L : List Pg} (hs : A.eval s = v) (hA : w.ownsRow base 81 5 v n (cellsP L))
    {a : Option Addr} {m cap : Nat} {M : List Pg} (hx : A.eval x = .slice a m cap) (hm : M.length = m) (hM : PgsAt w a M) (hnil : a = none → m = 0 ∧ cap = 0) (hpl : ∀ p, a = some p → p.spot = none) (h63 : n + m ≤ 1000000) (hbase : base ≤ w.heap.size)
    (h : ∀ v' w', w'.ownsRow base 81 5 v' (n + m) (cellsP (L ++ M)) → w.grownBy w' v.ownBlock → wpList Try.prog ops Q rest (A.put o.dst v') w') : wpList Try.prog ops Q (o :: rest) A w :=
  wpList_plain hgd fun _ hK => by
    obtain ⟨v', w', h1, h2, h3⟩ := run_append_pgs o.type hA hm hM hnil hpl h63 hbase
    unfold Oper.wp execOp
    simp only [ho, resolve, invoke, builtin, Sem.run_bind, Sem.run_pure, Result.andThen_ok, List.map_toArray, List.map_cons, List.map_nil, hs, hx, h1]
    exact hK _ _ (h v' w' h2 h3)
theorem fillP_any (p : Pg) (B : Array Value) (hB : B.size = 5) : Instr.fill (fun i => some (i * 5, 5)) B [(0, .agg (pgA p))] = some (pgA p) := by
  obtain ⟨l⟩ := B
  match l, hB with
  | [b0, b1, b2, b3, b4], _ =>
    unfold Instr.fill
    simp only [Value.cells, pgA, Nat.zero_mul]
    simp [Instr.fill]
theorem wpList_build_pg {w : World} {ops : Array Oper} {rest : List Oper} {o : Oper} {A : Act} {Q : Exit → Act → World → Prop} (hgd : o.guard = none) (x : Operand) (ho : o.op = .buildSlice 50 1 #[(0, x)])
    {p : Pg} (hx : A.eval x = .agg (pgA p)) (h : wpList Try.prog ops Q rest (A.put o.dst (.slice (some ⟨w.heap.size, 0, none⟩) 1 1)) (w.alloc (.cells (pgA p) 81))) : wpList Try.prog ops Q (o :: rest) A w := by
  obtain ⟨i0, hi, hh⟩ := Option.map_eq_some_iff.1 pginfo
  simp only [Prod.mk.injEq] at hh
  refine wpList_buildSlice hgd 50 81 1 _ ho (pgA p) i0 _ Try.underlying50 hi hh.1 (by rw [hh.2.1]; decide) (by rw [hh.2.1]; decide) ?_ h
  rw [hh.2.1]
  rw [show (Array.map (fun x : Nat × Operand => match x with | (i, x) => (i, A.eval x)) #[(0, x)]).toList = [(0, A.eval x)] by simp, hx]
  exact fillP_any p _ (by simp [pgA, Value.cells])
theorem pgs_blk {w : World} {g : Nat} {p : Pg} {t : TypeId} {z : Nat × Nat} (h : w.heap[g]? = some (.cells (pgA p) t z)) : PgsAt w (some ⟨g, 0, none⟩) [p] := by
  intro i q hq
  have hi : i = 0 := by have := (List.getElem?_eq_some_iff.1 hq).1; simpa using this
  subst hi
  have hpq : p = q := by simpa using hq
  subst hpq
  refine ⟨g, 0, rfl, lt_of_block h, fun j u hu => ?_⟩
  rw [Nat.zero_mul, Nat.zero_add, cells_at h j, ← hu, Array.getElem?_toList]
/-- an operation within a round, by its law outside -/
theorem wpListIn_of_wp {l n : Nat} {P : Program} {ops : Array Oper} {rest : List Oper} {o : Oper} {A : Act} {Q : Exit → Act → World → Prop} {w : World} (hgd : o.guard = none) (hd : ∀ c, o.op ≠ Op.defer c)
    (h : ∀ K : Act → World → Prop, (∀ a w, wpListIn (Fence.wide.inRound l) n P ops Q rest a w → K a w) → o.wp P A w K (OnlyG fun _ _ => False)) : wpListIn (Fence.wide.inRound l) n P ops Q (o :: rest) A w :=
  wpListIn_plain hgd fun K hK => ⟨fun _ _ => trivial, by
    show o.uponIn _ _ _ _ _ _ ((Oper.semAt (some l) A.eval o).run P w)
    rw [Oper.semAt_some l A.eval o hd]
    exact upon_roundG (Q := fun _ _ => False) (h K hK)⟩
theorem wpListIn_build_pg {l n : Nat} {w : World} {ops : Array Oper} {rest : List Oper} {o : Oper} {A : Act} {Q : Exit → Act → World → Prop} (hgd : o.guard = none) (x : Operand) (ho : o.op = .buildSlice 50 1 #[(0, x)])
    {p : Pg} (hx : A.eval x = .agg (pgA p)) (h : wpListIn (Fence.wide.inRound l) n Try.prog ops Q rest (A.put o.dst (.slice (some ⟨w.heap.size, 0, none⟩) 1 1)) (w.alloc (.cells (pgA p) 81))) : wpListIn (Fence.wide.inRound l) n Try.prog ops Q (o :: rest) A w := by
  obtain ⟨i0, hi, hh⟩ := Option.map_eq_some_iff.1 pginfo
  simp only [Prod.mk.injEq] at hh
  refine wpListIn_of_wp hgd (fun c hc => by rw [ho] at hc; cases hc) fun K hK => ?_
  refine wp_buildSlice 50 81 1 _ ho (pgA p) i0 _ Try.underlying50 hi hh.1 (by rw [hh.2.1]; decide) (by rw [hh.2.1]; decide) ?_ (hK _ _ h)
  rw [hh.2.1]
  rw [show (Array.map (fun x : Nat × Operand => match x with | (i, x) => (i, A.eval x)) #[(0, x)]).toList = [(0, A.eval x)] by simp, hx]
  exact fillP_any p _ (by simp [pgA, Value.cells])
theorem wpListIn_append_pgs {l k : Nat} {w : World} {ops : Array Oper} {rest : List Oper} {o : Oper} {A : Act} {Q : Exit → Act → World → Prop} (hgd : o.guard = none) (s x : Operand)
    (ho : o.op = .call { callee := .builtin .append, args := #[s, x], argTypes := #[50, 50] }) {base n : Nat} {v : Value} {L : List Pg} (hs : A.eval s = v) (hA : w.ownsRow base 81 5 v n (cellsP L))
    {a : Option Addr} {m cap : Nat} {M : List Pg} (hx : A.eval x = .slice a m cap) (hm : M.length = m) (hM : PgsAt w a M) (hnil : a = none → m = 0 ∧ cap = 0) (hpl : ∀ p, a = some p → p.spot = none) (h63 : n + m ≤ 1000000) (hbase : base ≤ w.heap.size)
    (h : ∀ v' w', w'.ownsRow base 81 5 v' (n + m) (cellsP (L ++ M)) → w.grownBy w' v.ownBlock → wpListIn (Fence.wide.inRound l) k Try.prog ops Q rest (A.put o.dst v') w') : wpListIn (Fence.wide.inRound l) k Try.prog ops Q (o :: rest) A w := by
  refine wpListIn_of_wp hgd (fun c hc => by rw [ho] at hc; cases hc) fun K hK => ?_
  obtain ⟨v', w', h1, h2, h3⟩ := run_append_pgs o.type hA hm hM hnil hpl h63 hbase
  unfold Oper.wp execOp
  simp only [ho, resolve, invoke, builtin, Sem.run_bind, Sem.run_pure, Result.andThen_ok, List.map_toArray, List.map_cons, List.map_nil, hs, hx, h1]
  exact hK _ _ (h v' w' h2 h3)
end Go.Proofs.Ytpbmjfjnmcpieaa
