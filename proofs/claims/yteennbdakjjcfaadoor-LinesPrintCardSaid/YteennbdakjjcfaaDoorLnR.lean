/- Rows of acts in memory. -/
import Derived.Test.YteennbdakjjcfaaDoorLnQ
import Derived.Great.BuildSlice
set_option linter.unusedVariables false
set_option linter.unusedSimpArgs false
namespace Go.Proofs.YteennbdakjjcfaaDoor
open Go Go.RowKit Go.Lib
def rowA (p : AN × Value) : List Value := (actA p.1 p.2).toList
def cellsA (xs : List (AN × Value)) : List Value := xs.flatMap rowA
theorem rowA_len (p : AN × Value) : (rowA p).length = 7 := rfl
theorem cellsA_len (xs : List (AN × Value)) : (cellsA xs).length = xs.length * 7 := by
  induction xs with
  | nil => rfl
  | cons x xs ih => unfold cellsA at *; rw [List.flatMap_cons, List.length_append, ih, rowA_len, List.length_cons]; omega
theorem cellsA_snoc (xs : List (AN × Value)) (p : AN × Value) : cellsA (xs ++ [p]) = cellsA xs ++ rowA p := by
  unfold cellsA; rw [List.flatMap_append]; simp
theorem cellsA_get : ∀ (xs : List (AN × Value)) (i j : Nat) (hi : i < xs.length), j < 7 → (cellsA xs)[i * 7 + j]? = (rowA xs[i])[j]?
  | x :: xs, 0, j, hi, hj => by
    show (rowA x ++ cellsA xs)[0 * 7 + j]? = _
    rw [Nat.zero_mul, Nat.zero_add, List.getElem?_append_left (by rw [rowA_len]; exact hj)]; rfl
  | x :: xs, i + 1, j, hi, hj => by
    show (rowA x ++ cellsA xs)[(i + 1) * 7 + j]? = _
    rw [List.getElem?_append_right (by rw [rowA_len]; omega), rowA_len, show (i + 1) * 7 + j - 7 = i * 7 + j by omega]
    exact cellsA_get xs i j (by simpa using hi) hj
/-- an act's bytes: not in block own -/
def Byt (w : World) (own : Option Nat) (a : AN) (u : Value) : Prop := ∃ va vc, u = .slice va a.b.length vc ∧ BytesAt w va vc a.b ∧ (va = none → vc = 0) ∧ (0 < a.b.length → ∀ g o z, va = some ⟨g, o, z⟩ → own ≠ some g)
def ActsAt (w : World) (base : Nat) (t : TypeId) (v : Value) (L : List AN) : Prop := ∃ xs : List (AN × Value), xs.map Prod.fst = L ∧ w.ownsRow base t 7 v xs.length (cellsA xs) ∧ ∀ p ∈ xs, Byt w v.ownBlock p.1 p.2
theorem actsAt_nil (w : World) (base : Nat) (t : TypeId) : ActsAt w base t (.slice none 0 0) [] := ⟨[], rfl, World.ownsRow_nil _ _ _ _, fun p h => by cases h⟩
theorem bytes_keep0 {w w' : World} {a : Option Addr} {cap : Nat} {l : List Nat} (hB : BytesAt w a cap l) (hk : 0 < l.length → ∀ g o, a = some ⟨g, o, none⟩ → g < w.heap.size → w'.heap[g]? = w.heap[g]?) : BytesAt w' a cap l := by
  rcases Nat.eq_zero_or_pos l.length with h | h
  · exact ⟨hB.1, fun h0 => by omega⟩
  · exact bytes_keep hB (hk h)
theorem Byt.up {w w' : World} {own : Option Nat} {a : AN} {u : Value} (h : Byt w own a u) {B : Nat} (hb : Below B w w') (hB : w.heap.size ≤ B) : Byt w' own a u := by
  obtain ⟨va, vc, h1, h2, h3, h4⟩ := h
  exact ⟨va, vc, h1, h2.up hb hB, h3, h4⟩
theorem Byt.grown {w w' : World} {own own' : Option Nat} {a : AN} {u : Value} (h : Byt w own a u) (hg : w.grownBy w' own) (ho : own' = own ∨ own' = some w.heap.size) : Byt w' own' a u := by
  obtain ⟨va, vc, h1, h2, h3, h4⟩ := h
  refine ⟨va, vc, h1, bytes_keep0 h2 (fun h0 g o hva hlt => hg.block g hlt (fun e => h4 h0 _ _ _ hva e.symm)), h3, fun h0 g o z hva => ?_⟩
  rcases ho with rfl | rfl
  · exact h4 h0 g o z hva
  · intro e
    obtain ⟨g', o', e1, _, e2, _⟩ := h2.2 h0
    rw [hva] at e1
    cases e1
    injection e with e
    omega
theorem ActsAt.up {w w' : World} {base : Nat} {t : TypeId} {v : Value} {L : List AN} (h : ActsAt w base t v L) (hb : Below w.heap.size w w') : ActsAt w' base t v L := by
  obtain ⟨xs, h1, h2, h3⟩ := h
  exact ⟨xs, h1, own_up h2 hb, fun p hp => (h3 p hp).up hb (Nat.le_refl _)⟩
theorem ActsAt.len {w : World} {base : Nat} {t : TypeId} {v : Value} {L : List AN} (h : ActsAt w base t v L) : ∃ a c, v = .slice a L.length c := by
  obtain ⟨xs, h1, h2, h3⟩ := h
  obtain ⟨a, c, e⟩ := own_sliceR h2
  exact ⟨a, c, by rw [e, ← h1, List.length_map]⟩
/-- one act of a row -/
theorem ActsAt.get {w : World} {base : Nat} {t : TypeId} {v : Value} {L : List AN} (h : ActsAt w base t v L) (i : Nat) (hi : i < L.length) : ∃ g c u, v = .slice (some ⟨g, 0, none⟩) L.length c ∧ g < w.heap.size ∧ base ≤ g ∧ w.rangeAt g (i * 7) (rowA (L[i], u)) ∧ Byt w v.ownBlock L[i] u := by
  obtain ⟨xs, rfl, h2, h3⟩ := h
  have hi' : i < xs.length := by simpa using hi
  obtain ⟨g, c, rfl, hb, hg⟩ := own_some h2 (by omega)
  refine ⟨g, c, xs[i].2, by rw [List.length_map], hg, hb, fun j u hu => ?_, ?_⟩
  · have hj : j < 7 := by have := (List.getElem?_eq_some_iff.1 hu).1; rwa [rowA_len] at this
    rw [h2.cellAt (i * 7 + j) (by omega), cellsA_get xs i j hi' hj, ← hu, List.getElem_map]
  · rw [List.getElem_map]; exact h3 _ (List.getElem_mem _)
theorem sinfo : (Tryd.prog.info? 44).map (fun i => (i.zero, i.size, i.bytes)) = some (some (.agg (actA zeroAct nilV)), 7, 72) := by kernel_rfl
theorem ginfo : (Tryd.prog.info? 27).map (fun i => (i.zero, i.size, i.bytes)) = some (some (.agg (actA zeroAct nilV)), 7, 72) := by kernel_rfl
theorem run_append_act {w : World} (T t ty : TypeId) (hT : Tryd.prog.underlying T = some (.slice t)) (hti : (Tryd.prog.info? t).map (fun i => (i.zero, i.size, i.bytes)) = some (some (.agg (actA zeroAct nilV)), 7, 72)) {base : Nat} {v : Value} {L : List AN} (hA : ActsAt w base t v L)
    {g : Nat} {a : AN} {u : Value} {tt : TypeId} {z : Nat × Nat} (hg : w.heap[g]? = some (.cells (actA a u) tt z)) (hB : Byt w v.ownBlock a u) (h63 : L.length + 1 ≤ 1000000) (hbase : base ≤ w.heap.size) :
    ∃ v' w', (Builtin.append_ #[T, T] ty #[v, .slice (some ⟨g, 0, none⟩) 1 1]).run Tryd.prog w = .ok v' w' ∧ ActsAt w' base t v' (L ++ [a]) ∧ w.grownBy w' v.ownBlock ∧ (v'.ownBlock = v.ownBlock ∨ v'.ownBlock = some w.heap.size) := by
  obtain ⟨xs, rfl, h2, h3⟩ := hA
  rw [List.length_map] at h63
  obtain ⟨i0, hi, h⟩ := Option.map_eq_some_iff.1 hti
  simp only [Prod.mk.injEq] at h
  obtain ⟨va, vc, rfl, hrest⟩ := id hB
  obtain ⟨v', w', h4, h5, h6, _, h7⟩ := run_append_own_at (P := Tryd.prog) w base T ty t i0 _ 7 72 hT hi h.1 h.2.1 h.2.2 rfl (by omega) v xs.length (cellsA xs) h2 ⟨g, 0, none⟩ 1 1 (actA a (.slice va a.b.length vc)).toList rfl
    (fun j y hj => by rw [add_plain, Nat.zero_add, cells_at hg j, ← hj, Array.getElem?_toList])
    (by have := actA_one a va a.b.length vc; rw [← Array.all_toList, List.all_eq_true] at this; exact this) (by unfold maxLen; omega) (by omega) hbase
  refine ⟨v', w', h4, ⟨xs ++ [(a, .slice va a.b.length vc)], by simp, ?_, fun p hp => ?_⟩, h6, h7⟩
  · rw [cellsA_snoc, List.length_append]; exact h5
  · rcases List.mem_append.1 hp with hp | hp
    · exact (h3 p hp).grown h6 h7
    · rw [List.mem_singleton] at hp
      subst hp
      exact hB.grown h6 h7
theorem wpList_append_act {w : World} {ops : Array Oper} {rest : List Oper} {o : Oper} {A : Act} {Q : Exit → Act → World → Prop} (hgd : o.guard = none) (T t : TypeId) (s x : Operand)
    (ho : o.op = .call { callee := .builtin .append, args := #[s, x], argTypes := #[T, T] }) (hT : Tryd.prog.underlying T = some (.slice t)) (hti : (Tryd.prog.info? t).map (fun i => (i.zero, i.size, i.bytes)) = some (some (.agg (actA zeroAct nilV)), 7, 72)) {base : Nat} {v : Value} {L : List AN} (hs : A.eval s = v) (hA : ActsAt w base t v L)
    {g : Nat} {a : AN} {u : Value} {tt : TypeId} {z : Nat × Nat} (hx : A.eval x = .slice (some ⟨g, 0, none⟩) 1 1) (hg : w.heap[g]? = some (.cells (actA a u) tt z)) (hB : Byt w v.ownBlock a u) (h63 : L.length + 1 ≤ 1000000) (hbase : base ≤ w.heap.size)
    (h : ∀ v' w', ActsAt w' base t v' (L ++ [a]) → w.grownBy w' v.ownBlock → (v'.ownBlock = v.ownBlock ∨ v'.ownBlock = some w.heap.size) → wpList Tryd.prog ops Q rest (A.put o.dst v') w') : wpList Tryd.prog ops Q (o :: rest) A w :=
  wpList_plain hgd fun _ hK => by
    obtain ⟨v', w', h1, h2, h3, h4⟩ := run_append_act T t o.type hT hti hA hg hB h63 hbase
    unfold Oper.wp execOp
    simp only [ho, resolve, invoke, builtin, Sem.run_bind, Sem.run_pure, Result.andThen_ok, List.map_toArray, List.map_cons, List.map_nil, hs, hx, h1]
    exact hK _ _ (h v' w' h2 h3 h4)
theorem fill_any (a : AN) (u : Value) (B : Array Value) (hB : B.size = 7) : Instr.fill (fun i => some (i * 7, 7)) B [(0, .agg (actA a u))] = some (actA a u) := by
  obtain ⟨l⟩ := B
  match l, hB with
  | [b0, b1, b2, b3, b4, b5, b6], _ =>
    unfold Instr.fill
    simp only [Value.cells, actA, Nat.zero_mul]
    simp [Instr.fill]
theorem fill_act (a : AN) (u : Value) : Instr.fill (fun i => some (i * 7, 7)) ((Array.range (1 * 7)).map ((Value.agg (actA zeroAct nilV)).cells[· % (Value.agg (actA zeroAct nilV)).cells.size]!)) [(0, .agg (actA a u))] = some (actA a u) :=
  fill_any a u _ (by simp)
theorem wpList_build_act {w : World} {ops : Array Oper} {rest : List Oper} {o : Oper} {A : Act} {Q : Exit → Act → World → Prop} (hgd : o.guard = none) (T t : TypeId) (x : Operand) (ho : o.op = .buildSlice T 1 #[(0, x)])
    (hT : Tryd.prog.underlying T = some (.slice t)) (hti : (Tryd.prog.info? t).map (fun i => (i.zero, i.size, i.bytes)) = some (some (.agg (actA zeroAct nilV)), 7, 72)) {a : AN} {u : Value} (hx : A.eval x = .agg (actA a u))
    (h : wpList Tryd.prog ops Q rest (A.put o.dst (.slice (some ⟨w.heap.size, 0, none⟩) 1 1)) (w.alloc (.cells (actA a u) t))) : wpList Tryd.prog ops Q (o :: rest) A w := by
  obtain ⟨i0, hi, hh⟩ := Option.map_eq_some_iff.1 hti
  simp only [Prod.mk.injEq] at hh
  refine wpList_buildSlice hgd T t 1 _ ho (actA a u) i0 _ hT hi hh.1 (by rw [hh.2.1]; decide) (by rw [hh.2.1]; decide) ?_ h
  rw [hh.2.1]
  rw [show (Array.map (fun x : Nat × Operand => match x with | (i, x) => (i, A.eval x)) #[(0, x)]).toList = [(0, A.eval x)] by simp, hx]
  exact fill_act a u
end Go.Proofs.YteennbdakjjcfaaDoor
