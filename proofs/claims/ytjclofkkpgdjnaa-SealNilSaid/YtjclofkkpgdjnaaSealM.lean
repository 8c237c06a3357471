/- A map of nonces: look-up and store, entries in order of their coming. -/
import Derived.Test.YtjclofkkpgdjnaaSealA
import Derived.Maps.Keyed
import Derived.DeepKeys4
set_option linter.unusedVariables false
set_option linter.unusedSimpArgs false
namespace Go.Proofs.Ytjclofkkpgdjnaa
open Go Go.RowKit GfM
def nonV (x : Nat × Nat) : Value := .agg #[.int .u64 (x.1 : Int), .int .i64 (x.2 : Int)]
theorem non_wide : (match Try.prog.underlying 38 with | some (.array _ _) | some (.struct _) => true | _ => false) = true := by kernel_rfl
set_option maxRecDepth 100000 in
theorem non_keyed : Go.Maps.Keyed Try.prog 38 := Go.Maps.Keyed.of_law (deep_law (m := 3) (by omega) (by kernel_rfl) (by kernel_rfl) non_wide)
theorem c85 : Try.prog.cellsOf 38 = 2 := by kernel_rfl
theorem c41 : Try.prog.cellsOf 31 = 1 := by kernel_rfl
theorem c3 : Try.prog.cellsOf 3 = 1 := by kernel_rfl
theorem non_lits (d e b : Nat) (he : (Lit.int .u64 (e : Int)).wf = true) (hb : (Lit.int .i64 (b : Int)).wf = true) : Try.prog.keyLits (d + 2) 38 [.int .u64 (e : Int), .int .i64 (b : Int)] = some [.int .u64 (e : Int), .int .i64 (b : Int)] := by
  simp [Program.keyLits, Try.underlying38, Try.underlying31, Try.underlying3, c85, c41, c3, he, hb]
  done
theorem non_key (x : Nat × Nat) (h1 : x.1 < 18446744073709551616) (h2 : x.2 < 9223372036854775808) : ∃ l, Go.keyOf Try.prog 38 (nonV x) = some l := by
  have he : (Lit.int .u64 (x.1 : Int)).wf = true := by
    have hmin : IntKind.u64.min = 0 := rfl
    have hmax : IntKind.u64.max = 18446744073709551615 := rfl
    simp only [Lit.wf, Bool.and_eq_true, decide_eq_true_eq]; omega
  have hb : (Lit.int .i64 (x.2 : Int)).wf = true := by
    have hmin : IntKind.i64.min = -9223372036854775808 := rfl
    have hmax : IntKind.i64.max = 9223372036854775807 := rfl
    simp only [Lit.wf, Bool.and_eq_true, decide_eq_true_eq]; omega
  have hk : Try.prog.keyType 38 = true := by kernel_rfl
  have hf : (nonV x).formed Try.prog 38 = true := by
    unfold nonV
    simp [Value.formed, Try.underlying38, c85]
  obtain ⟨d, hd⟩ : ∃ d, Try.prog.types.size + 1 = d + 2 := by
    have h0 : decide (0 < Try.prog.types.size) = true := by kernel_rfl
    have h0' := of_decide_eq_true h0
    exact ⟨Try.prog.types.size - 1, by omega⟩
  refine ⟨.string (keyBytes [.int .u64 (x.1 : Int), .int .i64 (x.2 : Int)]), ?_⟩
  unfold Go.keyOf
  rw [Try.underlying38]
  simp only [hk, hf, Bool.and_self, if_true, hd]
  rw [show (nonV x).cells.toList = [.int .u64 (x.1 : Int), .int .i64 (x.2 : Int)] from rfl, non_lits d _ _ he hb]
  rfl
/-- an entry's value -/
def entV (q cp : Nat) : Value := .slice (some ⟨q, 0, none⟩) 256 cp
structure EntIs (w : World) (e : MapEntry) (x : (Nat × Nat) × List Nat) : Prop where
  key : e.key = nonV x.1
  rng : x.1.1 < 18446744073709551616 ∧ x.1.2 < 9223372036854775808
  val : ∃ q cp, e.val = entV q cp ∧ BytesAt w (some ⟨q, 0, none⟩) cp x.2
  len : x.2.length = 256
theorem EntIs.up {w w' : World} {e : MapEntry} {x : (Nat × Nat) × List Nat} (h : EntIs w e x) {B : Nat} (hb : Below B w w') (hB : w.heap.size ≤ B) : EntIs w' e x := by
  obtain ⟨q, cp, h1, h2⟩ := h.val
  exact ⟨h.key, h.rng, ⟨q, cp, h1, h2.up hb hB⟩, h.len⟩
/-- block m is a map of these entries -/
def MapIs (w : World) (m : Nat) (M : List ((Nat × Nat) × List Nat)) : Prop :=
  ∃ es clock, w.heap[m]? = some (.map es clock) ∧ es.size = M.length ∧ (∀ (i : Nat) e x, es[i]? = some e → M[i]? = some x → EntIs w e x) ∧ M.Pairwise (fun x y => x.1 ≠ y.1)
theorem nonV_inj {x y : Nat × Nat} (h : nonV x = nonV y) : x = y := by
  obtain ⟨a, b⟩ := x; obtain ⟨c, d⟩ := y
  simp [nonV] at h
  exact Prod.ext (by omega) (by omega)
set_option maxRecDepth 100000 in
/-- v, ok := m[n] -/
theorem run_look {w : World} {m : Nat} {M : List ((Nat × Nat) × List Nat)} (h : MapIs w m M) (n : Nat × Nat) (h1 : n.1 < 18446744073709551616) (h2 : n.2 < 9223372036854775808) :
    ((Instr.lookup 73 (.map (some m)) (nonV n) true).run Try.prog w = .ok (.tuple #[.slice none 0 0, .bool false]) w ∧ ∀ x ∈ M, x.1 ≠ n) ∨
    ∃ x ∈ M, x.1 = n ∧ x.2.length = 256 ∧ ∃ q cp, BytesAt w (some ⟨q, 0, none⟩) cp x.2 ∧ (Instr.lookup 73 (.map (some m)) (nonV n) true).run Try.prog w = .ok (.tuple #[entV q cp, .bool true]) w := by
  obtain ⟨es, clock, hb, hlen, hF, hP⟩ := h
  obtain ⟨l, hl⟩ := non_key n h1 h2
  have hgo : ∀ (i : Nat) e, es[i]? = some e → ∃ x ∈ M, EntIs w e x := fun i e he => by
    have hi := (Array.getElem?_eq_some_iff.1 he).1
    have hm : i < M.length := by omega
    exact ⟨M[i], List.getElem_mem hm, hF i e _ he (List.getElem?_eq_getElem hm)⟩
  have hall : ∀ e ∈ es.toList, ∃ l, Go.keyOf Try.prog 38 e.key = some l := by
    intro e he
    obtain ⟨i, hi, hie⟩ := List.getElem_of_mem he
    obtain ⟨x, _, hx⟩ := hgo i e (by rw [← Array.getElem?_toList, List.getElem?_eq_getElem hi, hie])
    rw [hx.key]
    exact non_key _ hx.rng.1 hx.rng.2
  have ht := Try.underlying73
  have hz : (zeroValue 32).run Try.prog w = .ok (.slice none 0 0) w := by first | rfl | go_simp
  rcases non_keyed.find w hl es.toList hall with ⟨f1, f2⟩ | ⟨j, e0, f1, f2, f3⟩
  · refine Or.inl ⟨by simp [Instr.lookup, run_underlying ht, MapKept.run_getObj_map hb, non_keyed.check w _ hl, f1, hz, Result.andThen], fun x hx he => ?_⟩
    obtain ⟨i, hi, hie⟩ := List.getElem_of_mem hx
    have he' : es[i]? = some es[i] := Array.getElem?_eq_getElem (by omega)
    have hx2 := hF i _ x he' (by rw [List.getElem?_eq_getElem hi, hie])
    exact f2 es[i] (by simp) (by rw [hx2.key, he])
  · rw [Array.getElem?_toList] at f2
    obtain ⟨x, hx, hE⟩ := hgo j e0 f2
    obtain ⟨q, cp, hv, hB⟩ := hE.val
    refine Or.inr ⟨x, hx, nonV_inj (hE.key.symm.trans f3), hE.len, q, cp, hB, ?_⟩
    rw [← hv]
    simp [Instr.lookup, run_underlying ht, MapKept.run_getObj_map hb, non_keyed.check w _ hl, f1, Result.andThen]
theorem bytes_ne {w : World} {q cp m : Nat} {l : List Nat} (hB : BytesAt w (some ⟨q, 0, none⟩) cp l) (hl : 0 < l.length) {es : Array MapEntry} {clock : Nat} (hm : w.heap[m]? = some (.map es clock)) : q ≠ m := by
  rintro rfl
  obtain ⟨g, o, h1, h2, h3, h4⟩ := hB.2 hl
  cases h1
  have := h4 0 hl
  simp [World.cell?, hm] at this
theorem bytes_keep {w w' : World} {q cp : Nat} {l : List Nat} (hB : BytesAt w (some ⟨q, 0, none⟩) cp l) (he : w'.heap[q]? = w.heap[q]?) : BytesAt w' (some ⟨q, 0, none⟩) cp l := by
  refine ⟨hB.1, fun h0 => ?_⟩
  obtain ⟨g, o, h1, h2, h3, h4⟩ := hB.2 h0
  cases h1
  refine ⟨_, _, rfl, h2, ?_, fun j hj => ?_⟩
  · have := he.trans (Array.getElem?_eq_getElem h3)
    exact (Array.getElem?_eq_some_iff.1 this).1
  · rw [← h4 j hj]; simp [World.cell?, he]
/-- m[n] = v where n is not there -/
theorem run_put {w : World} {m : Nat} {M : List ((Nat × Nat) × List Nat)} (h : MapIs w m M) (n : Nat × Nat) (h1 : n.1 < 18446744073709551616) (h2 : n.2 < 9223372036854775808) (hn : ∀ x ∈ M, x.1 ≠ n)
    (q cp : Nat) (l : List Nat) (hl : l.length = 256) (hB : BytesAt w (some ⟨q, 0, none⟩) cp l) (hqm : q ≠ m) :
    ∃ w', (Instr.mapUpdate 73 (.map (some m)) (nonV n) (entV q cp)).run Try.prog w = .ok () w' ∧ MapIs w' m (M ++ [(n, l)]) ∧ w.grownBy w' (some m) := by
  obtain ⟨es, clock, hb, hlen, hF, hP⟩ := h
  obtain ⟨lk, hlk⟩ := non_key n h1 h2
  have hgo : ∀ (i : Nat) e, es[i]? = some e → ∃ x ∈ M, EntIs w e x := fun i e he => by
    have hi := (Array.getElem?_eq_some_iff.1 he).1
    have hm : i < M.length := by omega
    exact ⟨M[i], List.getElem_mem hm, hF i e _ he (List.getElem?_eq_getElem hm)⟩
  have hall : ∀ e ∈ es.toList, ∃ l, Go.keyOf Try.prog 38 e.key = some l := by
    intro e he
    obtain ⟨i, hi, hie⟩ := List.getElem_of_mem he
    obtain ⟨x, _, hx⟩ := hgo i e (by rw [← Array.getElem?_toList, List.getElem?_eq_getElem hi, hie])
    rw [hx.key]
    exact non_key _ hx.rng.1 hx.rng.2
  have ht := Try.underlying73
  rcases non_keyed.find w hlk es.toList hall with ⟨f1, f2⟩ | ⟨j, e0, f1, f2, f3⟩
  · have hgr : w.grownBy (ChangeMaps.setBlock w m (.map (es.push ⟨nonV n, entV q cp, clock⟩) (clock + 1))) (some m) :=
      ⟨rfl, rfl, rfl, by simp [ChangeMaps.setBlock], fun i _ hi => ChangeMaps.heap_setBlock_other hb _ (fun e => hi (by rw [e]))⟩
    refine ⟨_, ?_, ⟨es.push ⟨nonV n, entV q cp, clock⟩, clock + 1, ChangeMaps.heap_setBlock_same hb _, by simp [hlen], ?_, ?_⟩, hgr⟩
    · simp [Instr.mapUpdate, run_underlying ht, MapKept.run_getObj_map hb, non_keyed.check w false hlk, f1, MapKept.run_setObj_map _ hb, Result.andThen, ChangeMaps.setBlock]
    · intro i e x he hx
      rw [Array.getElem?_push] at he
      rw [List.getElem?_append] at hx
      by_cases hi : i = es.size
      · rw [if_pos hi] at he
        rw [if_neg (by omega), hi, hlen] at hx
        simp at hx he
        subst hx; subst he
        exact ⟨rfl, ⟨h1, h2⟩, ⟨q, cp, rfl, bytes_keep hB (hgr.block q (by
          obtain ⟨g, o, e1, _, e3, _⟩ := hB.2 (by rw [hl]; decide)
          cases e1; exact e3) (fun e => hqm (by simpa using e)))⟩, hl⟩
      · rw [if_neg hi] at he
        have hi2 : i < M.length := by have := (Array.getElem?_eq_some_iff.1 he).1; omega
        rw [if_pos hi2] at hx
        have hE := hF i e x he hx
        obtain ⟨q', cp', hv, hB'⟩ := hE.val
        have hne := bytes_ne hB' (by have := hE.len; omega) hb
        refine ⟨hE.key, hE.rng, ⟨q', cp', hv, bytes_keep hB' (hgr.block q' ?_ (fun e => hne (by simpa using e)))⟩, hE.len⟩
        obtain ⟨g, o, e1, _, e3, _⟩ := hB'.2 (by have := hE.len; omega)
        cases e1; exact e3
    · rw [List.pairwise_append]
      exact ⟨hP, by simp, fun x hx y hy => by simp at hy; subst hy; exact hn x hx⟩
  · rw [Array.getElem?_toList] at f2
    obtain ⟨x, hx, hE⟩ := hgo j e0 f2
    exact absurd (nonV_inj (hE.key.symm.trans f3)) (hn x hx)
end Go.Proofs.Ytjclofkkpgdjnaa
