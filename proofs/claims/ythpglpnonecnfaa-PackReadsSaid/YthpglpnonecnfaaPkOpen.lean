/- A pack of the document (garderoberef36.Pack) as a parameter: what the reader reads of it. -/
import Derived.Test.YthpglpnonecnfaaPkE
import Derived.ChangeOld
set_option linter.unusedVariables false
namespace Go.Proofs.Ythpglpnonecnfaa
open Go Go.RowKit Go.ChangeShapes Go.WideShapes
theorem cSl : Try.prog.cellsOf 27 = 1 := by kernel_rfl
theorem cSs : Try.prog.cellsOf 22 = 1 := by kernel_rfl
theorem cU8 : Try.prog.cellsOf 5 = 1 := by kernel_rfl
theorem cInt : Try.prog.cellsOf 3 = 1 := by kernel_rfl
theorem cArr : Try.prog.cellsOf 23 = 16 := by kernel_rfl
theorem cPk : Try.prog.cellsOf 25 = 17 := by kernel_rfl
theorem spotless {w : World} {g o : Nat} {sp : Option Nat} {v : Value} (h : w.cell? ⟨g, o, sp⟩ = some v) : sp = none ∧ g < w.heap.size := by
  unfold World.cell? at h
  split at h
  · rename_i hh
    refine ⟨?_, lt_of_block hh⟩
    cases sp with
    | none => rfl
    | some x => simp at h
  · cases h
theorem slAt_row {w : World} {a : Option Addr} {len cap : Nat} {zs : List Int} (h : IsRow .u8 w a len cap zs) : ∃ l, SlAt w (.slice a len cap) l := by
  obtain ⟨l, hl, hb, hr⟩ := rowIn h
  refine ⟨l, ?_⟩
  rcases hr with ⟨hv, rfl⟩ | ⟨g, o, c, sp, hv, hlc, hcm, h0, hc⟩
  · injection hv with h1 h2 h3
    subst h1 h2 h3
    exact ⟨none, 0, rfl, ⟨hb, (fun h => by cases h)⟩, (fun _ => rfl), Nat.le_refl _, Nat.zero_le _⟩
  · injection hv with h1 h2 h3
    subst h1 h2 h3
    refine ⟨_, cap, rfl, ⟨hb, fun hp => ?_⟩, (fun h => by cases h), hlc, hcm⟩
    obtain ⟨rfl, hg⟩ := h0 hp
    exact ⟨g, o, rfl, hlc, hg, hc⟩
set_option maxRecDepth 100000 in
/-- a row of rows -/
theorem open_rows {H : Type} {enc : TypeId × Value → H} {W : World} {base n : Nat} {held : Bool} {cs : List Value} {x : DataW H × List MemPlace}
    (h : DataW.trod enc Try.prog W base (fun _ => true) held n 22 cs = some x) : ∃ a len cap L, cs = [.slice a len cap] ∧ L.length = len ∧ RowsAt W a L := by
  rcases DataW.trod_slice Try.underlying22 h with ⟨hcs, _⟩ | ⟨p, len, cap, elems, rest, n', _, hcs, _, hb, hlc, hcm, hlen, hel, _⟩
  · exact ⟨none, 0, 0, [], hcs, rfl, (fun i l h => by cases h)⟩
  · have key : ∀ i, i < len → ∃ l : List Nat, ∃ g o v, some p = some ⟨g, o, none⟩ ∧ g < W.heap.size ∧ W.cell? ⟨g, o + i, none⟩ = some v ∧ SlAt W v l := by
      intro i hi
      have hp : p.spot = none ∧ p.block < W.heap.size := by
        have h0 := hel 0 (by omega)
        rw [List.getElem?_eq_getElem (by omega), cSl] at h0
        obtain ⟨cs, h1, h2⟩ := Option.bind_eq_some_iff.1 h0
        obtain ⟨_, hl1, hc⟩ := World.cells?_some h1
        have hc0 := hc 0 (by omega)
        rw [List.getElem?_eq_getElem (by omega)] at hc0
        simp only [Addr.add, Nat.zero_mul, if_true] at hc0
        obtain ⟨g, o, sp⟩ := p
        exact spotless hc0
      obtain ⟨g, o, sp⟩ := p
      obtain ⟨hp, hg⟩ := hp
      simp only at hp hg
      subst hp
      have h0 := hel i hi
      rw [List.getElem?_eq_getElem (by omega), cSl, Nat.mul_one, add_plain] at h0
      obtain ⟨cs, h1, h2⟩ := Option.bind_eq_some_iff.1 h0
      obtain ⟨_, hl1, hc⟩ := World.cells?_some h1
      have g0 := hc 0 (by omega)
      rw [add_plain, Nat.add_zero] at g0
      rcases open_ints Try.underlying27 Try.underlying5 cU8 h2 with ⟨hcs, _⟩ | ⟨q, l, c, zs, hcs, _, hll, hm, hz, _, hcell, hwz⟩
      · rw [hcs] at g0
        obtain ⟨l, hs⟩ := slAt_row (w := W) (.inl ⟨rfl, rfl, rfl, rfl⟩ : IsRow .u8 W none 0 0 [])
        exact ⟨l, g, o, _, rfl, hg, g0, hs⟩
      · rw [hcs] at g0
        obtain ⟨l, hs⟩ := slAt_row (w := W) (.inr ⟨_, rfl, hll, hm, by simpa using hz, hcell, hwz⟩ : IsRow .u8 W (some q) l c zs)
        exact ⟨l, g, o, _, rfl, hg, g0, hs⟩
    have hex : ∃ f : Nat → List Nat, ∀ i, i < len → ∃ g o v, some p = some ⟨g, o, none⟩ ∧ g < W.heap.size ∧ W.cell? ⟨g, o + i, none⟩ = some v ∧ SlAt W v (f i) := by
      refine ⟨fun i => if h : i < len then (key i h).choose else [], fun i hi => ?_⟩
      simp only [hi, dif_pos]
      exact (key i hi).choose_spec
    obtain ⟨f, hf⟩ := hex
    refine ⟨some p, len, cap, (List.range len).map f, hcs, by simp, fun i l hl => ?_⟩
    have hi : i < len := by
      have := (List.getElem?_eq_some_iff.1 hl).1; simpa using this
    rw [List.getElem?_eq_getElem (by simpa using hi)] at hl
    simp at hl
    rw [← hl]
    exact hf i hi
set_option maxRecDepth 100000 in
/-- an array of sixteen numbers -/
theorem open_sixteen {H : Type} {enc : TypeId × Value → H} {W : World} {base n : Nat} {held : Bool} {cs : List Value} {x : DataW H × List MemPlace}
    (h : DataW.trod enc Try.prog W base (fun _ => true) held n 23 cs = some x) : ∃ R : List Int, cs = (R.map fun (n : Int) => Value.int .i64 n) ∧ R.length = 16 ∧ ∀ r ∈ R, (Lit.int .i64 r).wf = true := by
  obtain ⟨xs, m, _, _, hl, hxl, hel⟩ := DataW.trod_array Try.underlying23 h
  rw [cArr] at hl
  have key : ∀ i, i < 16 → ∃ z : Int, (Lit.int .i64 z).wf = true ∧ cs[i]? = some (.int .i64 z) := by
    intro i hi
    have h1 := hel i hi
    rw [cInt, Nat.mul_one, List.getElem?_eq_getElem (by omega)] at h1
    obtain ⟨z, h2, _, hw⟩ := DataW.trod_int Try.underlying3 h1
    rw [List.take_one] at h2
    have h3 : cs[i]? = some (.int .i64 z) := by simpa using h2
    exact ⟨z, hw, h3⟩
  have hex : ∃ f : Nat → Int, ∀ i, i < 16 → (Lit.int .i64 (f i)).wf = true ∧ cs[i]? = some (.int .i64 (f i)) := by
    refine ⟨fun i => if h : i < 16 then (key i h).choose else 0, fun i hi => ?_⟩
    simp only [hi, dif_pos]
    exact (key i hi).choose_spec
  obtain ⟨f, hf⟩ := hex
  refine ⟨(List.range 16).map f, ?_, by simp, fun r hr => ?_⟩
  · apply List.ext_getElem?
    intro i
    by_cases hi : i < 16
    · rw [(hf i hi).2]; simp [hi]
    · rw [List.getElem?_eq_none (by omega), List.getElem?_eq_none (by simp; omega)]
  · simp at hr
    obtain ⟨i, hi, rfl⟩ := hr
    exact (hf i hi).1
set_option maxRecDepth 100000 in
/-- the parameter -/
theorem open_pack {H : Type} {enc : TypeId × Value → H} {W W' : World} {base b0 : Nat} {held : Bool} {r : Reach} {v : Value} {d : DataW H} {ps : List MemPlace}
    (hval : Value.okWide Try.prog W' r b0 25 v) (hd : DataW.Trod enc Try.prog W base (fun _ => true) held 25 v d ps) :
    ∃ a len cap L R, v = .agg (packA (.slice a len cap) R) ∧ L.length = len ∧ R.length = 16 ∧ (∀ r ∈ R, (Lit.int .i64 r).wf = true) ∧ RowsAt W a L := by
  have hv : ∃ cs, v = .agg cs := by
    simp only [Value.okWide, Try.underlying25] at hval
    obtain ⟨cs, h, _⟩ := hval
    exact ⟨cs, h⟩
  obtain ⟨cs, rfl⟩ := hv
  obtain ⟨fuel, hf⟩ := hd
  simp only [Value.cells] at hf
  obtain ⟨xs, m, _, _, hl, hxl, hel⟩ := DataW.trod_struct Try.underlying25 hf
  rw [cPk] at hl
  have h0 : DataW.trod enc Try.prog W base (fun _ => true) held m 22 ((cs.toList.drop 0).take (Try.prog.cellsOf 22)) = xs[0]? := hel 0 _ rfl
  have h1 : DataW.trod enc Try.prog W base (fun _ => true) held m 23 ((cs.toList.drop 1).take (Try.prog.cellsOf 23)) = xs[1]? := hel 1 _ rfl
  have hx : xs.length = 2 := hxl
  rw [cSs, List.getElem?_eq_getElem (by omega)] at h0
  rw [cArr, List.getElem?_eq_getElem (by omega)] at h1
  obtain ⟨a, len, cap, L, e0, hL, hrows⟩ := open_rows h0
  obtain ⟨R, e1, hR, hw⟩ := open_sixteen h1
  refine ⟨a, len, cap, L, R, ?_, hL, hR, hw, hrows⟩
  congr 1
  apply Array.toList_inj.1
  have e2 : cs.toList = (cs.toList.drop 0).take 1 ++ (cs.toList.drop 1).take 16 := by
    rw [List.drop_zero, List.take_of_length_le (l := cs.toList.drop 1) (by rw [List.length_drop]; omega)]
    exact (List.take_append_drop 1 _).symm
  rw [e2, e0, e1]
  simp [packA]
end Go.Proofs.Ythpglpnonecnfaa
