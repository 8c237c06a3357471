/- Texts OpOpen, put together by pack.py. -/
import Derived.Test.YtinjafacnekkcaaSPi
import Derived.Test.YtinjafacnekkcaaSPa
import Derived.ChangeOld
set_option linter.unusedVariables false
set_option linter.unusedSimpArgs false
namespace Go.Proofs.Ytinjafacnekkcaa
open Go Go.RowKit Go.ChangeShapes Go.WideShapes
structure OpRow where
  kd : Int
  ep : Int
  bk : Int
  pa : Option Addr
  pl : Nat
  pc : Nat
/-- the calls lie in the slice -/
def OpsIn (w : World) (a : Option Addr) (len cap : Nat) (L : List OpRow) : Prop :=
  L.length = len ∧ len ≤ cap ∧ cap ≤ maxLen ∧ ∀ (i : Nat) r, L[i]? = some r → (Lit.int .u64 r.ep).wf = true ∧ (Lit.int .i64 r.bk).wf = true ∧ (∃ zs, IsRow .u8 w r.pa r.pl r.pc zs) ∧
    ∃ g o, a = some ⟨g, o, none⟩ ∧ g < w.heap.size ∧ w.cell? ⟨g, o + i * 4, none⟩ = some (.int .i64 r.kd) ∧ w.cell? ⟨g, o + i * 4 + 1, none⟩ = some (.int .u64 r.ep) ∧ w.cell? ⟨g, o + i * 4 + 2, none⟩ = some (.int .i64 r.bk) ∧ w.cell? ⟨g, o + i * 4 + 3, none⟩ = some (.slice r.pa r.pl r.pc)
theorem four81 : Try.prog.cellsOf 37 = 4 := by kernel_rfl
theorem oneI : Try.prog.cellsOf 3 = 1 := by kernel_rfl
theorem oneU : Try.prog.cellsOf 31 = 1 := by kernel_rfl
theorem oneS : Try.prog.cellsOf 29 = 1 := by kernel_rfl
theorem oneB : Try.prog.cellsOf 5 = 1 := by kernel_rfl
theorem spot_none {w : World} {g o : Nat} {sp : Option Nat} {v : Value} (h : w.cell? ⟨g, o, sp⟩ = some v) : sp = none := by
  unfold World.cell? at h
  split at h
  · cases sp with
    | none => rfl
    | some x => simp at h
  · cases h
theorem cell_lt {w : World} {p : Addr} {v : Value} (h : w.cell? p = some v) : p.block < w.heap.size := by
  unfold World.cell? at h
  split at h
  · rename_i hh; exact lt_of_block hh
  · cases h
theorem add_pl (g o j : Nat) : (⟨g, o, none⟩ : Addr).add j = ⟨g, o + j, none⟩ := by
  unfold Addr.add; split
  · next h => subst h; rfl
  · rfl
theorem four_of {l : List Value} (h : l.length = 4) : ∃ x0 x1 x2 x3, l = [x0, x1, x2, x3] := by
  match l, h with
  | [x0, x1, x2, x3], _ => exact ⟨x0, x1, x2, x3, rfl⟩
theorem one_of {l : List Value} (h : l.length = 4) (j : Nat) (hj : j < 4) {v : Value} (h1 : (l.drop j).take 1 = [v]) : l[j]? = some v := by
  have := congrArg (fun l => l[0]?) h1
  simpa using this
set_option maxRecDepth 100000 in
/-- one call -/
theorem open_op {H : Type} {enc : TypeId × Value → H} {W : World} {base n : Nat} {held : Bool} {cs : List Value} {x : DataW H × List MemPlace}
    (h : DataW.trod enc Try.prog W base (fun _ => true) held n 37 cs = some x) :
    ∃ r : OpRow, cs = [.int .i64 r.kd, .int .u64 r.ep, .int .i64 r.bk, .slice r.pa r.pl r.pc] ∧ (Lit.int .u64 r.ep).wf = true ∧ (Lit.int .i64 r.bk).wf = true ∧ ∃ zs, IsRow .u8 W r.pa r.pl r.pc zs := by
  obtain ⟨xs, m, _, _, hl, hxl, hel⟩ := DataW.trod_struct Try.underlying37 h
  rw [four81] at hl
  have h0 : DataW.trod enc Try.prog W base (fun _ => true) held m 3 ((cs.drop 0).take (Try.prog.cellsOf 3)) = xs[0]? := hel 0 _ rfl
  have h1 : DataW.trod enc Try.prog W base (fun _ => true) held m 31 ((cs.drop 1).take (Try.prog.cellsOf 31)) = xs[1]? := hel 1 _ rfl
  have h2 : DataW.trod enc Try.prog W base (fun _ => true) held m 3 ((cs.drop 2).take (Try.prog.cellsOf 3)) = xs[2]? := hel 2 _ rfl
  have h3 : DataW.trod enc Try.prog W base (fun _ => true) held m 29 ((cs.drop 3).take (Try.prog.cellsOf 29)) = xs[3]? := hel 3 _ rfl
  rw [oneI] at h0 h2
  rw [oneU] at h1
  rw [oneS] at h3
  have hx : xs.length = 4 := hxl
  rw [List.getElem?_eq_getElem (by omega)] at h0 h1 h2 h3
  obtain ⟨k, e0, _, _⟩ := DataW.trod_int Try.underlying3 h0
  obtain ⟨ep, e1, _, w1⟩ := DataW.trod_int Try.underlying31 h1
  obtain ⟨bk, e2, _, w2⟩ := DataW.trod_int Try.underlying3 h2
  have c0 := one_of hl 0 (by omega) e0
  have c1 := one_of hl 1 (by omega) e1
  have c2 := one_of hl 2 (by omega) e2
  have fin : ∀ (pa : Option Addr) (pl pc : Nat), cs[3]? = some (.slice pa pl pc) → (∃ zs, IsRow .u8 W pa pl pc zs) → ∃ r : OpRow, cs = [.int .i64 r.kd, .int .u64 r.ep, .int .i64 r.bk, .slice r.pa r.pl r.pc] ∧ (Lit.int .u64 r.ep).wf = true ∧ (Lit.int .i64 r.bk).wf = true ∧ ∃ zs, IsRow .u8 W r.pa r.pl r.pc zs := by
    intro pa pl pc c3 hr
    refine ⟨⟨k, ep, bk, pa, pl, pc⟩, ?_, w1, w2, hr⟩
    obtain ⟨x0, x1, x2, x3, hcs⟩ := four_of hl
    rw [hcs] at c0 c1 c2 c3
    simp at c0 c1 c2 c3
    rw [hcs, c0, c1, c2, c3]
  rcases open_ints Try.underlying29 Try.underlying5 oneB h3 with ⟨hcs, _⟩ | ⟨p, l, c, zs, hcs, _, hll, hm, hz, _, hcell, hwz⟩
  · exact fin none 0 0 (one_of hl 3 (by omega) hcs) ⟨[], .inl ⟨rfl, rfl, rfl, rfl⟩⟩
  · exact fin (some p) l c (one_of hl 3 (by omega) hcs) ⟨zs, .inr ⟨_, rfl, hll, hm, by simpa using hz, hcell, hwz⟩⟩
set_option maxRecDepth 100000 in
/-- the parameter -/
theorem open_ops {H : Type} {enc : TypeId × Value → H} {W W' : World} {base b0 : Nat} {held : Bool} {r : Reach} {v : Value} {d : DataW H} {ps : List MemPlace}
    (hval : Value.okWide Try.prog W' r b0 23 v) (hd : DataW.Trod enc Try.prog W base (fun _ => true) held 23 v d ps) : ∃ a len cap L, v = .slice a len cap ∧ OpsIn W a len cap L := by
  obtain ⟨a, len, cap, rfl⟩ := okWide_slice Try.underlying23 hval
  obtain ⟨fuel, hf⟩ := hd
  simp only [Value.cells] at hf
  rcases DataW.trod_slice Try.underlying23 hf with ⟨hcs, _⟩ | ⟨p, len', cap', elems, rest, n, _, hcs, _, hb, hlc, hcm, hlen, hel, _⟩
  · simp at hcs
    obtain ⟨rfl, rfl, rfl⟩ := hcs
    exact ⟨none, 0, 0, [], rfl, rfl, Nat.le_refl _, Nat.zero_le _, by simp⟩
  · simp at hcs
    obtain ⟨rfl, rfl, rfl⟩ := hcs
    have key : ∀ i, i < len → ∃ r : OpRow, (Lit.int .u64 r.ep).wf = true ∧ (Lit.int .i64 r.bk).wf = true ∧ (∃ zs, IsRow .u8 W r.pa r.pl r.pc zs) ∧
        ∃ g o, some p = some ⟨g, o, none⟩ ∧ g < W.heap.size ∧ W.cell? ⟨g, o + i * 4, none⟩ = some (.int .i64 r.kd) ∧ W.cell? ⟨g, o + i * 4 + 1, none⟩ = some (.int .u64 r.ep) ∧ W.cell? ⟨g, o + i * 4 + 2, none⟩ = some (.int .i64 r.bk) ∧ W.cell? ⟨g, o + i * 4 + 3, none⟩ = some (.slice r.pa r.pl r.pc) := by
      intro i hi
      -- the address bears no spot: its first cell is there
      have hp : p.spot = none := by
        have h0 := hel 0 (by omega)
        rw [List.getElem?_eq_getElem (by omega), four81] at h0
        obtain ⟨cs, h1, h2⟩ := Option.bind_eq_some_iff.1 h0
        obtain ⟨_, hl4, hc⟩ := World.cells?_some h1
        have hc0 := hc 0 (by omega)
        rw [List.getElem?_eq_getElem (by omega)] at hc0
        simp only [Addr.add, Nat.zero_mul, if_true] at hc0
        obtain ⟨g, o, sp⟩ := p
        exact spot_none hc0
      obtain ⟨g, o, sp⟩ := p
      simp only at hp
      subst hp
      have h0 := hel i hi
      rw [List.getElem?_eq_getElem (by omega), four81, add_pl] at h0
      obtain ⟨cs, h1, h2⟩ := Option.bind_eq_some_iff.1 h0
      obtain ⟨_, hl4, hc⟩ := World.cells?_some h1
      obtain ⟨r, hcs, w1, w2, hr⟩ := open_op h2
      have g0 := hc 0 (by omega)
      have g1 := hc 1 (by omega)
      have g2 := hc 2 (by omega)
      have g3 := hc 3 (by omega)
      rw [hcs] at g0 g1 g2 g3
      rw [add_pl] at g0 g1 g2 g3
      exact ⟨r, w1, w2, hr, g, o, rfl, cell_lt g0, g0, g1, g2, g3⟩
    have hex : ∃ f : Nat → OpRow, ∀ i, i < len → (Lit.int .u64 (f i).ep).wf = true ∧ (Lit.int .i64 (f i).bk).wf = true ∧ (∃ zs, IsRow .u8 W (f i).pa (f i).pl (f i).pc zs) ∧
        ∃ g o, some p = some ⟨g, o, none⟩ ∧ g < W.heap.size ∧ W.cell? ⟨g, o + i * 4, none⟩ = some (.int .i64 (f i).kd) ∧ W.cell? ⟨g, o + i * 4 + 1, none⟩ = some (.int .u64 (f i).ep) ∧ W.cell? ⟨g, o + i * 4 + 2, none⟩ = some (.int .i64 (f i).bk) ∧ W.cell? ⟨g, o + i * 4 + 3, none⟩ = some (.slice (f i).pa (f i).pl (f i).pc) := by
      refine ⟨fun i => if h : i < len then (key i h).choose else ⟨0, 0, 0, none, 0, 0⟩, fun i hi => ?_⟩
      simp only [hi, dif_pos]
      exact (key i hi).choose_spec
    obtain ⟨f, hf2⟩ := hex
    refine ⟨some p, len, cap, (List.range len).map f, rfl, by simp, hlc, hcm, fun i r hr => ?_⟩
    have hi : i < len := by
      rcases Nat.lt_or_ge i len with h | h
      · exact h
      · rw [List.getElem?_eq_none (by simpa using h)] at hr; cases hr
    rw [List.getElem?_eq_getElem (by simpa using hi)] at hr
    simp at hr
    rw [← hr]
    exact hf2 i hi
end Go.Proofs.Ytinjafacnekkcaa
