/- A slice of the reference's acts, a slice of strings, as parameters: what the reader reads of them. -/
import Derived.Test.YteennbdakjjcfaaDoorLnW
import Derived.ChangeOld
import Derived.SliceStrings
set_option linter.unusedVariables false
namespace Go.Proofs.YteennbdakjjcfaaDoor
open Go Go.RowKit Go.ChangeShapes Go.WideShapes
/-- the acts lie in the slice -/
def ActsIn (w : World) (a : Option Addr) (len cap : Nat) (L : List AN) : Prop :=
  L.length = len ∧ len ≤ cap ∧ cap ≤ maxLen ∧ ∀ (i : Nat) x, L[i]? = some x → ∃ g o va vc, a = some ⟨g, o, none⟩ ∧ g < w.heap.size ∧ w.rangeAt g (o + i * 7) (rowA (x, .slice va x.b.length vc)) ∧ BytesAt w va vc x.b ∧ x.b.length ≤ vc ∧ vc ≤ maxLen ∧ (va = none → vc = 0)
theorem cells27 : Tryd.prog.cellsOf 27 = 7 := by kernel_rfl
theorem oneI : Tryd.prog.cellsOf 3 = 1 := by kernel_rfl
theorem oneBo : Tryd.prog.cellsOf 4 = 1 := by kernel_rfl
theorem oneS : Tryd.prog.cellsOf 25 = 1 := by kernel_rfl
theorem oneB : Tryd.prog.cellsOf 5 = 1 := by kernel_rfl
theorem oneStr : Tryd.prog.cellsOf 9 = 1 := by kernel_rfl
theorem spot_none {w : World} {g o : Nat} {sp : Option Nat} {v : Value} (h : w.cell? ⟨g, o, sp⟩ = some v) : sp = none := by
  unfold World.cell? at h
  split at h
  · cases sp with
    | none => rfl
    | some x => simp at h
  · cases h
theorem cell_lt {w : World} {p : Addr} {v : Value} (h : w.cell? p = some v) : p.block < w.heap.size := by
  unfold World.cell? at h
  split at h
  · rename_i hh; exact lt_of_block hh
  · cases h
theorem seven_of {l : List Value} (h : l.length = 7) : ∃ x0 x1 x2 x3 x4 x5 x6, l = [x0, x1, x2, x3, x4, x5, x6] := by
  match l, h with
  | [x0, x1, x2, x3, x4, x5, x6], _ => exact ⟨x0, x1, x2, x3, x4, x5, x6, rfl⟩
theorem one_of {l : List Value} {n : Nat} (h : l.length = n) (j : Nat) (hj : j < n) {v : Value} (h1 : (l.drop j).take 1 = [v]) : l[j]? = some v := by
  have := congrArg (fun l => l[0]?) h1
  simpa using this
set_option maxRecDepth 100000 in
/-- one act -/
theorem open_act {H : Type} {enc : TypeId × Value → H} {W : World} {base n : Nat} {held : Bool} {cs : List Value} {x : DataW H × List MemPlace}
    (h : DataW.trod enc Tryd.prog W base (fun _ => true) held n 27 cs = some x) :
    ∃ (a : AN) (va : Option Addr) (vc : Nat), cs = rowA (a, .slice va a.b.length vc) ∧ BytesAt W va vc a.b ∧ a.b.length ≤ vc ∧ vc ≤ maxLen ∧ (va = none → vc = 0) := by
  obtain ⟨xs, m, _, _, hl, hxl, hel⟩ := DataW.trod_struct Tryd.underlying27 h
  rw [cells27] at hl
  have h0 : DataW.trod enc Tryd.prog W base (fun _ => true) held m 3 ((cs.drop 0).take (Tryd.prog.cellsOf 3)) = xs[0]? := hel 0 _ rfl
  have h1 : DataW.trod enc Tryd.prog W base (fun _ => true) held m 4 ((cs.drop 1).take (Tryd.prog.cellsOf 4)) = xs[1]? := hel 1 _ rfl
  have h2 : DataW.trod enc Tryd.prog W base (fun _ => true) held m 3 ((cs.drop 2).take (Tryd.prog.cellsOf 3)) = xs[2]? := hel 2 _ rfl
  have h3 : DataW.trod enc Tryd.prog W base (fun _ => true) held m 3 ((cs.drop 3).take (Tryd.prog.cellsOf 3)) = xs[3]? := hel 3 _ rfl
  have h4 : DataW.trod enc Tryd.prog W base (fun _ => true) held m 3 ((cs.drop 4).take (Tryd.prog.cellsOf 3)) = xs[4]? := hel 4 _ rfl
  have h5 : DataW.trod enc Tryd.prog W base (fun _ => true) held m 3 ((cs.drop 5).take (Tryd.prog.cellsOf 3)) = xs[5]? := hel 5 _ rfl
  have h6 : DataW.trod enc Tryd.prog W base (fun _ => true) held m 25 ((cs.drop 6).take (Tryd.prog.cellsOf 25)) = xs[6]? := hel 6 _ rfl
  rw [oneI] at h0 h2 h3 h4 h5
  rw [oneBo] at h1
  rw [oneS] at h6
  have hx : xs.length = 7 := hxl
  rw [List.getElem?_eq_getElem (by omega)] at h0 h1 h2 h3 h4 h5 h6
  obtain ⟨k, e0, _, _⟩ := DataW.trod_int Tryd.underlying3 h0
  obtain ⟨ye, e1, _⟩ := DataW.trod_bool Tryd.underlying4 h1
  obtain ⟨wh, e2, _, _⟩ := DataW.trod_int Tryd.underlying3 h2
  obtain ⟨kk, e3, _, _⟩ := DataW.trod_int Tryd.underlying3 h3
  obtain ⟨nn, e4, _, _⟩ := DataW.trod_int Tryd.underlying3 h4
  obtain ⟨aa, e5, _, _⟩ := DataW.trod_int Tryd.underlying3 h5
  have c0 := one_of hl 0 (by omega) e0
  have c1 := one_of hl 1 (by omega) e1
  have c2 := one_of hl 2 (by omega) e2
  have c3 := one_of hl 3 (by omega) e3
  have c4 := one_of hl 4 (by omega) e4
  have c5 := one_of hl 5 (by omega) e5
  have fin : ∀ (pa : Option Addr) (pl pc : Nat), cs[6]? = some (.slice pa pl pc) → (∃ zs, IsRow .u8 W pa pl pc zs) → ∃ (a : AN) (va : Option Addr) (vc : Nat), cs = rowA (a, .slice va a.b.length vc) ∧ BytesAt W va vc a.b ∧ a.b.length ≤ vc ∧ vc ≤ maxLen ∧ (va = none → vc = 0) := by
    intro pa pl pc c6 hr
    obtain ⟨zs, hr⟩ := hr
    obtain ⟨l, hll, hB⟩ := bytesAt_in hr pl
    rw [Nat.min_self] at hll
    have hcap : pl ≤ pc ∧ pc ≤ maxLen ∧ (pa = none → pc = 0) := by
      rcases hr with ⟨rfl, rfl, rfl, _⟩ | ⟨p, rfl, h1, h2, _⟩
      · exact ⟨Nat.le_refl _, by unfold maxLen; omega, fun _ => rfl⟩
      · exact ⟨h1, h2, fun h => by cases h⟩
    refine ⟨⟨k, ye, wh, kk, nn, aa, l⟩, pa, pc, ?_, hB, by show l.length ≤ _; rw [hll]; exact hcap.1, hcap.2.1, hcap.2.2⟩
    obtain ⟨x0, x1, x2, x3, x4, x5, x6, hcs⟩ := seven_of hl
    rw [hcs] at c0 c1 c2 c3 c4 c5 c6
    simp at c0 c1 c2 c3 c4 c5 c6
    rw [hcs, c0, c1, c2, c3, c4, c5, c6]
    show _ = [_, _, _, _, _, _, Value.slice pa l.length pc]
    rw [hll]
  rcases open_ints Tryd.underlying25 Tryd.underlying5 oneB h6 with ⟨hcs, _⟩ | ⟨p, l, c, zs, hcs, _, hll, hm, hz, _, hcell, hwz⟩
  · exact fin none 0 0 (one_of hl 6 (by omega) hcs) ⟨[], .inl ⟨rfl, rfl, rfl, rfl⟩⟩
  · exact fin (some p) l c (one_of hl 6 (by omega) hcs) ⟨zs, .inr ⟨_, rfl, hll, hm, by simpa using hz, hcell, hwz⟩⟩
set_option maxRecDepth 100000 in
/-- the parameter -/
theorem open_acts {H : Type} {enc : TypeId × Value → H} {W W' : World} {base b0 : Nat} {held : Bool} {r : Reach} {v : Value} {d : DataW H} {ps : List MemPlace}
    (hval : Value.okWide Tryd.prog W' r b0 22 v) (hd : DataW.Trod enc Tryd.prog W base (fun _ => true) held 22 v d ps) : ∃ a len cap L, v = .slice a len cap ∧ ActsIn W a len cap L := by
  obtain ⟨a, len, cap, rfl⟩ := okWide_slice Tryd.underlying22 hval
  obtain ⟨fuel, hf⟩ := hd
  simp only [Value.cells] at hf
  rcases DataW.trod_slice Tryd.underlying22 hf with ⟨hcs, _⟩ | ⟨p, len', cap', elems, rest, n, _, hcs, _, hb, hlc, hcm, hlen, hel, _⟩
  · simp at hcs
    obtain ⟨rfl, rfl, rfl⟩ := hcs
    exact ⟨none, 0, 0, [], rfl, rfl, Nat.le_refl _, Nat.zero_le _, by simp⟩
  · simp at hcs
    obtain ⟨rfl, rfl, rfl⟩ := hcs
    have key : ∀ i, i < len → ∃ x : AN, ∃ g o va vc, some p = some ⟨g, o, none⟩ ∧ g < W.heap.size ∧ W.rangeAt g (o + i * 7) (rowA (x, .slice va x.b.length vc)) ∧ BytesAt W va vc x.b ∧ x.b.length ≤ vc ∧ vc ≤ maxLen ∧ (va = none → vc = 0) := by
      intro i hi
      have hp : p.spot = none := by
        have h0 := hel 0 (by omega)
        rw [List.getElem?_eq_getElem (by omega), cells27] at h0
        obtain ⟨cs, h1, h2⟩ := Option.bind_eq_some_iff.1 h0
        obtain ⟨_, hl4, hc⟩ := World.cells?_some h1
        have hc0 := hc 0 (by omega)
        rw [List.getElem?_eq_getElem (by omega)] at hc0
        simp only [Addr.add, Nat.zero_mul, if_true] at hc0
        obtain ⟨g, o, sp⟩ := p
        exact spot_none hc0
      obtain ⟨g, o, sp⟩ := p
      simp only at hp
      subst hp
      have h0 := hel i hi
      rw [List.getElem?_eq_getElem (by omega), cells27, add_plain] at h0
      obtain ⟨cs, h1, h2⟩ := Option.bind_eq_some_iff.1 h0
      obtain ⟨_, hl4, hc⟩ := World.cells?_some h1
      obtain ⟨x, va, vc, hcs, hB, hr⟩ := open_act h2
      have g0 := hc 0 (by omega)
      rw [List.getElem?_eq_getElem (by omega), add_plain] at g0
      refine ⟨x, g, o, va, vc, rfl, cell_lt g0, fun j v hv => ?_, hB, hr⟩
      have hj : j < cs.length := by rw [hcs]; exact (List.getElem?_eq_some_iff.1 hv).1
      have := hc j (by rw [← hl4]; exact hj)
      rw [add_plain] at this
      rw [this, hcs]; exact hv
    have hex : ∃ f : Nat → AN, ∀ i, i < len → ∃ g o va vc, some p = some ⟨g, o, none⟩ ∧ g < W.heap.size ∧ W.rangeAt g (o + i * 7) (rowA (f i, .slice va (f i).b.length vc)) ∧ BytesAt W va vc (f i).b ∧ (f i).b.length ≤ vc ∧ vc ≤ maxLen ∧ (va = none → vc = 0) := by
      refine ⟨fun i => if h : i < len then (key i h).choose else zeroAct, fun i hi => ?_⟩
      simp only [hi, dif_pos]
      exact (key i hi).choose_spec
    obtain ⟨f, hf2⟩ := hex
    refine ⟨some p, len, cap, (List.range len).map f, rfl, by simp, hlc, hcm, fun i r hr => ?_⟩
    have hi : i < len := by
      rcases Nat.lt_or_ge i len with h | h
      · exact h
      · rw [List.getElem?_eq_none (by simpa using h)] at hr; cases hr
    rw [List.getElem?_eq_getElem (by simpa using hi)] at hr
    simp at hr
    rw [← hr]
    exact hf2 i hi
/-- strings that come in -/
def StrsIn (w : World) (a : Option Addr) (len cap : Nat) (L : List (List UInt8)) : Prop :=
  L.length = len ∧ len ≤ cap ∧ cap ≤ maxLen ∧ ∀ (i : Nat) x, L[i]? = some x → ∃ g o, a = some ⟨g, o, none⟩ ∧ g < w.heap.size ∧ w.cell? ⟨g, o + i, none⟩ = some (sV x)
set_option maxRecDepth 100000 in
theorem open_strsIn {H : Type} {enc : TypeId × Value → H} {W W' : World} {base b0 : Nat} {held : Bool} {r : Reach} {v : Value} {d : DataW H} {ps : List MemPlace}
    (hval : Value.okWide Tryd.prog W' r b0 23 v) (hd : DataW.Trod enc Tryd.prog W base (fun _ => true) held 23 v d ps) : ∃ a len cap L, v = .slice a len cap ∧ StrsIn W a len cap L := by
  obtain ⟨a, len, cap, rfl⟩ := okWide_slice Tryd.underlying23 hval
  obtain ⟨fuel, hf⟩ := hd
  simp only [Value.cells] at hf
  rcases open_strings Tryd.underlying23 Tryd.underlying9 oneStr hf with ⟨hcs, _⟩ | ⟨p, len', cap', ss, hcs, hb, hlc, hcm, hlen, _, hcell, _⟩
  · simp at hcs
    obtain ⟨rfl, rfl, rfl⟩ := hcs
    exact ⟨none, 0, 0, [], rfl, rfl, Nat.le_refl _, Nat.zero_le _, by simp⟩
  · simp at hcs
    obtain ⟨rfl, rfl, rfl⟩ := hcs
    have hsl : ss.length = cap := by simpa using hlen
    refine ⟨some p, len, cap, (ss.take len).map (fun s => s.data.toList), rfl, by simp; omega, hlc, hcm, fun i x hx => ?_⟩
    have hi : i < len := by have := (List.getElem?_eq_some_iff.1 hx).1; simp at this; omega
    have his : i < ss.length := by omega
    have hxe : x = ss[i].data.toList := by
      rw [List.getElem?_map, List.getElem?_take_of_lt hi, List.getElem?_eq_getElem his] at hx
      simpa using hx.symm
    have h0 := hcell 0 (by omega)
    have hi0 := hcell i his
    obtain ⟨g, o, sp⟩ := p
    have hsp : sp = none := by
      simp only [Addr.add, if_true] at h0
      exact spot_none h0
    subst hsp
    rw [add_plain] at hi0
    refine ⟨g, o, rfl, cell_lt hi0, ?_⟩
    rw [hi0, hxe, List.getD_eq_getElem?_getD, List.getElem?_eq_getElem his]
    rfl
end Go.Proofs.YteennbdakjjcfaaDoor
