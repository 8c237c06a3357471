/- The walk of the law SealOnce, with what its parameter reads as and the plain law behind it. -/
import Derived.Test.YtnmjkdmhfogeiaaArrOpen
import Derived.Test.YtnmjkdmhfogeiaaCtrA
import Derived.ChangeOld
import Derived.Test.YtnmjkdmhfogeiaaSealD
import Derived.Test.YtnmjkdmhfogeiaaSealBW
set_option linter.unusedVariables false
namespace Go.Proofs.Ytnmjkdmhfogeiaa
open Go Go.RowKit Go.ChangeShapes Go.WideShapes
structure OpRow where
  kd : Int
  ep : Int
  bk : Int
  pa : Option Addr
  pl : Nat
  pc : Nat
/-- the calls lie in the slice -/
def OpsIn (w : World) (a : Option Addr) (len cap : Nat) (L : List OpRow) : Prop :=
  L.length = len ∧ len ≤ cap ∧ cap ≤ maxLen ∧ ∀ (i : Nat) r, L[i]? = some r → (Lit.int .u64 r.ep).wf = true ∧ (Lit.int .i64 r.bk).wf = true ∧ (∃ zs, IsRow .u8 w r.pa r.pl r.pc zs) ∧
    ∃ g o, a = some ⟨g, o, none⟩ ∧ g < w.heap.size ∧ w.cell? ⟨g, o + i * 4, none⟩ = some (.int .i64 r.kd) ∧ w.cell? ⟨g, o + i * 4 + 1, none⟩ = some (.int .u64 r.ep) ∧ w.cell? ⟨g, o + i * 4 + 2, none⟩ = some (.int .i64 r.bk) ∧ w.cell? ⟨g, o + i * 4 + 3, none⟩ = some (.slice r.pa r.pl r.pc)
theorem four81 : Try.prog.cellsOf 81 = 4 := by kernel_rfl
theorem oneI : Try.prog.cellsOf 3 = 1 := by kernel_rfl
theorem oneU : Try.prog.cellsOf 41 = 1 := by kernel_rfl
theorem oneS : Try.prog.cellsOf 53 = 1 := by kernel_rfl
theorem oneB : Try.prog.cellsOf 5 = 1 := by kernel_rfl
theorem spot_none {w : World} {g o : Nat} {sp : Option Nat} {v : Value} (h : w.cell? ⟨g, o, sp⟩ = some v) : sp = none := by
  unfold World.cell? at h
  split at h
  · cases sp with
    | none => rfl
    | some x => simp at h
  · cases h
theorem cell_lt {w : World} {p : Addr} {v : Value} (h : w.cell? p = some v) : p.block < w.heap.size := by
  unfold World.cell? at h
  split at h
  · rename_i hh; exact lt_of_block hh
  · cases h
theorem add_pl (g o j : Nat) : (⟨g, o, none⟩ : Addr).add j = ⟨g, o + j, none⟩ := by
  unfold Addr.add; split
  · next h => subst h; rfl
  · rfl
theorem four_of {l : List Value} (h : l.length = 4) : ∃ x0 x1 x2 x3, l = [x0, x1, x2, x3] := by
  match l, h with
  | [x0, x1, x2, x3], _ => exact ⟨x0, x1, x2, x3, rfl⟩
theorem one_of {l : List Value} (h : l.length = 4) (j : Nat) (hj : j < 4) {v : Value} (h1 : (l.drop j).take 1 = [v]) : l[j]? = some v := by
  have := congrArg (fun l => l[0]?) h1
  simpa using this
set_option maxRecDepth 100000 in
/-- one call -/
theorem open_op {H : Type} {enc : TypeId × Value → H} {W : World} {base n : Nat} {held : Bool} {cs : List Value} {x : DataW H × List MemPlace}
    (h : DataW.trod enc Try.prog W base (fun _ => true) held n 81 cs = some x) :
    ∃ r : OpRow, cs = [.int .i64 r.kd, .int .u64 r.ep, .int .i64 r.bk, .slice r.pa r.pl r.pc] ∧ (Lit.int .u64 r.ep).wf = true ∧ (Lit.int .i64 r.bk).wf = true ∧ ∃ zs, IsRow .u8 W r.pa r.pl r.pc zs := by
  obtain ⟨xs, m, _, _, hl, hxl, hel⟩ := DataW.trod_struct Try.underlying81 h
  rw [four81] at hl
  have h0 : DataW.trod enc Try.prog W base (fun _ => true) held m 3 ((cs.drop 0).take (Try.prog.cellsOf 3)) = xs[0]? := hel 0 _ rfl
  have h1 : DataW.trod enc Try.prog W base (fun _ => true) held m 41 ((cs.drop 1).take (Try.prog.cellsOf 41)) = xs[1]? := hel 1 _ rfl
  have h2 : DataW.trod enc Try.prog W base (fun _ => true) held m 3 ((cs.drop 2).take (Try.prog.cellsOf 3)) = xs[2]? := hel 2 _ rfl
  have h3 : DataW.trod enc Try.prog W base (fun _ => true) held m 53 ((cs.drop 3).take (Try.prog.cellsOf 53)) = xs[3]? := hel 3 _ rfl
  rw [oneI] at h0 h2
  rw [oneU] at h1
  rw [oneS] at h3
  have hx : xs.length = 4 := hxl
  rw [List.getElem?_eq_getElem (by omega)] at h0 h1 h2 h3
  obtain ⟨k, e0, _, _⟩ := DataW.trod_int Try.underlying3 h0
  obtain ⟨ep, e1, _, w1⟩ := DataW.trod_int Try.underlying41 h1
  obtain ⟨bk, e2, _, w2⟩ := DataW.trod_int Try.underlying3 h2
  have c0 := one_of hl 0 (by omega) e0
  have c1 := one_of hl 1 (by omega) e1
  have c2 := one_of hl 2 (by omega) e2
  have fin : ∀ (pa : Option Addr) (pl pc : Nat), cs[3]? = some (.slice pa pl pc) → (∃ zs, IsRow .u8 W pa pl pc zs) → ∃ r : OpRow, cs = [.int .i64 r.kd, .int .u64 r.ep, .int .i64 r.bk, .slice r.pa r.pl r.pc] ∧ (Lit.int .u64 r.ep).wf = true ∧ (Lit.int .i64 r.bk).wf = true ∧ ∃ zs, IsRow .u8 W r.pa r.pl r.pc zs := by
    intro pa pl pc c3 hr
    refine ⟨⟨k, ep, bk, pa, pl, pc⟩, ?_, w1, w2, hr⟩
    obtain ⟨x0, x1, x2, x3, hcs⟩ := four_of hl
    rw [hcs] at c0 c1 c2 c3
    simp at c0 c1 c2 c3
    rw [hcs, c0, c1, c2, c3]
  rcases open_ints Try.underlying53 Try.underlying5 oneB h3 with ⟨hcs, _⟩ | ⟨p, l, c, zs, hcs, _, hll, hm, hz, _, hcell, hwz⟩
  · exact fin none 0 0 (one_of hl 3 (by omega) hcs) ⟨[], .inl ⟨rfl, rfl, rfl, rfl⟩⟩
  · exact fin (some p) l c (one_of hl 3 (by omega) hcs) ⟨zs, .inr ⟨_, rfl, hll, hm, by simpa using hz, hcell, hwz⟩⟩
set_option maxRecDepth 100000 in
/-- the parameter -/
theorem open_ops {H : Type} {enc : TypeId × Value → H} {W W' : World} {base b0 : Nat} {held : Bool} {r : Reach} {v : Value} {d : DataW H} {ps : List MemPlace}
    (hval : Value.okWide Try.prog W' r b0 77 v) (hd : DataW.Trod enc Try.prog W base (fun _ => true) held 77 v d ps) : ∃ a len cap L, v = .slice a len cap ∧ OpsIn W a len cap L := by
  obtain ⟨a, len, cap, rfl⟩ := okWide_slice Try.underlying77 hval
  obtain ⟨fuel, hf⟩ := hd
  simp only [Value.cells] at hf
  rcases DataW.trod_slice Try.underlying77 hf with ⟨hcs, _⟩ | ⟨p, len', cap', elems, rest, n, _, hcs, _, hb, hlc, hcm, hlen, hel, _⟩
  · simp at hcs
    obtain ⟨rfl, rfl, rfl⟩ := hcs
    exact ⟨none, 0, 0, [], rfl, rfl, Nat.le_refl _, Nat.zero_le _, by simp⟩
  · simp at hcs
    obtain ⟨rfl, rfl, rfl⟩ := hcs
    have key : ∀ i, i < len → ∃ r : OpRow, (Lit.int .u64 r.ep).wf = true ∧ (Lit.int .i64 r.bk).wf = true ∧ (∃ zs, IsRow .u8 W r.pa r.pl r.pc zs) ∧
        ∃ g o, some p = some ⟨g, o, none⟩ ∧ g < W.heap.size ∧ W.cell? ⟨g, o + i * 4, none⟩ = some (.int .i64 r.kd) ∧ W.cell? ⟨g, o + i * 4 + 1, none⟩ = some (.int .u64 r.ep) ∧ W.cell? ⟨g, o + i * 4 + 2, none⟩ = some (.int .i64 r.bk) ∧ W.cell? ⟨g, o + i * 4 + 3, none⟩ = some (.slice r.pa r.pl r.pc) := by
      intro i hi
      -- the address bears no spot: its first cell is there
      have hp : p.spot = none := by
        have h0 := hel 0 (by omega)
        rw [List.getElem?_eq_getElem (by omega), four81] at h0
        obtain ⟨cs, h1, h2⟩ := Option.bind_eq_some_iff.1 h0
        obtain ⟨_, hl4, hc⟩ := World.cells?_some h1
        have hc0 := hc 0 (by omega)
        rw [List.getElem?_eq_getElem (by omega)] at hc0
        simp only [Addr.add, Nat.zero_mul, if_true] at hc0
        obtain ⟨g, o, sp⟩ := p
        exact spot_none hc0
      obtain ⟨g, o, sp⟩ := p
      simp only at hp
      subst hp
      have h0 := hel i hi
      rw [List.getElem?_eq_getElem (by omega), four81, add_pl] at h0
      obtain ⟨cs, h1, h2⟩ := Option.bind_eq_some_iff.1 h0
      obtain ⟨_, hl4, hc⟩ := World.cells?_some h1
      obtain ⟨r, hcs, w1, w2, hr⟩ := open_op h2
      have g0 := hc 0 (by omega)
      have g1 := hc 1 (by omega)
      have g2 := hc 2 (by omega)
      have g3 := hc 3 (by omega)
      rw [hcs] at g0 g1 g2 g3
      rw [add_pl] at g0 g1 g2 g3
      exact ⟨r, w1, w2, hr, g, o, rfl, cell_lt g0, g0, g1, g2, g3⟩
    have hex : ∃ f : Nat → OpRow, ∀ i, i < len → (Lit.int .u64 (f i).ep).wf = true ∧ (Lit.int .i64 (f i).bk).wf = true ∧ (∃ zs, IsRow .u8 W (f i).pa (f i).pl (f i).pc zs) ∧
        ∃ g o, some p = some ⟨g, o, none⟩ ∧ g < W.heap.size ∧ W.cell? ⟨g, o + i * 4, none⟩ = some (.int .i64 (f i).kd) ∧ W.cell? ⟨g, o + i * 4 + 1, none⟩ = some (.int .u64 (f i).ep) ∧ W.cell? ⟨g, o + i * 4 + 2, none⟩ = some (.int .i64 (f i).bk) ∧ W.cell? ⟨g, o + i * 4 + 3, none⟩ = some (.slice (f i).pa (f i).pl (f i).pc) := by
      refine ⟨fun i => if h : i < len then (key i h).choose else ⟨0, 0, 0, none, 0, 0⟩, fun i hi => ?_⟩
      simp only [hi, dif_pos]
      exact (key i hi).choose_spec
    obtain ⟨f, hf2⟩ := hex
    refine ⟨some p, len, cap, (List.range len).map f, rfl, by simp, hlc, hcm, fun i r hr => ?_⟩
    have hi : i < len := by
      rcases Nat.lt_or_ge i len with h | h
      · exact h
      · rw [List.getElem?_eq_none (by simpa using h)] at hr; cases hr
    rw [List.getElem?_eq_getElem (by simpa using hi)] at hr
    simp at hr
    rw [← hr]
    exact hf2 i hi
end Go.Proofs.Ytnmjkdmhfogeiaa
set_option linter.unusedVariables false
set_option linter.unusedSimpArgs false
namespace Go.Proofs.Ytnmjkdmhfogeiaa
open Go Go.RowKit GfM
theorem and255' (c : Int) : ∃ m : Nat, m < 256 ∧ bits BinOp.and IntKind.i64 c 255 = (m : Int) := by
  have key : (BitVec.ofInt 64 c &&& BitVec.ofInt 64 255).toNat < 256 := by
    rw [BitVec.toNat_and]
    refine Nat.lt_of_le_of_lt Nat.and_le_right ?_
    decide
  refine ⟨(BitVec.ofInt 64 c &&& BitVec.ofInt 64 255).toNat, key, ?_⟩
  show IntKind.i64.wrap (((BitVec.ofInt 64 c &&& BitVec.ofInt 64 255).toNat : Nat) : Int) = _
  rw [IntKind.wrap_i64]
  omega
def b255 (c : Int) : Nat := (bits BinOp.and IntKind.i64 c 255).toNat
theorem b255_eq (c : Int) : bits BinOp.and IntKind.i64 c 255 = ((b255 c : Nat) : Int) ∧ b255 c < 256 := by
  obtain ⟨m, h1, h2⟩ := and255' c
  unfold b255
  rw [h2]
  exact ⟨by simp, by simpa using h1⟩
/-- two of the first i calls hid unlike blocks in one place -/
def Tw (N : Nat → Nat × Nat) (F : Nat → List Nat) (i : Nat) : Prop := ∃ a b, a < b ∧ b < i ∧ N a = N b ∧ F a ≠ F b
/-- what a sealer knows behind i calls -/
structure Kn (N : Nat → Nat × Nat) (F : Nat → List Nat) (i : Nat) (M : MapM) (T : Option (Nat × Nat)) : Prop where
  all : ∀ j, j < i → ∃ x ∈ M, x.1 = N j ∧ (T = none → x.2 = F j)
  src : ∀ x ∈ M, ∃ j, j < i ∧ N j = x.1 ∧ F j = x.2
  dis : M.Pairwise (fun x y => x.1 ≠ y.1)
  tws : T ≠ none → Tw N F i
theorem kn_zero (N : Nat → Nat × Nat) (F : Nat → List Nat) : Kn N F 0 [] none := ⟨fun j h => by omega, fun x hx => (by cases hx), List.Pairwise.nil, fun h => absurd rfl h⟩
theorem pair_eq {M : MapM} (h : M.Pairwise (fun x y => x.1 ≠ y.1)) {x y : (Nat × Nat) × List Nat} (hx : x ∈ M) (hy : y ∈ M) (e : x.1 = y.1) : x = y := by
  induction M with
  | nil => cases hx
  | cons z M ih =>
    obtain ⟨h1, h2⟩ := List.pairwise_cons.1 h
    rcases List.mem_cons.1 hx with hxz | hxm
    · rcases List.mem_cons.1 hy with hyz | hym
      · rw [hxz, hyz]
      · subst hxz; exact absurd e (h1 y hym)
    · rcases List.mem_cons.1 hy with hyz | hym
      · subst hyz; exact absurd e.symm (h1 x hxm)
      · exact ih h2 hxm hym
theorem Tw.up {N : Nat → Nat × Nat} {F : Nat → List Nat} {i : Nat} (h : Tw N F i) : Tw N F (i + 1) := by
  obtain ⟨a, b, h1, h2, h3⟩ := h
  exact ⟨a, b, h1, by omega, h3⟩
theorem kn_step {N : Nat → Nat × Nat} {F : Nat → List Nat} {i : Nat} {M M' : MapM} {T T' : Option (Nat × Nat)} (h : Kn N F i M T) (hs : SStp M T (N i) (F i) M' T') : Kn N F (i + 1) M' T' := by
  rcases hs with ⟨hn, rfl, rfl⟩ | ⟨⟨x, hx, hxn, h1⟩, rfl⟩
  · refine ⟨fun j hj => ?_, fun x hx => ?_, ?_, fun ht => (h.tws ht).up⟩
    · rcases Nat.lt_succ_iff_lt_or_eq.1 hj with h1 | h1
      · obtain ⟨x, hx, h2, h3⟩ := h.all j h1
        exact ⟨x, by simp [hx], h2, h3⟩
      · subst h1
        exact ⟨(N j, F j), by simp, rfl, fun _ => rfl⟩
    · rcases List.mem_append.1 hx with h1 | h1
      · obtain ⟨j, h2, h3⟩ := h.src x h1
        exact ⟨j, by omega, h3⟩
      · rw [List.mem_singleton] at h1
        subst h1
        exact ⟨i, by omega, rfl, rfl⟩
    · rw [List.pairwise_append]
      exact ⟨h.dis, by simp, fun x hx y hy => by simp at hy; subst hy; exact hn x hx⟩
  · have hsrc : ∀ x ∈ M', ∃ j, j < i + 1 ∧ N j = x.1 ∧ F j = x.2 := fun x hx => by
      obtain ⟨j, h2, h3⟩ := h.src x hx
      exact ⟨j, by omega, h3⟩
    rcases h1 with ⟨e, rfl⟩ | ⟨e, rfl⟩
    · refine ⟨fun j hj => ?_, hsrc, h.dis, fun ht => (h.tws ht).up⟩
      rcases Nat.lt_succ_iff_lt_or_eq.1 hj with h2 | h2
      · exact h.all j h2
      · subst h2
        exact ⟨x, hx, hxn, fun _ => e⟩
    · have hor : T.or (some (N i)) ≠ none := by cases T <;> simp
      refine ⟨fun j hj => ?_, hsrc, h.dis, fun _ => ?_⟩
      · rcases Nat.lt_succ_iff_lt_or_eq.1 hj with h2 | h2
        · obtain ⟨y, hy, h3, _⟩ := h.all j h2
          exact ⟨y, hy, h3, fun h4 => absurd h4 hor⟩
        · subst h2
          exact ⟨x, hx, hxn, fun h4 => absurd h4 hor⟩
      · obtain ⟨j, h2, h3, h4⟩ := h.src x hx
        exact ⟨j, i, h2, by omega, h3.trans hxn, by rw [h4]; exact e⟩
/-- it tells of a place just if two such calls were -/
theorem kn_told {N : Nat → Nat × Nat} {F : Nat → List Nat} {i : Nat} {M : MapM} {T : Option (Nat × Nat)} (h : Kn N F i M T) : T.isSome = true ↔ Tw N F i := by
  constructor
  · intro ht
    exact h.tws (by intro h0; rw [h0] at ht; cases ht)
  · rintro ⟨a, b, h1, h2, h3, h4⟩
    cases T with
    | some _ => rfl
    | none =>
      exfalso
      obtain ⟨x, hx, e1, e2⟩ := h.all a (by omega)
      obtain ⟨y, hy, e3, e4⟩ := h.all b h2
      have := pair_eq h.dis hx hy (by rw [e1, h3, e3])
      subst this
      exact h4 ((e2 rfl).symm.trans (e4 rfl))
/-- the inner loop: of the first j calls one parts with the i-th -/
def Tj (N : Nat → Nat × Nat) (F : Nat → List Nat) (i j : Nat) : Prop := Tw N F i ∨ ∃ a, a < j ∧ N a = N i ∧ F a ≠ F i
theorem tj_zero (N : Nat → Nat × Nat) (F : Nat → List Nat) (i : Nat) : Tj N F i 0 ↔ Tw N F i := by
  constructor
  · rintro (h | ⟨a, h, _⟩)
    · exact h
    · omega
  · exact .inl
theorem tj_end (N : Nat → Nat × Nat) (F : Nat → List Nat) (i : Nat) : Tj N F i i ↔ Tw N F (i + 1) := by
  constructor
  · rintro (h | ⟨a, h, h2⟩)
    · exact h.up
    · exact ⟨a, i, h, by omega, h2⟩
  · rintro ⟨a, b, h1, h2, h3⟩
    rcases Nat.lt_succ_iff_lt_or_eq.1 h2 with h | h
    · exact .inl ⟨a, b, h1, h, h3⟩
    · subst h; exact .inr ⟨a, h1, h3⟩
theorem tj_step (N : Nat → Nat × Nat) (F : Nat → List Nat) (i j : Nat) : Tj N F i (j + 1) ↔ Tj N F i j ∨ (N j = N i ∧ F j ≠ F i) := by
  constructor
  · rintro (h | ⟨a, h, h2⟩)
    · exact .inl (.inl h)
    · rcases Nat.lt_succ_iff_lt_or_eq.1 h with h3 | h3
      · exact .inl (.inr ⟨a, h3, h2⟩)
      · subst h3; exact .inr h2
  · rintro ((h | ⟨a, h, h2⟩) | h)
    · exact .inl h
    · exact .inr ⟨a, by omega, h2⟩
    · exact .inr ⟨j, by omega, h⟩
end Go.Proofs.Ytnmjkdmhfogeiaa
set_option linter.unusedVariables false
set_option linter.unusedSimpArgs false
namespace Go.Proofs.Ytnmjkdmhfogeiaa
open Go Go.RowKit GfM
theorem info81 : (Try.prog.info? 81).map (·.size) = some 4 := by kernel_rfl
def opA (kd : Int) (ep : Nat) (bk : Int) (pa : Option Addr) (pl pc : Nat) : Array Value := #[.int .i64 kd, .int .u64 (ep : Int), .int .i64 bk, .slice pa pl pc]
theorem opA_one (kd : Int) (ep : Nat) (bk : Int) (pa : Option Addr) (pl pc : Nat) : (opA kd ep bk pa pl pc).all (·.oneCell') = true := by simp [opA, Value.oneCell']
/-- the j-th call, as the slice holds it -/
def OpF (w : World) (a : Option Addr) (j : Nat) (n : Nat × Nat) (p : List Nat) : Prop :=
  ∃ g o kd bk pa pl pc, a = some ⟨g, o, none⟩ ∧ n.1 < 18446744073709551616 ∧ n.2 = b255 bk ∧ p.length = 256 ∧ (∀ x ∈ p, x < 256) ∧ (∀ w', Below w.heap.size w w' → w'.rangeAt g (o + j * 4) (opA kd n.1 bk pa pl pc).toList) ∧
    ∀ w', Below w.heap.size w w' → Calls Try.prog 59 #[.slice pa pl pc] w' fun e w'' => ∃ q cp, e = .returned (.slice (some ⟨q, 0, none⟩) 256 cp) ∧ BytesAt w'' (some ⟨q, 0, none⟩) cp p ∧ Below w'.heap.size w' w''
theorem ops_full {w : World} {a : Option Addr} {len cap : Nat} {L : List OpRow} (h : OpsIn w a len cap L) : ∃ (N : Nat → Nat × Nat) (F : Nat → List Nat), ∀ j, j < len → OpF w a j (N j) (F j) := by
  obtain ⟨hL, _, _, hops⟩ := h
  have key : ∀ j, j < len → ∃ x : (Nat × Nat) × List Nat, OpF w a j x.1 x.2 := by
    intro j hj
    obtain ⟨w1, w2, ⟨zs, hrow⟩, g, o, ha, hg, c0, c1, c2, c3⟩ := hops j L[j] (List.getElem?_eq_getElem (by omega))
    obtain ⟨p, h1, h2, h3⟩ := full_in hrow
    obtain ⟨ep, hep, he⟩ := wf_nat64 w1
    rw [he] at c1
    refine ⟨((ep, b255 (L[j]).bk), p), g, o, (L[j]).kd, (L[j]).bk, (L[j]).pa, (L[j]).pl, (L[j]).pc, ha, hep, rfl, h1, h2, fun w' hb => ?_, h3⟩
    have hcc : ∀ d, w'.cell? ⟨g, d, none⟩ = w.cell? ⟨g, d, none⟩ := fun d => hb.cell (p := ⟨g, d, none⟩) hg
    intro t v hv
    have ht : t < 4 := by
      have := (List.getElem?_eq_some_iff.1 hv).1; simpa [opA] using this
    rw [hcc]
    rcases (by omega : t = 0 ∨ t = 1 ∨ t = 2 ∨ t = 3) with rfl | rfl | rfl | rfl
    · rw [Nat.add_zero, c0]; exact hv
    · rw [c1]; exact hv
    · rw [c2]; exact hv
    · rw [c3]; exact hv
  have hex : ∃ f : Nat → (Nat × Nat) × List Nat, ∀ j, j < len → OpF w a j (f j).1 (f j).2 := by
    refine ⟨fun j => if h : j < len then (key j h).choose else ((0, 0), []), fun j hj => ?_⟩
    simp only [hj, dif_pos]
    exact (key j hj).choose_spec
  obtain ⟨f, hf⟩ := hex
  exact ⟨fun j => (f j).1, fun j => (f j).2, hf⟩
theorem run_nes (l m : List Nat) (hl : ∀ x ∈ l, x < 256) (hm : ∀ x ∈ m, x < 256) (E : Operand → Value) (x y : Operand) (t : TypeId) (o : Oper) (ho : o.op = .binOp .neq 9 x y t) (hx : E x = strV l) (hy : E y = strV m) (w : World) :
    (execOp E o).run Try.prog w = .ok (.value (.bool (!decide (l = m)))) w := by
  have key : (l.map UInt8.ofNat == m.map UInt8.ofNat) = decide (l = m) := by
    by_cases h : l = m
    · subst h; simp
    · have hne : l.map UInt8.ofNat ≠ m.map UInt8.ofNat := fun h' => h (strV_inj hl hm h')
      simp [h, hne]
  unfold execOp
  simp only [ho, hx, hy]
  unfold strV
  go_simp
theorem block_ne {w : World} {q s : Nat} {A A' : Array Value} {t t' : TypeId} {z z' : Nat × Nat} (h : w.heap[q]? = some (.cells A t z)) (h' : w.heap[s]? = some (.cells A' t' z')) (hne : A.size ≠ A'.size) : q ≠ s := by
  rintro rfl; rw [h] at h'; cases h'; exact hne rfl
theorem block_nm {w : World} {q m : Nat} {A : Array Value} {t : TypeId} {z : Nat × Nat} {M : MapM} (h : w.heap[q]? = some (.cells A t z)) (h' : MapIs w m M) : q ≠ m := by
  rintro rfl; obtain ⟨es, c, h1, _⟩ := h'; rw [h] at h1; cases h1
theorem iff_or {a b c : Prop} (h : c ↔ a ∨ b) (ha : a) : c := h.2 (.inl ha)
set_option maxRecDepth 100000 in
set_option maxHeartbeats 16000000 in
theorem walkSealOnce (w : World) (k : List Nat) (hk : k.length = 16) (hkb : ∀ x ∈ k, x < 256) (a : Option Addr) (len cap : Nat) (L : List OpRow) (hops : OpsIn w a len cap L) :
    Calls Try.prog 20 #[.agg (bA k), .slice a len cap] w fun e w' => e = .returned (.bool true) ∧ Below w.heap.size w w' := by
  obtain ⟨N, F, hNF⟩ := ops_full hops
  obtain ⟨_, hlc, hcm, _⟩ := hops
  unfold maxLen at hcm
  have h0 := heap_new' w (.cells (bA k) 44)
  have hbl : Below w.heap.size w (w.alloc (.cells (bA k) 44)) := (Below.refl _ _).alloc (Nat.le_refl _) _
  have HK := Lib.hid (And.intro hk hkb)
  have H0 := Lib.hid h0
  have HBL := Lib.hid hbl
  have HLC := Lib.hid (And.intro hlc hcm)
  have HNF := Lib.hid hNF
  have HMK : Hid (∀ w', Calls Try.prog 57 #[.agg (bA k)] w' fun e w'' => ∃ s m, e = .returned (.pointer (some ⟨s, 0, none⟩)) ∧ Slr w'' w'.heap.size s m k [] none ∧ Below w'.heap.size w' w'') := fun w' => made_c k hk hkb w'
  have HSE : Hid (∀ (n : Nat × Nat) (B s m : Nat) (M : MapM) (T : Option (Nat × Nat)) (a : Option Addr) (cap : Nat) (p : List Nat) (w' : World), n.1 < 18446744073709551616 → n.2 < 65536 → p.length = 256 → B ≤ w'.heap.size → Slr w' B s m k M T → BytesAt w' a cap p → Calls Try.prog 58 #[.pointer (some ⟨s, 0, none⟩), .int .u64 ((n.1 : Nat) : Int), .int .i64 ((n.2 : Nat) : Int), .slice a 256 cap] w' fun r w'' =>
      ∃ q M' T', r = .returned (.tuple #[.slice (some ⟨q, 0, none⟩) 256 256, .int .i64 0]) ∧ SStp M T n p M' T' ∧ w'.heap.size ≤ q ∧ w''.heap[q]? = some (.cells (bA (xorL p (strL k n.1 n.2 256))) 5 (0, 0)) ∧ Slr w'' B s m k M' T' ∧ Below B w' w'' ∧ (∀ k, k < w'.heap.size → k ≠ s → k ≠ m → w''.heap[k]? = w'.heap[k]?)) :=
    fun n B s m M T a cap p w' he hb hp hB hS hBA => seal_c (Or.inl hk) n.1 n.2 he hb a cap p hp w' hB hS hBA
  clear hk hkb h0 hbl hlc hcm hNF
  generalize hW0 : (w.alloc (.cells (bA k) 44)) = W0 at *
  go_enter Try.func20, Try.ntmps20
  go_wp2_with (first
    | (refine wpList_load_row rfl 44 (.tmp 2) rfl w.heap.size rfl _ _ _ _ (by first | exact H0.out | (rw [hW0]; exact H0.out)) Try.underlying44 rfl (by rw [zero16', bA_size, HK.out.1]) ?_)
    | fail)
  refine (HMK.out W0).mono ?_
  rintro r w1 ⟨s, m, rfl, hS1, hb1⟩
  clear hW0
  have HWB : Hid (w.heap.size ≤ W0.heap.size) := HBL.out.size
  have HS1 : Hid (∃ M T, Slr w1 W0.heap.size s m k M T ∧ Kn N F 0 M T) := ⟨[], none, hS1, kn_zero N F⟩
  have HB1 : Hid (Below w.heap.size w w1) := HBL.out.trans (hb1.mono HBL.out.size)
  have HBS : Hid (W0.heap.size ≤ w1.heap.size) := hb1.size
  clear hS1 hb1 HMK H0 HBL
  go_wp2
  go_loopw [6, 17] (fun vt vi wr => ∃ i : Nat, i ≤ len ∧ i ≤ 20 ∧ vi = .int .i64 (i : Int) ∧ (∃ tb : Bool, vt = .bool tb ∧ Hid (tb = true ↔ Tw N F i)) ∧ Hid (∃ M T, Slr wr W0.heap.size s m k M T ∧ Kn N F i M T) ∧ Hid (W0.heap.size ≤ wr.heap.size) ∧ Hid (Below w.heap.size w wr)) (fun _ vi _ => 21 - (intOf vi).toNat)
  case atStart => exact ⟨0, by omega, by omega, rfl, ⟨false, rfl, ⟨fun h => (by cases h), fun ⟨a, b, h1, h2, _⟩ => (by omega)⟩⟩, HS1.out, HBS.out, HB1.out⟩
  case round =>
    clear HS1 HB1 HBS
    obtain ⟨i, hi, hi20, rfl, ⟨tb, rfl, htb⟩, hst, hsz, hbel⟩ := hrel
    by_cases hlt : i < len
    · have hd : decide ((i : Int) < (len : Int)) = true := by simp; omega
      have dl : (i : Int) < (len : Int) := by omega
      have HLT := Lib.hid hlt
      obtain ⟨g, o, kd, bk, pa, pl, pc, rfl, hn1, hn2, hp1, hp2, hr, hf⟩ := HNF.out i hlt
      have HR := Lib.hid hr
      have HF := Lib.hid hf
      have HN := Lib.hid (And.intro hn1 hn2)
      have HP := Lib.hid (And.intro hp1 hp2)
      obtain ⟨ep, hep⟩ : ∃ ep, ep = (N i).1 := ⟨_, rfl⟩
      have HEP := Lib.hid hep
      rw [← hep] at HR
      clear hr hf hn1 hn2 hp1 hp2 hep hi hlt
      by_cases h20 : i < 20
      · have d20 : decide ((i : Int) ≥ 20) = false := by simp; omega
        have H20 := Lib.hid h20
        clear h20 hi20
        have hab := (b255_eq bk).1
        obtain ⟨ba, hba⟩ : ∃ ba, ba = b255 bk := ⟨_, rfl⟩
        have HBA : Hid (ba = (N i).2 ∧ ba < 65536) := ⟨by rw [hba]; exact HN.out.2.symm, by rw [hba]; have := (b255_eq bk).2; omega⟩
        rw [← hba] at hab
        clear hba
        go_wp2_with (first
          | (refine wpList_load_mid rfl 81 (.tmp 20) rfl g (o + i * 4) rfl _ _ (HR.out _ hbel.out) Try.underlying81 rfl (by rw [info81]; simp [opA]) ?_)
          | (refine wpList_store_row rfl 81 (.tmp 8) (.tmp 21) rfl wr.heap.size (opA kd ep bk pa pl pc) rfl rfl 81 _ (heap_new' _ _) (by rw [info81]; rfl) (by rfl) (opA_one _ _ _ _ _ _) ?_; generalize hW5 : World.setRow _ _ _ = W5; have HO5 : Hid (W5.heap[wr.heap.size]? = some (.cells (opA kd ep bk pa pl pc) 81 (0, 0))) := (by rw [← hW5]; exact setRow_heap _ _ _ _ _ _ (heap_new' _ _)); have HB5 : Hid (Below wr.heap.size wr W5) := (by rw [← hW5]; exact below_setRow ((Below.refl _ _).alloc (Nat.le_refl _) _) (Nat.le_refl _) _); clear hW5; have c2 : W5.cell? ⟨wr.heap.size, 2, none⟩ = some (.int .i64 bk) := ((cells_at HO5.out 2).trans rfl); have f2 := free_at HO5.out 2)
          | fail)
        have hn6 := block_at HO5.out 2 (.int .i64 (ba : Int))
        have hb6 : Below wr.heap.size wr (W5.setCell ⟨wr.heap.size, 2, none⟩ (.int .i64 (ba : Int))) := HB5.out.setCell (p := ⟨wr.heap.size, 2, none⟩) (Nat.le_refl _) _
        generalize (W5.setCell ⟨wr.heap.size, 2, none⟩ (.int .i64 (ba : Int))) = W6 at *
        have HO6 : Hid (W6.heap[wr.heap.size]? = some (.cells (opA kd ep (ba : Int) pa pl pc) 81 (0, 0))) := hn6
        have HB6 : Hid (Below w.heap.size w W6) := hbel.out.trans (hb6.mono hbel.out.size)
        have HZ6 : Hid (W0.heap.size ≤ W6.heap.size) := Nat.le_trans hsz.out hb6.size
        obtain ⟨M, T, hS0, hKn⟩ := hst.out
        have HS6 : Hid (Slr W6 W0.heap.size s m k M T) := hS0.up hb6 (Nat.le_refl _)
        have HKN := Lib.hid hKn
        obtain ⟨ob, hob⟩ : ∃ ob, ob = wr.heap.size := ⟨_, rfl⟩
        rw [← hob] at HO6 ⊢
        clear hn6 hb6 c2 f2 HO5 HB5 hab hS0 hKn hst hsz hbel hob HR
        have HOC : Hid (∀ w' : World, w'.heap[ob]? = W6.heap[ob]? → w'.cell? ⟨ob, 1, none⟩ = some (.int .u64 (ep : Int)) ∧ w'.cell? ⟨ob, 2, none⟩ = some (.int .i64 (ba : Int)) ∧ w'.cell? ⟨ob, 3, none⟩ = some (.slice pa pl pc)) := fun w' h =>
          ⟨(cells_at (h.trans HO6.out) 1).trans rfl, (cells_at (h.trans HO6.out) 2).trans rfl, (cells_at (h.trans HO6.out) 3).trans rfl⟩
        have HOL : Hid (ob < W6.heap.size) := lt_of_block HO6.out
        go_cut [6] from 18 to 73 (fun vt wx => vt = .bool tb ∧ ∃ M' T', Hid (Slr wx W0.heap.size s m k M' T' ∧ Kn N F (i + 1) M' T') ∧ Hid (wx.heap[ob]? = some (.cells (opA kd ep (ba : Int) pa pl pc) 81 (0, 0))) ∧ Hid (Below w.heap.size w wx) ∧ Hid (W0.heap.size ≤ wx.heap.size))
        case first =>
          refine wp_region_held_drew (S := fun w' => w'.heap[ob]? = W6.heap[ob]?) (by kernel_rfl) rfl ?_
          intro hS
          have HSD : Hid (Slr W6.drew W0.heap.size s m k M T) := HS6.out.up (Below.refl _ _).drew (Nat.le_refl _)
          have HBD : Hid (Below w.heap.size w W6.drew) := HB6.out.drew
          have HZD : Hid (W0.heap.size ≤ W6.drew.heap.size) := HZ6.out
          have HLD : Hid (ob < W6.drew.heap.size) := HOL.out
          generalize W6.drew = WD at hS HSD HBD HZD HLD ⊢
          change wpAnyH _ _ _ _ _ 9 #[false, false, false, false, false, false, false, false, false] _ _
          refine wpAnyH_take (i := 0) (v := ?_) rfl (by kernel_rfl) (by kernel_rfl) (by kernel_rfl) (fun _ _ _ h => h) (Or.inl ⟨by rfl, ?hy⟩) hS ?_
          case hy => intro w' hSw; obtain ⟨hq1, hq2, hq3⟩ := HOC.out w' hSw; go_simp; try with_reducible rfl
          simp only [List.getElem_toArray, List.getElem_cons_succ, List.getElem_cons_zero, Act.put, List.setIfInBounds_toArray, List.set_cons_zero, List.set_cons_succ]
          change wpAnyH _ _ _ _ _ 8 #[true, false, false, false, false, false, false, false, false] _ _
          refine wpAnyH_take (i := 1) (v := ?_) rfl (by kernel_rfl) (by kernel_rfl) (by kernel_rfl) (fun _ _ _ h => h) (Or.inl ⟨by rfl, ?hy⟩) hS ?_
          case hy => intro w' hSw; obtain ⟨hq1, hq2, hq3⟩ := HOC.out w' hSw; go_simp; try with_reducible rfl
          simp only [List.getElem_toArray, List.getElem_cons_succ, List.getElem_cons_zero, Act.put, List.setIfInBounds_toArray, List.set_cons_zero, List.set_cons_succ]
          change wpAnyH _ _ _ _ _ 7 #[true, true, false, false, false, false, false, false, false] _ _
          refine wpAnyH_take (i := 2) (v := ?_) rfl (by kernel_rfl) (by kernel_rfl) (by kernel_rfl) (fun _ _ _ h => h) (Or.inl ⟨by rfl, ?hy⟩) hS ?_
          case hy => intro w' hSw; obtain ⟨hq1, hq2, hq3⟩ := HOC.out w' hSw; go_simp; try with_reducible rfl
          simp only [List.getElem_toArray, List.getElem_cons_succ, List.getElem_cons_zero, Act.put, List.setIfInBounds_toArray, List.set_cons_zero, List.set_cons_succ]
          change wpAnyH _ _ _ _ _ 6 #[true, true, true, false, false, false, false, false, false] _ _
          refine wpAnyH_take (i := 3) (v := ?_) rfl (by kernel_rfl) (by kernel_rfl) (by kernel_rfl) (fun _ _ _ h => h) (Or.inl ⟨by rfl, ?hy⟩) hS ?_
          case hy => intro w' hSw; obtain ⟨hq1, hq2, hq3⟩ := HOC.out w' hSw; go_simp; try with_reducible rfl
          simp only [List.getElem_toArray, List.getElem_cons_succ, List.getElem_cons_zero, Act.put, List.setIfInBounds_toArray, List.set_cons_zero, List.set_cons_succ]
          change wpAnyH _ _ _ _ _ 5 #[true, true, true, true, false, false, false, false, false] _ _
          refine wpAnyH_take (i := 4) (v := ?_) rfl (by kernel_rfl) (by kernel_rfl) (by kernel_rfl) (fun _ _ _ h => h) (Or.inl ⟨by rfl, ?hy⟩) hS ?_
          case hy => intro w' hSw; obtain ⟨hq1, hq2, hq3⟩ := HOC.out w' hSw; go_simp; try with_reducible rfl
          simp only [List.getElem_toArray, List.getElem_cons_succ, List.getElem_cons_zero, Act.put, List.setIfInBounds_toArray, List.set_cons_zero, List.set_cons_succ]
          change wpAnyH _ _ _ _ _ 4 #[true, true, true, true, true, false, false, false, false] _ _
          refine wpAnyH_take (i := 5) (v := ?_) rfl (by kernel_rfl) (by kernel_rfl) (by kernel_rfl) (fun _ _ _ h => h) (Or.inl ⟨by rfl, ?hy⟩) hS ?_
          case hy => intro w' hSw; obtain ⟨hq1, hq2, hq3⟩ := HOC.out w' hSw; go_simp; try with_reducible rfl
          simp only [List.getElem_toArray, List.getElem_cons_succ, List.getElem_cons_zero, Act.put, List.setIfInBounds_toArray, List.set_cons_zero, List.set_cons_succ]
          change wpAnyH _ _ _ _ _ 3 #[true, true, true, true, true, true, false, false, false] _ _
          refine wpAnyH_take (i := 6) (v := ?_) rfl (by kernel_rfl) (by kernel_rfl) (by kernel_rfl) (fun _ _ _ h => h) (Or.inl ⟨by rfl, ?hy⟩) hS ?_
          case hy => intro w' hSw; obtain ⟨hq1, hq2, hq3⟩ := HOC.out w' hSw; go_simp; try with_reducible rfl
          simp only [List.getElem_toArray, List.getElem_cons_succ, List.getElem_cons_zero, Act.put, List.setIfInBounds_toArray, List.set_cons_zero, List.set_cons_succ]
          change wpAnyH _ _ _ _ _ 2 #[true, true, true, true, true, true, true, false, false] _ _
          refine wpAnyH_ready (rs := [7]) (by kernel_rfl) (by simp) ?_
          refine AllReadyH.cons rfl (fun K hK => ?_) AllReadyH.nil
          rw [if_pos (by rfl)]
          go_simp
          refine (HF.out WD HBD.out).mono ?_
          rintro r w7 ⟨qF, cF, rfl, hBF, hbF⟩
          refine hK.out _ _ ((hbF.block _ HLD.out).trans hS) (fun hS7 => ?_)
          clear hK K
          simp only [List.getElem_toArray, List.getElem_cons_succ, List.getElem_cons_zero, Act.put, List.setIfInBounds_toArray, List.set_cons_zero, List.set_cons_succ]
          change wpAnyH _ _ _ _ _ 1 #[true, true, true, true, true, true, true, true, false] _ _
          have HS7 := HSD.out.up hbF (Nat.le_refl _)
          have hbe : (ep, ba) = N i := Prod.ext HEP.out HBA.out.1
          refine wpAnyH_ready (rs := [8]) (by kernel_rfl) (by simp) ?_
          refine AllReadyH.cons rfl (fun K hK => ?_) AllReadyH.nil
          rw [if_pos (by rfl)]
          go_simp
          refine (HSE.out (ep, ba) W0.heap.size s m M T _ cF (F i) w7 (by rw [HEP.out]; exact HN.out.1) HBA.out.2 HP.out.1 (Nat.le_trans HZD.out hbF.size) HS7 hBF).mono ?_
          rintro r w8 ⟨qS, M', T', rfl, hstp, hqS, hxS, hS8, hlS, hkS⟩
          obtain ⟨cc, tv, hblk, _⟩ := HS7.cell
          have hO7 := hS7.trans HO6.out
          have hS9 : w8.heap[ob]? = W6.heap[ob]? := (hkS ob (lt_of_block hO7) (block_ne hO7 hblk (by simp [opA])) (block_nm hO7 HS7.map)).trans hS7
          refine hK.out _ _ (hS9) (fun hS10 => ?_)
          clear hK K
          simp only [List.getElem_toArray, List.getElem_cons_succ, List.getElem_cons_zero, Act.put, List.setIfInBounds_toArray, List.set_cons_zero, List.set_cons_succ]
          change wpAnyH _ _ _ _ _ 0 #[true, true, true, true, true, true, true, true, true] _ _
          refine wpAnyH_done (by kernel_rfl) ?_ _
          rw [hbe] at hstp
          have hfin : Hid (Slr w8 W0.heap.size s m k M' T' ∧ Kn N F (i + 1) M' T') := ⟨hS8, kn_step HKN.out hstp⟩
          have hO9 : Hid (w8.heap[ob]? = some (.cells (opA kd ep (ba : Int) pa pl pc) 81 (0, 0))) := hS9.trans HO6.out
          have hB9 : Hid (Below w.heap.size w w8) := HBD.out.trans ((hbF.mono HBD.out.size).trans (hlS.mono HWB.out))
          have hZ9 : Hid (W0.heap.size ≤ w8.heap.size) := Nat.le_trans HZD.out (Nat.le_trans hbF.size hlS.size)
          go_wp2_with fail
          go_meet
          exact ⟨rfl, M', T', hfin, hO9, hB9, hZ9⟩
        case rest =>
          obtain ⟨rfl, M', T', hSK, HO8, HB8, HZ8⟩ := hcut
          have HS8 := Lib.hid hSK.out.1
          have HK8 := Lib.hid hSK.out.2
          clear hSK HO6 HB6 HZ6 HS6 HKN HOC HOL
          generalize wc = w8 at *
          have hs0 : (0 : Int) ≤ (i : Int) := by omega
          have hs1 : (i : Int) ≤ (cap : Int) := by have := HLC.out; have := HLT.out; omega
          have HTB0 := htb
          go_wp2
          go_loopw [6, 41] (fun vt vj wi => ∃ j : Nat, j ≤ i ∧ vj = .int .i64 (j : Int) ∧ (∃ tc : Bool, vt = .bool tc ∧ Hid (tc = true ↔ Tj N F i j)) ∧ Hid (Below w8.heap.size w8 wi)) (fun _ vj _ => i - (intOf vj).toNat)
          case atStart => exact ⟨0, by omega, rfl, ⟨tb, rfl, HTB0.out.trans (tj_zero N F i).symm⟩, Below.refl _ _⟩
          case round =>
            obtain ⟨j, hj, rfl, ⟨tc, rfl, htc⟩, hbi⟩ := hrel
            by_cases hji : j < i
            · have hdj : decide ((j : Int) < (i : Int)) = true := by simp; omega
              have djl : (j : Int) < (i : Int) := by omega
              have HJI := Lib.hid hji
              have ej : IntKind.i64.wrap ((j : Int) + 1) = (j : Int) + 1 := by have := H20.out; exact IntWalk.i64_in _ (by omega)
              obtain ⟨g', o', kd', bk', pa', pl', pc', hgo, hn1', hn2', hp1', hp2', hr', hf'⟩ := HNF.out j (Nat.lt_trans hji HLT.out)
              cases hgo
              have HR' := Lib.hid hr'
              have HF' := Lib.hid hf'
              have HN' := Lib.hid hn2'
              have HP' := Lib.hid (And.intro hp1' hp2')
              obtain ⟨ep', hep'⟩ : ∃ ep', ep' = (N j).1 := ⟨_, rfl⟩
              have HEP' := Lib.hid hep'
              rw [← hep'] at HR'
              have hab' := (b255_eq bk').1
              rw [← hn2'] at hab'
              obtain ⟨ba', hba'⟩ : ∃ ba', ba' = (N j).2 := ⟨_, rfl⟩
              have HBA' := Lib.hid hba'
              rw [← hba'] at hab'
              have HBI : Hid (Below w.heap.size w wr) := HB8.out.trans (hbi.out.mono HB8.out.size)
              have HOI : Hid (wr.heap[ob]? = some (.cells (opA kd ep (ba : Int) pa pl pc) 81 (0, 0))) := (hbi.out.block _ (lt_of_block HO8.out)).trans HO8.out
              clear hr' hf' hn1' hn2' hp1' hp2' hep' hba' hji hj
              go_wp2_with (first
                | (refine wpList_load_mid rfl 81 (.tmp 43) rfl g (o + j * 4) rfl _ _ (HR'.out _ HBI.out) Try.underlying81 rfl (by rw [info81]; simp [opA]) ?_)
                | (refine wpList_store_row rfl 81 (.tmp 10) (.tmp 44) rfl wr.heap.size (opA kd' ep' bk' pa' pl' pc') rfl rfl 81 _ (heap_new' _ _) (by rw [info81]; rfl) (by rfl) (opA_one _ _ _ _ _ _) ?_; generalize hW7 : World.setRow _ _ _ = W7; have HX7 : Hid (W7.heap[wr.heap.size]? = some (.cells (opA kd' ep' bk' pa' pl' pc') 81 (0, 0))) := (by rw [← hW7]; exact setRow_heap _ _ _ _ _ _ (heap_new' _ _)); have HB7 : Hid (Below wr.heap.size wr W7) := (by rw [← hW7]; exact below_setRow ((Below.refl _ _).alloc (Nat.le_refl _) _) (Nat.le_refl _) _); clear hW7)
                | fail)
              have HO7 : Hid (W7.heap[ob]? = some (.cells (opA kd ep (ba : Int) pa pl pc) 81 (0, 0))) := (HB7.out.block _ (lt_of_block HOI.out)).trans HOI.out
              have HBW : Hid (Below w.heap.size w W7) := HBI.out.trans (HB7.out.mono HBI.out.size)
              have HBV : Hid (Below w8.heap.size w8 W7) := hbi.out.trans (HB7.out.mono hbi.out.size)
              obtain ⟨xb, hxb⟩ : ∃ xb, xb = wr.heap.size := ⟨_, rfl⟩
              rw [← hxb] at HX7 ⊢
              have HXC : Hid (∀ w' : World, Below W7.heap.size W7 w' → w'.cell? ⟨xb, 1, none⟩ = some (.int .u64 (ep' : Int)) ∧ w'.cell? ⟨xb, 2, none⟩ = some (.int .i64 bk') ∧ w'.cell? ⟨xb, 3, none⟩ = some (.slice pa' pl' pc') ∧ w'.cell? ⟨ob, 1, none⟩ = some (.int .u64 (ep : Int)) ∧ w'.cell? ⟨ob, 2, none⟩ = some (.int .i64 (ba : Int)) ∧ w'.cell? ⟨ob, 3, none⟩ = some (.slice pa pl pc)) := fun w' h =>
                have h1 := (h.block _ (lt_of_block HX7.out)).trans HX7.out
                have h2 := (h.block _ (lt_of_block HO7.out)).trans HO7.out
                ⟨(cells_at h1 1).trans rfl, (cells_at h1 2).trans rfl, (cells_at h1 3).trans rfl, (cells_at h2 1).trans rfl, (cells_at h2 2).trans rfl, (cells_at h2 3).trans rfl⟩
              clear hxb HX7 HB7 HO7 HBI HOI HR'
              cases tc with
              | true =>
                have HTJ : Hid (Tj N F i (j + 1)) := (tj_step N F i j).2 (.inl (htc.out.1 rfl))
                refine wp_region_held_drew (S := fun w' => Below W7.heap.size W7 w') (by kernel_rfl) (Below.refl _ _).drew ?_
                intro hS
                generalize W7.drew = WD at hS ⊢
                change wpAnyH _ _ _ _ _ 28 #[false, false, false, false, false, false, false, false, false, false, false, false, false, false, false, false, false, false, false, false, false, false, false, false, false, false, false, false] _ _
                refine wpAnyH_take (i := 0) (v := ?_) rfl (by kernel_rfl) (by kernel_rfl) (by kernel_rfl) (fun _ _ _ h => h) (Or.inl ⟨by rfl, ?hy⟩) hS ?_
                case hy => intro w' hSw; obtain ⟨hq1, hq2, hq3, hq4, hq5, hq6⟩ := HXC.out w' hSw; go_simp; try with_reducible rfl
                simp only [List.getElem_toArray, List.getElem_cons_succ, List.getElem_cons_zero, Act.put, List.setIfInBounds_toArray, List.set_cons_zero, List.set_cons_succ]
                change wpAnyH _ _ _ _ _ 27 #[true, false, false, false, false, false, false, false, false, false, false, false, false, false, false, false, false, false, false, false, false, false, false, false, false, false, false, false] _ _
                refine wpAnyH_take (i := 1) (v := ?_) rfl (by kernel_rfl) (by kernel_rfl) (by kernel_rfl) (fun _ _ _ h => h) (Or.inl ⟨by rfl, ?hy⟩) hS ?_
                case hy => intro w' hSw; obtain ⟨hq1, hq2, hq3, hq4, hq5, hq6⟩ := HXC.out w' hSw; go_simp; try with_reducible rfl
                simp only [List.getElem_toArray, List.getElem_cons_succ, List.getElem_cons_zero, Act.put, List.setIfInBounds_toArray, List.set_cons_zero, List.set_cons_succ]
                change wpAnyH _ _ _ _ _ 26 #[true, true, false, false, false, false, false, false, false, false, false, false, false, false, false, false, false, false, false, false, false, false, false, false, false, false, false, false] _ _
                refine wpAnyH_take (i := 2) rfl (by kernel_rfl) (by kernel_rfl) (by kernel_rfl) (fun _ _ _ h => h) (Or.inr ⟨by rfl, rfl⟩) hS ?_
                simp only [List.getElem_toArray, List.getElem_cons_succ, List.getElem_cons_zero, Act.put, List.setIfInBounds_toArray, List.set_cons_zero, List.set_cons_succ]
                change wpAnyH _ _ _ _ _ 25 #[true, true, true, false, false, false, false, false, false, false, false, false, false, false, false, false, false, false, false, false, false, false, false, false, false, false, false, false] _ _
                refine wpAnyH_take (i := 3) rfl (by kernel_rfl) (by kernel_rfl) (by kernel_rfl) (fun _ _ _ h => h) (Or.inr ⟨by rfl, rfl⟩) hS ?_
                simp only [List.getElem_toArray, List.getElem_cons_succ, List.getElem_cons_zero, Act.put, List.setIfInBounds_toArray, List.set_cons_zero, List.set_cons_succ]
                change wpAnyH _ _ _ _ _ 24 #[true, true, true, true, false, false, false, false, false, false, false, false, false, false, false, false, false, false, false, false, false, false, false, false, false, false, false, false] _ _
                refine wpAnyH_take (i := 4) rfl (by kernel_rfl) (by kernel_rfl) (by kernel_rfl) (fun _ _ _ h => h) (Or.inr ⟨by rfl, rfl⟩) hS ?_
                simp only [List.getElem_toArray, List.getElem_cons_succ, List.getElem_cons_zero, Act.put, List.setIfInBounds_toArray, List.set_cons_zero, List.set_cons_succ]
                change wpAnyH _ _ _ _ _ 23 #[true, true, true, true, true, false, false, false, false, false, false, false, false, false, false, false, false, false, false, false, false, false, false, false, false, false, false, false] _ _
                refine wpAnyH_take (i := 5) rfl (by kernel_rfl) (by kernel_rfl) (by kernel_rfl) (fun _ _ _ h => h) (Or.inr ⟨by rfl, rfl⟩) hS ?_
                simp only [List.getElem_toArray, List.getElem_cons_succ, List.getElem_cons_zero, Act.put, List.setIfInBounds_toArray, List.set_cons_zero, List.set_cons_succ]
                change wpAnyH _ _ _ _ _ 22 #[true, true, true, true, true, true, false, false, false, false, false, false, false, false, false, false, false, false, false, false, false, false, false, false, false, false, false, false] _ _
                refine wpAnyH_take (i := 6) rfl (by kernel_rfl) (by kernel_rfl) (by kernel_rfl) (fun _ _ _ h => h) (Or.inr ⟨by rfl, rfl⟩) hS ?_
                simp only [List.getElem_toArray, List.getElem_cons_succ, List.getElem_cons_zero, Act.put, List.setIfInBounds_toArray, List.set_cons_zero, List.set_cons_succ]
                change wpAnyH _ _ _ _ _ 21 #[true, true, true, true, true, true, true, false, false, false, false, false, false, false, false, false, false, false, false, false, false, false, false, false, false, false, false, false] _ _
                refine wpAnyH_take (i := 7) rfl (by kernel_rfl) (by kernel_rfl) (by kernel_rfl) (fun _ _ _ h => h) (Or.inr ⟨by rfl, rfl⟩) hS ?_
                simp only [List.getElem_toArray, List.getElem_cons_succ, List.getElem_cons_zero, Act.put, List.setIfInBounds_toArray, List.set_cons_zero, List.set_cons_succ]
                change wpAnyH _ _ _ _ _ 20 #[true, true, true, true, true, true, true, true, false, false, false, false, false, false, false, false, false, false, false, false, false, false, false, false, false, false, false, false] _ _
                refine wpAnyH_take (i := 8) rfl (by kernel_rfl) (by kernel_rfl) (by kernel_rfl) (fun _ _ _ h => h) (Or.inr ⟨by rfl, rfl⟩) hS ?_
                simp only [List.getElem_toArray, List.getElem_cons_succ, List.getElem_cons_zero, Act.put, List.setIfInBounds_toArray, List.set_cons_zero, List.set_cons_succ]
                change wpAnyH _ _ _ _ _ 19 #[true, true, true, true, true, true, true, true, true, false, false, false, false, false, false, false, false, false, false, false, false, false, false, false, false, false, false, false] _ _
                refine wpAnyH_take (i := 9) rfl (by kernel_rfl) (by kernel_rfl) (by kernel_rfl) (fun _ _ _ h => h) (Or.inr ⟨by rfl, rfl⟩) hS ?_
                simp only [List.getElem_toArray, List.getElem_cons_succ, List.getElem_cons_zero, Act.put, List.setIfInBounds_toArray, List.set_cons_zero, List.set_cons_succ]
                change wpAnyH _ _ _ _ _ 18 #[true, true, true, true, true, true, true, true, true, true, false, false, false, false, false, false, false, false, false, false, false, false, false, false, false, false, false, false] _ _
                refine wpAnyH_take (i := 10) rfl (by kernel_rfl) (by kernel_rfl) (by kernel_rfl) (fun _ _ _ h => h) (Or.inr ⟨by rfl, rfl⟩) hS ?_
                simp only [List.getElem_toArray, List.getElem_cons_succ, List.getElem_cons_zero, Act.put, List.setIfInBounds_toArray, List.set_cons_zero, List.set_cons_succ]
                change wpAnyH _ _ _ _ _ 17 #[true, true, true, true, true, true, true, true, true, true, true, false, false, false, false, false, false, false, false, false, false, false, false, false, false, false, false, false] _ _
                refine wpAnyH_take (i := 11) rfl (by kernel_rfl) (by kernel_rfl) (by kernel_rfl) (fun _ _ _ h => h) (Or.inr ⟨by rfl, rfl⟩) hS ?_
                simp only [List.getElem_toArray, List.getElem_cons_succ, List.getElem_cons_zero, Act.put, List.setIfInBounds_toArray, List.set_cons_zero, List.set_cons_succ]
                change wpAnyH _ _ _ _ _ 16 #[true, true, true, true, true, true, true, true, true, true, true, true, false, false, false, false, false, false, false, false, false, false, false, false, false, false, false, false] _ _
                refine wpAnyH_take (i := 12) rfl (by kernel_rfl) (by kernel_rfl) (by kernel_rfl) (fun _ _ _ h => h) (Or.inr ⟨by rfl, rfl⟩) hS ?_
                simp only [List.getElem_toArray, List.getElem_cons_succ, List.getElem_cons_zero, Act.put, List.setIfInBounds_toArray, List.set_cons_zero, List.set_cons_succ]
                change wpAnyH _ _ _ _ _ 15 #[true, true, true, true, true, true, true, true, true, true, true, true, true, false, false, false, false, false, false, false, false, false, false, false, false, false, false, false] _ _
                refine wpAnyH_take (i := 13) rfl (by kernel_rfl) (by kernel_rfl) (by kernel_rfl) (fun _ _ _ h => h) (Or.inr ⟨by rfl, rfl⟩) hS ?_
                simp only [List.getElem_toArray, List.getElem_cons_succ, List.getElem_cons_zero, Act.put, List.setIfInBounds_toArray, List.set_cons_zero, List.set_cons_succ]
                change wpAnyH _ _ _ _ _ 14 #[true, true, true, true, true, true, true, true, true, true, true, true, true, true, false, false, false, false, false, false, false, false, false, false, false, false, false, false] _ _
                refine wpAnyH_take (i := 14) rfl (by kernel_rfl) (by kernel_rfl) (by kernel_rfl) (fun _ _ _ h => h) (Or.inr ⟨by rfl, rfl⟩) hS ?_
                simp only [List.getElem_toArray, List.getElem_cons_succ, List.getElem_cons_zero, Act.put, List.setIfInBounds_toArray, List.set_cons_zero, List.set_cons_succ]
                change wpAnyH _ _ _ _ _ 13 #[true, true, true, true, true, true, true, true, true, true, true, true, true, true, true, false, false, false, false, false, false, false, false, false, false, false, false, false] _ _
                refine wpAnyH_take (i := 15) rfl (by kernel_rfl) (by kernel_rfl) (by kernel_rfl) (fun _ _ _ h => h) (Or.inr ⟨by rfl, rfl⟩) hS ?_
                simp only [List.getElem_toArray, List.getElem_cons_succ, List.getElem_cons_zero, Act.put, List.setIfInBounds_toArray, List.set_cons_zero, List.set_cons_succ]
                change wpAnyH _ _ _ _ _ 12 #[true, true, true, true, true, true, true, true, true, true, true, true, true, true, true, true, false, false, false, false, false, false, false, false, false, false, false, false] _ _
                refine wpAnyH_take (i := 16) rfl (by kernel_rfl) (by kernel_rfl) (by kernel_rfl) (fun _ _ _ h => h) (Or.inr ⟨by rfl, rfl⟩) hS ?_
                simp only [List.getElem_toArray, List.getElem_cons_succ, List.getElem_cons_zero, Act.put, List.setIfInBounds_toArray, List.set_cons_zero, List.set_cons_succ]
                change wpAnyH _ _ _ _ _ 11 #[true, true, true, true, true, true, true, true, true, true, true, true, true, true, true, true, true, false, false, false, false, false, false, false, false, false, false, false] _ _
                refine wpAnyH_take (i := 17) rfl (by kernel_rfl) (by kernel_rfl) (by kernel_rfl) (fun _ _ _ h => h) (Or.inr ⟨by rfl, rfl⟩) hS ?_
                simp only [List.getElem_toArray, List.getElem_cons_succ, List.getElem_cons_zero, Act.put, List.setIfInBounds_toArray, List.set_cons_zero, List.set_cons_succ]
                change wpAnyH _ _ _ _ _ 10 #[true, true, true, true, true, true, true, true, true, true, true, true, true, true, true, true, true, true, false, false, false, false, false, false, false, false, false, false] _ _
                refine wpAnyH_take (i := 18) rfl (by kernel_rfl) (by kernel_rfl) (by kernel_rfl) (fun _ _ _ h => h) (Or.inr ⟨by rfl, rfl⟩) hS ?_
                simp only [List.getElem_toArray, List.getElem_cons_succ, List.getElem_cons_zero, Act.put, List.setIfInBounds_toArray, List.set_cons_zero, List.set_cons_succ]
                change wpAnyH _ _ _ _ _ 9 #[true, true, true, true, true, true, true, true, true, true, true, true, true, true, true, true, true, true, true, false, false, false, false, false, false, false, false, false] _ _
                refine wpAnyH_take (i := 19) rfl (by kernel_rfl) (by kernel_rfl) (by kernel_rfl) (fun _ _ _ h => h) (Or.inr ⟨by rfl, rfl⟩) hS ?_
                simp only [List.getElem_toArray, List.getElem_cons_succ, List.getElem_cons_zero, Act.put, List.setIfInBounds_toArray, List.set_cons_zero, List.set_cons_succ]
                change wpAnyH _ _ _ _ _ 8 #[true, true, true, true, true, true, true, true, true, true, true, true, true, true, true, true, true, true, true, true, false, false, false, false, false, false, false, false] _ _
                refine wpAnyH_take (i := 20) rfl (by kernel_rfl) (by kernel_rfl) (by kernel_rfl) (fun _ _ _ h => h) (Or.inr ⟨by rfl, rfl⟩) hS ?_
                simp only [List.getElem_toArray, List.getElem_cons_succ, List.getElem_cons_zero, Act.put, List.setIfInBounds_toArray, List.set_cons_zero, List.set_cons_succ]
                change wpAnyH _ _ _ _ _ 7 #[true, true, true, true, true, true, true, true, true, true, true, true, true, true, true, true, true, true, true, true, true, false, false, false, false, false, false, false] _ _
                refine wpAnyH_take (i := 21) rfl (by kernel_rfl) (by kernel_rfl) (by kernel_rfl) (fun _ _ _ h => h) (Or.inr ⟨by rfl, rfl⟩) hS ?_
                simp only [List.getElem_toArray, List.getElem_cons_succ, List.getElem_cons_zero, Act.put, List.setIfInBounds_toArray, List.set_cons_zero, List.set_cons_succ]
                change wpAnyH _ _ _ _ _ 6 #[true, true, true, true, true, true, true, true, true, true, true, true, true, true, true, true, true, true, true, true, true, true, false, false, false, false, false, false] _ _
                refine wpAnyH_take (i := 22) rfl (by kernel_rfl) (by kernel_rfl) (by kernel_rfl) (fun _ _ _ h => h) (Or.inr ⟨by rfl, rfl⟩) hS ?_
                simp only [List.getElem_toArray, List.getElem_cons_succ, List.getElem_cons_zero, Act.put, List.setIfInBounds_toArray, List.set_cons_zero, List.set_cons_succ]
                change wpAnyH _ _ _ _ _ 5 #[true, true, true, true, true, true, true, true, true, true, true, true, true, true, true, true, true, true, true, true, true, true, true, false, false, false, false, false] _ _
                refine wpAnyH_take (i := 23) rfl (by kernel_rfl) (by kernel_rfl) (by kernel_rfl) (fun _ _ _ h => h) (Or.inr ⟨by rfl, rfl⟩) hS ?_
                simp only [List.getElem_toArray, List.getElem_cons_succ, List.getElem_cons_zero, Act.put, List.setIfInBounds_toArray, List.set_cons_zero, List.set_cons_succ]
                change wpAnyH _ _ _ _ _ 4 #[true, true, true, true, true, true, true, true, true, true, true, true, true, true, true, true, true, true, true, true, true, true, true, true, false, false, false, false] _ _
                refine wpAnyH_take (i := 24) rfl (by kernel_rfl) (by kernel_rfl) (by kernel_rfl) (fun _ _ _ h => h) (Or.inr ⟨by rfl, rfl⟩) hS ?_
                simp only [List.getElem_toArray, List.getElem_cons_succ, List.getElem_cons_zero, Act.put, List.setIfInBounds_toArray, List.set_cons_zero, List.set_cons_succ]
                change wpAnyH _ _ _ _ _ 3 #[true, true, true, true, true, true, true, true, true, true, true, true, true, true, true, true, true, true, true, true, true, true, true, true, true, false, false, false] _ _
                refine wpAnyH_take (i := 25) rfl (by kernel_rfl) (by kernel_rfl) (by kernel_rfl) (fun _ _ _ h => h) (Or.inr ⟨by rfl, rfl⟩) hS ?_
                simp only [List.getElem_toArray, List.getElem_cons_succ, List.getElem_cons_zero, Act.put, List.setIfInBounds_toArray, List.set_cons_zero, List.set_cons_succ]
                change wpAnyH _ _ _ _ _ 2 #[true, true, true, true, true, true, true, true, true, true, true, true, true, true, true, true, true, true, true, true, true, true, true, true, true, true, false, false] _ _
                refine wpAnyH_take (i := 26) (v := ?_) rfl (by kernel_rfl) (by kernel_rfl) (by kernel_rfl) (fun _ _ _ h => h) (Or.inl ⟨by rfl, ?hy⟩) hS ?_
                case hy => intro w' hSw; obtain ⟨hq1, hq2, hq3, hq4, hq5, hq6⟩ := HXC.out w' hSw; go_simp; try with_reducible rfl
                simp only [List.getElem_toArray, List.getElem_cons_succ, List.getElem_cons_zero, Act.put, List.setIfInBounds_toArray, List.set_cons_zero, List.set_cons_succ]
                change wpAnyH _ _ _ _ _ 1 #[true, true, true, true, true, true, true, true, true, true, true, true, true, true, true, true, true, true, true, true, true, true, true, true, true, true, true, false] _ _
                refine wpAnyH_take (i := 27) (v := ?_) rfl (by kernel_rfl) (by kernel_rfl) (by kernel_rfl) (fun _ _ _ h => h) (Or.inl ⟨by rfl, ?hy⟩) hS ?_
                case hy => intro w' hSw; obtain ⟨hq1, hq2, hq3, hq4, hq5, hq6⟩ := HXC.out w' hSw; go_simp; try with_reducible rfl
                simp only [List.getElem_toArray, List.getElem_cons_succ, List.getElem_cons_zero, Act.put, List.setIfInBounds_toArray, List.set_cons_zero, List.set_cons_succ]
                change wpAnyH _ _ _ _ _ 0 #[true, true, true, true, true, true, true, true, true, true, true, true, true, true, true, true, true, true, true, true, true, true, true, true, true, true, true, true] _ _
                refine wpAnyH_done (by kernel_rfl) ?_ _
                have hend : Below W7.heap.size W7 _ := hS
                have HEN : Hid (Below w8.heap.size w8 _) := HBV.out.trans (hend.mono HBV.out.size)
                go_wp2_with fail
                go_roundw
                case rel =>
                  exact ⟨j + 1, by have := HJI.out; omega, by have := HJI.out; have := H20.out; go_num, ⟨true, rfl, ⟨fun _ => HTJ.out, fun _ => rfl⟩⟩, HEN.out⟩
                case measure => simp [intOf]; have := HJI.out; have := H20.out; omega
              | false =>
                have HTN : Hid (¬ Tj N F i j) := fun h => by have := htc.out.2 h; cases this
                by_cases he : ep' = ep
                · have hde : ((ep' : Int) == (ep : Int)) = true := by simp [he]
                  have HE := Lib.hid he
                  by_cases hb : ba' = ba
                  · have hdb : ((ba' : Int) == (ba : Int)) = true := by simp [hb]
                    have HNN : Hid (N j = N i) := Prod.ext (by rw [← HEP'.out, ← HEP.out]; exact he) (by rw [← HBA'.out, hb]; exact HBA.out.1)
                    clear he hb
                    refine wp_region_held_drew (S := fun w' => Below W7.heap.size W7 w') (by kernel_rfl) (Below.refl _ _).drew ?_
                    intro hS
                    generalize W7.drew = WD at hS ⊢
                    change wpAnyH _ _ _ _ _ 28 #[false, false, false, false, false, false, false, false, false, false, false, false, false, false, false, false, false, false, false, false, false, false, false, false, false, false, false, false] _ _
                    refine wpAnyH_take (i := 0) (v := ?_) rfl (by kernel_rfl) (by kernel_rfl) (by kernel_rfl) (fun _ _ _ h => h) (Or.inl ⟨by rfl, ?hy⟩) hS ?_
                    case hy => intro w' hSw; obtain ⟨hq1, hq2, hq3, hq4, hq5, hq6⟩ := HXC.out w' hSw; go_simp; try with_reducible rfl
                    simp only [List.getElem_toArray, List.getElem_cons_succ, List.getElem_cons_zero, Act.put, List.setIfInBounds_toArray, List.set_cons_zero, List.set_cons_succ]
                    change wpAnyH _ _ _ _ _ 27 #[true, false, false, false, false, false, false, false, false, false, false, false, false, false, false, false, false, false, false, false, false, false, false, false, false, false, false, false] _ _
                    refine wpAnyH_take (i := 1) (v := ?_) rfl (by kernel_rfl) (by kernel_rfl) (by kernel_rfl) (fun _ _ _ h => h) (Or.inl ⟨by rfl, ?hy⟩) hS ?_
                    case hy => intro w' hSw; obtain ⟨hq1, hq2, hq3, hq4, hq5, hq6⟩ := HXC.out w' hSw; go_simp; try with_reducible rfl
                    simp only [List.getElem_toArray, List.getElem_cons_succ, List.getElem_cons_zero, Act.put, List.setIfInBounds_toArray, List.set_cons_zero, List.set_cons_succ]
                    change wpAnyH _ _ _ _ _ 26 #[true, true, false, false, false, false, false, false, false, false, false, false, false, false, false, false, false, false, false, false, false, false, false, false, false, false, false, false] _ _
                    refine wpAnyH_take (i := 2) (v := ?_) rfl (by kernel_rfl) (by kernel_rfl) (by kernel_rfl) (fun _ _ _ h => h) (Or.inl ⟨by rfl, ?hy⟩) hS ?_
                    case hy => intro w' hSw; obtain ⟨hq1, hq2, hq3, hq4, hq5, hq6⟩ := HXC.out w' hSw; go_simp; try with_reducible rfl
                    simp only [List.getElem_toArray, List.getElem_cons_succ, List.getElem_cons_zero, Act.put, List.setIfInBounds_toArray, List.set_cons_zero, List.set_cons_succ]
                    change wpAnyH _ _ _ _ _ 25 #[true, true, true, false, false, false, false, false, false, false, false, false, false, false, false, false, false, false, false, false, false, false, false, false, false, false, false, false] _ _
                    refine wpAnyH_take (i := 3) (v := ?_) rfl (by kernel_rfl) (by kernel_rfl) (by kernel_rfl) (fun _ _ _ h => h) (Or.inl ⟨by rfl, ?hy⟩) hS ?_
                    case hy => intro w' hSw; obtain ⟨hq1, hq2, hq3, hq4, hq5, hq6⟩ := HXC.out w' hSw; go_simp; try with_reducible rfl
                    simp only [List.getElem_toArray, List.getElem_cons_succ, List.getElem_cons_zero, Act.put, List.setIfInBounds_toArray, List.set_cons_zero, List.set_cons_succ]
                    change wpAnyH _ _ _ _ _ 24 #[true, true, true, true, false, false, false, false, false, false, false, false, false, false, false, false, false, false, false, false, false, false, false, false, false, false, false, false] _ _
                    refine wpAnyH_take (i := 4) (v := ?_) rfl (by kernel_rfl) (by kernel_rfl) (by kernel_rfl) (fun _ _ _ h => h) (Or.inl ⟨by rfl, ?hy⟩) hS ?_
                    case hy => intro w' hSw; obtain ⟨hq1, hq2, hq3, hq4, hq5, hq6⟩ := HXC.out w' hSw; go_simp; try with_reducible rfl
                    simp only [List.getElem_toArray, List.getElem_cons_succ, List.getElem_cons_zero, Act.put, List.setIfInBounds_toArray, List.set_cons_zero, List.set_cons_succ]
                    change wpAnyH _ _ _ _ _ 23 #[true, true, true, true, true, false, false, false, false, false, false, false, false, false, false, false, false, false, false, false, false, false, false, false, false, false, false, false] _ _
                    refine wpAnyH_take (i := 5) (v := ?_) rfl (by kernel_rfl) (by kernel_rfl) (by kernel_rfl) (fun _ _ _ h => h) (Or.inl ⟨by rfl, ?hy⟩) hS ?_
                    case hy => intro w' hSw; obtain ⟨hq1, hq2, hq3, hq4, hq5, hq6⟩ := HXC.out w' hSw; go_simp; try with_reducible rfl
                    simp only [List.getElem_toArray, List.getElem_cons_succ, List.getElem_cons_zero, Act.put, List.setIfInBounds_toArray, List.set_cons_zero, List.set_cons_succ]
                    change wpAnyH _ _ _ _ _ 22 #[true, true, true, true, true, true, false, false, false, false, false, false, false, false, false, false, false, false, false, false, false, false, false, false, false, false, false, false] _ _
                    refine wpAnyH_take (i := 6) (v := ?_) rfl (by kernel_rfl) (by kernel_rfl) (by kernel_rfl) (fun _ _ _ h => h) (Or.inl ⟨by rfl, ?hy⟩) hS ?_
                    case hy => intro w' hSw; obtain ⟨hq1, hq2, hq3, hq4, hq5, hq6⟩ := HXC.out w' hSw; go_simp; try with_reducible rfl
                    simp only [List.getElem_toArray, List.getElem_cons_succ, List.getElem_cons_zero, Act.put, List.setIfInBounds_toArray, List.set_cons_zero, List.set_cons_succ]
                    change wpAnyH _ _ _ _ _ 21 #[true, true, true, true, true, true, true, false, false, false, false, false, false, false, false, false, false, false, false, false, false, false, false, false, false, false, false, false] _ _
                    refine wpAnyH_take (i := 7) (v := ?_) rfl (by kernel_rfl) (by kernel_rfl) (by kernel_rfl) (fun _ _ _ h => h) (Or.inl ⟨by rfl, ?hy⟩) hS ?_
                    case hy => intro w' hSw; obtain ⟨hq1, hq2, hq3, hq4, hq5, hq6⟩ := HXC.out w' hSw; go_simp; try with_reducible rfl
                    simp only [List.getElem_toArray, List.getElem_cons_succ, List.getElem_cons_zero, Act.put, List.setIfInBounds_toArray, List.set_cons_zero, List.set_cons_succ]
                    change wpAnyH _ _ _ _ _ 20 #[true, true, true, true, true, true, true, true, false, false, false, false, false, false, false, false, false, false, false, false, false, false, false, false, false, false, false, false] _ _
                    refine wpAnyH_take (i := 8) (v := ?_) rfl (by kernel_rfl) (by kernel_rfl) (by kernel_rfl) (fun _ _ _ h => h) (Or.inl ⟨by rfl, ?hy⟩) hS ?_
                    case hy => intro w' hSw; obtain ⟨hq1, hq2, hq3, hq4, hq5, hq6⟩ := HXC.out w' hSw; go_simp; try with_reducible rfl
                    simp only [List.getElem_toArray, List.getElem_cons_succ, List.getElem_cons_zero, Act.put, List.setIfInBounds_toArray, List.set_cons_zero, List.set_cons_succ]
                    change wpAnyH _ _ _ _ _ 19 #[true, true, true, true, true, true, true, true, true, false, false, false, false, false, false, false, false, false, false, false, false, false, false, false, false, false, false, false] _ _
                    refine wpAnyH_take (i := 9) (v := ?_) rfl (by kernel_rfl) (by kernel_rfl) (by kernel_rfl) (fun _ _ _ h => h) (Or.inl ⟨by rfl, ?hy⟩) hS ?_
                    case hy => intro w' hSw; obtain ⟨hq1, hq2, hq3, hq4, hq5, hq6⟩ := HXC.out w' hSw; go_simp; try with_reducible rfl
                    simp only [List.getElem_toArray, List.getElem_cons_succ, List.getElem_cons_zero, Act.put, List.setIfInBounds_toArray, List.set_cons_zero, List.set_cons_succ]
                    change wpAnyH _ _ _ _ _ 18 #[true, true, true, true, true, true, true, true, true, true, false, false, false, false, false, false, false, false, false, false, false, false, false, false, false, false, false, false] _ _
                    refine wpAnyH_take (i := 10) (v := ?_) rfl (by kernel_rfl) (by kernel_rfl) (by kernel_rfl) (fun _ _ _ h => h) (Or.inl ⟨by rfl, ?hy⟩) hS ?_
                    case hy => intro w' hSw; obtain ⟨hq1, hq2, hq3, hq4, hq5, hq6⟩ := HXC.out w' hSw; go_simp; try with_reducible rfl
                    simp only [List.getElem_toArray, List.getElem_cons_succ, List.getElem_cons_zero, Act.put, List.setIfInBounds_toArray, List.set_cons_zero, List.set_cons_succ]
                    change wpAnyH _ _ _ _ _ 17 #[true, true, true, true, true, true, true, true, true, true, true, false, false, false, false, false, false, false, false, false, false, false, false, false, false, false, false, false] _ _
                    refine wpAnyH_take (i := 11) (v := ?_) rfl (by kernel_rfl) (by kernel_rfl) (by kernel_rfl) (fun _ _ _ h => h) (Or.inl ⟨by rfl, ?hy⟩) hS ?_
                    case hy => intro w' hSw; obtain ⟨hq1, hq2, hq3, hq4, hq5, hq6⟩ := HXC.out w' hSw; go_simp; try with_reducible rfl
                    simp only [List.getElem_toArray, List.getElem_cons_succ, List.getElem_cons_zero, Act.put, List.setIfInBounds_toArray, List.set_cons_zero, List.set_cons_succ]
                    change wpAnyH _ _ _ _ _ 16 #[true, true, true, true, true, true, true, true, true, true, true, true, false, false, false, false, false, false, false, false, false, false, false, false, false, false, false, false] _ _
                    refine wpAnyH_take (i := 12) (v := ?_) rfl (by kernel_rfl) (by kernel_rfl) (by kernel_rfl) (fun _ _ _ h => h) (Or.inl ⟨by rfl, ?hy⟩) hS ?_
                    case hy => intro w' hSw; obtain ⟨hq1, hq2, hq3, hq4, hq5, hq6⟩ := HXC.out w' hSw; go_simp; try with_reducible rfl
                    simp only [List.getElem_toArray, List.getElem_cons_succ, List.getElem_cons_zero, Act.put, List.setIfInBounds_toArray, List.set_cons_zero, List.set_cons_succ]
                    change wpAnyH _ _ _ _ _ 15 #[true, true, true, true, true, true, true, true, true, true, true, true, true, false, false, false, false, false, false, false, false, false, false, false, false, false, false, false] _ _
                    refine wpAnyH_take (i := 13) (v := ?_) rfl (by kernel_rfl) (by kernel_rfl) (by kernel_rfl) (fun _ _ _ h => h) (Or.inl ⟨by rfl, ?hy⟩) hS ?_
                    case hy => intro w' hSw; obtain ⟨hq1, hq2, hq3, hq4, hq5, hq6⟩ := HXC.out w' hSw; go_simp; try with_reducible rfl
                    simp only [List.getElem_toArray, List.getElem_cons_succ, List.getElem_cons_zero, Act.put, List.setIfInBounds_toArray, List.set_cons_zero, List.set_cons_succ]
                    change wpAnyH _ _ _ _ _ 14 #[true, true, true, true, true, true, true, true, true, true, true, true, true, true, false, false, false, false, false, false, false, false, false, false, false, false, false, false] _ _
                    refine wpAnyH_take (i := 14) (v := ?_) rfl (by kernel_rfl) (by kernel_rfl) (by kernel_rfl) (fun _ _ _ h => h) (Or.inl ⟨by rfl, ?hy⟩) hS ?_
                    case hy => intro w' hSw; obtain ⟨hq1, hq2, hq3, hq4, hq5, hq6⟩ := HXC.out w' hSw; go_simp; try with_reducible rfl
                    simp only [List.getElem_toArray, List.getElem_cons_succ, List.getElem_cons_zero, Act.put, List.setIfInBounds_toArray, List.set_cons_zero, List.set_cons_succ]
                    change wpAnyH _ _ _ _ _ 13 #[true, true, true, true, true, true, true, true, true, true, true, true, true, true, true, false, false, false, false, false, false, false, false, false, false, false, false, false] _ _
                    refine wpAnyH_take (i := 15) (v := ?_) rfl (by kernel_rfl) (by kernel_rfl) (by kernel_rfl) (fun _ _ _ h => h) (Or.inl ⟨by rfl, ?hy⟩) hS ?_
                    case hy => intro w' hSw; obtain ⟨hq1, hq2, hq3, hq4, hq5, hq6⟩ := HXC.out w' hSw; go_simp; try with_reducible rfl
                    simp only [List.getElem_toArray, List.getElem_cons_succ, List.getElem_cons_zero, Act.put, List.setIfInBounds_toArray, List.set_cons_zero, List.set_cons_succ]
                    change wpAnyH _ _ _ _ _ 12 #[true, true, true, true, true, true, true, true, true, true, true, true, true, true, true, true, false, false, false, false, false, false, false, false, false, false, false, false] _ _
                    refine wpAnyH_take (i := 16) (v := ?_) rfl (by kernel_rfl) (by kernel_rfl) (by kernel_rfl) (fun _ _ _ h => h) (Or.inl ⟨by rfl, ?hy⟩) hS ?_
                    case hy => intro w' hSw; obtain ⟨hq1, hq2, hq3, hq4, hq5, hq6⟩ := HXC.out w' hSw; go_simp; try with_reducible rfl
                    simp only [List.getElem_toArray, List.getElem_cons_succ, List.getElem_cons_zero, Act.put, List.setIfInBounds_toArray, List.set_cons_zero, List.set_cons_succ]
                    change wpAnyH _ _ _ _ _ 11 #[true, true, true, true, true, true, true, true, true, true, true, true, true, true, true, true, true, false, false, false, false, false, false, false, false, false, false, false] _ _
                    refine wpAnyH_take (i := 17) (v := ?_) rfl (by kernel_rfl) (by kernel_rfl) (by kernel_rfl) (fun _ _ _ h => h) (Or.inl ⟨by rfl, ?hy⟩) hS ?_
                    case hy => intro w' hSw; obtain ⟨hq1, hq2, hq3, hq4, hq5, hq6⟩ := HXC.out w' hSw; go_simp; try with_reducible rfl
                    simp only [List.getElem_toArray, List.getElem_cons_succ, List.getElem_cons_zero, Act.put, List.setIfInBounds_toArray, List.set_cons_zero, List.set_cons_succ]
                    change wpAnyH _ _ _ _ _ 10 #[true, true, true, true, true, true, true, true, true, true, true, true, true, true, true, true, true, true, false, false, false, false, false, false, false, false, false, false] _ _
                    refine wpAnyH_take (i := 20) (v := ?_) rfl (by kernel_rfl) (by kernel_rfl) (by kernel_rfl) (fun _ _ _ h => h) (Or.inl ⟨by rfl, ?hy⟩) hS ?_
                    case hy => intro w' hSw; obtain ⟨hq1, hq2, hq3, hq4, hq5, hq6⟩ := HXC.out w' hSw; go_simp; try with_reducible rfl
                    simp only [List.getElem_toArray, List.getElem_cons_succ, List.getElem_cons_zero, Act.put, List.setIfInBounds_toArray, List.set_cons_zero, List.set_cons_succ]
                    change wpAnyH _ _ _ _ _ 9 #[true, true, true, true, true, true, true, true, true, true, true, true, true, true, true, true, true, true, false, false, true, false, false, false, false, false, false, false] _ _
                    refine wpAnyH_take (i := 21) (v := ?_) rfl (by kernel_rfl) (by kernel_rfl) (by kernel_rfl) (fun _ _ _ h => h) (Or.inl ⟨by rfl, ?hy⟩) hS ?_
                    case hy => intro w' hSw; obtain ⟨hq1, hq2, hq3, hq4, hq5, hq6⟩ := HXC.out w' hSw; go_simp; try with_reducible rfl
                    simp only [List.getElem_toArray, List.getElem_cons_succ, List.getElem_cons_zero, Act.put, List.setIfInBounds_toArray, List.set_cons_zero, List.set_cons_succ]
                    change wpAnyH _ _ _ _ _ 8 #[true, true, true, true, true, true, true, true, true, true, true, true, true, true, true, true, true, true, false, false, true, true, false, false, false, false, false, false] _ _
                    refine wpAnyH_ready (rs := [18]) (by kernel_rfl) (by simp) ?_
                    refine AllReadyH.cons rfl (fun K hK => ?_) AllReadyH.nil
                    rw [if_pos (by rfl)]
                    go_simp
                    refine (HF'.out WD (HBW.out.trans (hS.mono HBW.out.size))).mono ?_
                    rintro r wa ⟨qa, ca, rfl, hBa, hba⟩
                    refine hK.out _ _ (hS.trans (hba.mono hS.size)) (fun hSa => ?_)
                    clear hK K
                    simp only [List.getElem_toArray, List.getElem_cons_succ, List.getElem_cons_zero, Act.put, List.setIfInBounds_toArray, List.set_cons_zero, List.set_cons_succ]
                    change wpAnyH _ _ _ _ _ 7 #[true, true, true, true, true, true, true, true, true, true, true, true, true, true, true, true, true, true, true, false, true, true, false, false, false, false, false, false] _ _
                    refine wpAnyH_more (S' := fun w' => Below wa.heap.size wa w') (fun w' h => hSa.trans (h.mono hSa.size)) _ _ _ _ ?_
                    have hHa : Below wa.heap.size wa wa := Below.refl _ _
                    refine wpAnyH_take (i := 19) rfl (by kernel_rfl) (by kernel_rfl) (by kernel_rfl) (fun _ _ _ h => h) (Or.inl ⟨by rfl, fun w' hSw => run_conv_op HP'.out.1 (hBa.up hSw (Nat.le_refl _)) _ (.tmp 63) _ rfl rfl⟩) hHa ?_
                    simp only [List.getElem_toArray, List.getElem_cons_succ, List.getElem_cons_zero, Act.put, List.setIfInBounds_toArray, List.set_cons_zero, List.set_cons_succ]
                    change wpAnyH _ _ _ _ _ 6 #[true, true, true, true, true, true, true, true, true, true, true, true, true, true, true, true, true, true, true, true, true, true, false, false, false, false, false, false] _ _
                    refine wpAnyH_ready (rs := [22]) (by kernel_rfl) (by simp) ?_
                    refine AllReadyH.cons rfl (fun K hK => ?_) AllReadyH.nil
                    rw [if_pos (by rfl)]
                    go_simp
                    refine (HF.out wa (HBW.out.trans (hSa.mono HBW.out.size))).mono ?_
                    rintro r wb ⟨qb, cb, rfl, hBb, hbb⟩
                    refine hK.out _ _ (hHa.trans (hbb.mono hHa.size)) (fun hSb => ?_)
                    clear hK K
                    simp only [List.getElem_toArray, List.getElem_cons_succ, List.getElem_cons_zero, Act.put, List.setIfInBounds_toArray, List.set_cons_zero, List.set_cons_succ]
                    change wpAnyH _ _ _ _ _ 5 #[true, true, true, true, true, true, true, true, true, true, true, true, true, true, true, true, true, true, true, true, true, true, true, false, false, false, false, false] _ _
                    refine wpAnyH_ready (rs := [23]) (by kernel_rfl) (by simp) ?_
                    refine AllReadyH.cons rfl (fun K hK => ?_) AllReadyH.nil
                    rw [if_pos (by rfl)]
                    refine wp_conv (.tmp 67) HP.out.1 hBb rfl rfl ?_
                    refine hK.out _ _ (hSb) (fun hSc => ?_)
                    clear hK K
                    simp only [List.getElem_toArray, List.getElem_cons_succ, List.getElem_cons_zero, Act.put, List.setIfInBounds_toArray, List.set_cons_zero, List.set_cons_succ]
                    change wpAnyH _ _ _ _ _ 4 #[true, true, true, true, true, true, true, true, true, true, true, true, true, true, true, true, true, true, true, true, true, true, true, true, false, false, false, false] _ _
                    refine wpAnyH_take (i := 24) rfl (by kernel_rfl) (by kernel_rfl) (by kernel_rfl) (fun _ _ _ h => h) (Or.inl ⟨by rfl, fun w' hSw => run_nes (F j) (F i) HP'.out.2 HP.out.2 _ (.tmp 64) (.tmp 68) _ _ rfl rfl rfl w'⟩) hSc ?_
                    simp only [List.getElem_toArray, List.getElem_cons_succ, List.getElem_cons_zero, Act.put, List.setIfInBounds_toArray, List.set_cons_zero, List.set_cons_succ]
                    change wpAnyH _ _ _ _ _ 3 #[true, true, true, true, true, true, true, true, true, true, true, true, true, true, true, true, true, true, true, true, true, true, true, true, true, false, false, false] _ _
                    refine wpAnyH_take (i := 25) (v := ?_) rfl (by kernel_rfl) (by kernel_rfl) (by kernel_rfl) (fun _ _ _ h => h) (Or.inl ⟨by rfl, ?hy⟩) hSc ?_
                    case hy => intro w' hSw; go_simp; try with_reducible rfl
                    simp only [List.getElem_toArray, List.getElem_cons_succ, List.getElem_cons_zero, Act.put, List.setIfInBounds_toArray, List.set_cons_zero, List.set_cons_succ]
                    change wpAnyH _ _ _ _ _ 2 #[true, true, true, true, true, true, true, true, true, true, true, true, true, true, true, true, true, true, true, true, true, true, true, true, true, true, false, false] _ _
                    refine wpAnyH_take (i := 26) (v := ?_) rfl (by kernel_rfl) (by kernel_rfl) (by kernel_rfl) (fun _ _ _ h => h) (Or.inl ⟨by rfl, ?hy⟩) hSc ?_
                    case hy => intro w' hSw; go_simp; try with_reducible rfl
                    simp only [List.getElem_toArray, List.getElem_cons_succ, List.getElem_cons_zero, Act.put, List.setIfInBounds_toArray, List.set_cons_zero, List.set_cons_succ]
                    change wpAnyH _ _ _ _ _ 1 #[true, true, true, true, true, true, true, true, true, true, true, true, true, true, true, true, true, true, true, true, true, true, true, true, true, true, true, false] _ _
                    refine wpAnyH_take (i := 27) (v := ?_) rfl (by kernel_rfl) (by kernel_rfl) (by kernel_rfl) (fun _ _ _ h => h) (Or.inl ⟨by rfl, ?hy⟩) hSc ?_
                    case hy => intro w' hSw; go_simp; try with_reducible rfl
                    simp only [List.getElem_toArray, List.getElem_cons_succ, List.getElem_cons_zero, Act.put, List.setIfInBounds_toArray, List.set_cons_zero, List.set_cons_succ]
                    change wpAnyH _ _ _ _ _ 0 #[true, true, true, true, true, true, true, true, true, true, true, true, true, true, true, true, true, true, true, true, true, true, true, true, true, true, true, true] _ _
                    refine wpAnyH_done (by kernel_rfl) ?_ _
                    have hend : Below W7.heap.size W7 _ := hSa.trans (hSc.mono hSa.size)
                    have HEN : Hid (Below w8.heap.size w8 _) := HBV.out.trans (hend.mono HBV.out.size)
                    go_wp2_with fail
                    go_roundw
                    case rel =>
                      refine ⟨j + 1, by have := HJI.out; omega, by have := HJI.out; have := H20.out; go_num, ⟨_, rfl, ?_⟩, HEN.out⟩
                      show _ ↔ _
                      rw [tj_step]
                      constructor
                      · intro h; exact .inr ⟨HNN.out, by simpa using h⟩
                      · rintro (h | ⟨_, h⟩)
                        · exact absurd h HTN.out
                        · simpa using h
                    case measure => simp [intOf]; have := HJI.out; have := H20.out; omega
                  · have hdb : ((ba' : Int) == (ba : Int)) = false := by simp; omega
                    have HNN : Hid (¬ N j = N i) := fun h => hb (by rw [HBA'.out, h]; exact HBA.out.1.symm)
                    clear he hb
                    refine wp_region_held_drew (S := fun w' => Below W7.heap.size W7 w') (by kernel_rfl) (Below.refl _ _).drew ?_
                    intro hS
                    generalize W7.drew = WD at hS ⊢
                    change wpAnyH _ _ _ _ _ 28 #[false, false, false, false, false, false, false, false, false, false, false, false, false, false, false, false, false, false, false, false, false, false, false, false, false, false, false, false] _ _
                    refine wpAnyH_take (i := 0) (v := ?_) rfl (by kernel_rfl) (by kernel_rfl) (by kernel_rfl) (fun _ _ _ h => h) (Or.inl ⟨by rfl, ?hy⟩) hS ?_
                    case hy => intro w' hSw; obtain ⟨hq1, hq2, hq3, hq4, hq5, hq6⟩ := HXC.out w' hSw; go_simp; try with_reducible rfl
                    simp only [List.getElem_toArray, List.getElem_cons_succ, List.getElem_cons_zero, Act.put, List.setIfInBounds_toArray, List.set_cons_zero, List.set_cons_succ]
                    change wpAnyH _ _ _ _ _ 27 #[true, false, false, false, false, false, false, false, false, false, false, false, false, false, false, false, false, false, false, false, false, false, false, false, false, false, false, false] _ _
                    refine wpAnyH_take (i := 1) (v := ?_) rfl (by kernel_rfl) (by kernel_rfl) (by kernel_rfl) (fun _ _ _ h => h) (Or.inl ⟨by rfl, ?hy⟩) hS ?_
                    case hy => intro w' hSw; obtain ⟨hq1, hq2, hq3, hq4, hq5, hq6⟩ := HXC.out w' hSw; go_simp; try with_reducible rfl
                    simp only [List.getElem_toArray, List.getElem_cons_succ, List.getElem_cons_zero, Act.put, List.setIfInBounds_toArray, List.set_cons_zero, List.set_cons_succ]
                    change wpAnyH _ _ _ _ _ 26 #[true, true, false, false, false, false, false, false, false, false, false, false, false, false, false, false, false, false, false, false, false, false, false, false, false, false, false, false] _ _
                    refine wpAnyH_take (i := 2) (v := ?_) rfl (by kernel_rfl) (by kernel_rfl) (by kernel_rfl) (fun _ _ _ h => h) (Or.inl ⟨by rfl, ?hy⟩) hS ?_
                    case hy => intro w' hSw; obtain ⟨hq1, hq2, hq3, hq4, hq5, hq6⟩ := HXC.out w' hSw; go_simp; try with_reducible rfl
                    simp only [List.getElem_toArray, List.getElem_cons_succ, List.getElem_cons_zero, Act.put, List.setIfInBounds_toArray, List.set_cons_zero, List.set_cons_succ]
                    change wpAnyH _ _ _ _ _ 25 #[true, true, true, false, false, false, false, false, false, false, false, false, false, false, false, false, false, false, false, false, false, false, false, false, false, false, false, false] _ _
                    refine wpAnyH_take (i := 3) (v := ?_) rfl (by kernel_rfl) (by kernel_rfl) (by kernel_rfl) (fun _ _ _ h => h) (Or.inl ⟨by rfl, ?hy⟩) hS ?_
                    case hy => intro w' hSw; obtain ⟨hq1, hq2, hq3, hq4, hq5, hq6⟩ := HXC.out w' hSw; go_simp; try with_reducible rfl
                    simp only [List.getElem_toArray, List.getElem_cons_succ, List.getElem_cons_zero, Act.put, List.setIfInBounds_toArray, List.set_cons_zero, List.set_cons_succ]
                    change wpAnyH _ _ _ _ _ 24 #[true, true, true, true, false, false, false, false, false, false, false, false, false, false, false, false, false, false, false, false, false, false, false, false, false, false, false, false] _ _
                    refine wpAnyH_take (i := 4) (v := ?_) rfl (by kernel_rfl) (by kernel_rfl) (by kernel_rfl) (fun _ _ _ h => h) (Or.inl ⟨by rfl, ?hy⟩) hS ?_
                    case hy => intro w' hSw; obtain ⟨hq1, hq2, hq3, hq4, hq5, hq6⟩ := HXC.out w' hSw; go_simp; try with_reducible rfl
                    simp only [List.getElem_toArray, List.getElem_cons_succ, List.getElem_cons_zero, Act.put, List.setIfInBounds_toArray, List.set_cons_zero, List.set_cons_succ]
                    change wpAnyH _ _ _ _ _ 23 #[true, true, true, true, true, false, false, false, false, false, false, false, false, false, false, false, false, false, false, false, false, false, false, false, false, false, false, false] _ _
                    refine wpAnyH_take (i := 5) (v := ?_) rfl (by kernel_rfl) (by kernel_rfl) (by kernel_rfl) (fun _ _ _ h => h) (Or.inl ⟨by rfl, ?hy⟩) hS ?_
                    case hy => intro w' hSw; obtain ⟨hq1, hq2, hq3, hq4, hq5, hq6⟩ := HXC.out w' hSw; go_simp; try with_reducible rfl
                    simp only [List.getElem_toArray, List.getElem_cons_succ, List.getElem_cons_zero, Act.put, List.setIfInBounds_toArray, List.set_cons_zero, List.set_cons_succ]
                    change wpAnyH _ _ _ _ _ 22 #[true, true, true, true, true, true, false, false, false, false, false, false, false, false, false, false, false, false, false, false, false, false, false, false, false, false, false, false] _ _
                    refine wpAnyH_take (i := 6) (v := ?_) rfl (by kernel_rfl) (by kernel_rfl) (by kernel_rfl) (fun _ _ _ h => h) (Or.inl ⟨by rfl, ?hy⟩) hS ?_
                    case hy => intro w' hSw; obtain ⟨hq1, hq2, hq3, hq4, hq5, hq6⟩ := HXC.out w' hSw; go_simp; try with_reducible rfl
                    simp only [List.getElem_toArray, List.getElem_cons_succ, List.getElem_cons_zero, Act.put, List.setIfInBounds_toArray, List.set_cons_zero, List.set_cons_succ]
                    change wpAnyH _ _ _ _ _ 21 #[true, true, true, true, true, true, true, false, false, false, false, false, false, false, false, false, false, false, false, false, false, false, false, false, false, false, false, false] _ _
                    refine wpAnyH_take (i := 7) (v := ?_) rfl (by kernel_rfl) (by kernel_rfl) (by kernel_rfl) (fun _ _ _ h => h) (Or.inl ⟨by rfl, ?hy⟩) hS ?_
                    case hy => intro w' hSw; obtain ⟨hq1, hq2, hq3, hq4, hq5, hq6⟩ := HXC.out w' hSw; go_simp; try with_reducible rfl
                    simp only [List.getElem_toArray, List.getElem_cons_succ, List.getElem_cons_zero, Act.put, List.setIfInBounds_toArray, List.set_cons_zero, List.set_cons_succ]
                    change wpAnyH _ _ _ _ _ 20 #[true, true, true, true, true, true, true, true, false, false, false, false, false, false, false, false, false, false, false, false, false, false, false, false, false, false, false, false] _ _
                    refine wpAnyH_take (i := 8) (v := ?_) rfl (by kernel_rfl) (by kernel_rfl) (by kernel_rfl) (fun _ _ _ h => h) (Or.inl ⟨by rfl, ?hy⟩) hS ?_
                    case hy => intro w' hSw; obtain ⟨hq1, hq2, hq3, hq4, hq5, hq6⟩ := HXC.out w' hSw; go_simp; try with_reducible rfl
                    simp only [List.getElem_toArray, List.getElem_cons_succ, List.getElem_cons_zero, Act.put, List.setIfInBounds_toArray, List.set_cons_zero, List.set_cons_succ]
                    change wpAnyH _ _ _ _ _ 19 #[true, true, true, true, true, true, true, true, true, false, false, false, false, false, false, false, false, false, false, false, false, false, false, false, false, false, false, false] _ _
                    refine wpAnyH_take (i := 9) (v := ?_) rfl (by kernel_rfl) (by kernel_rfl) (by kernel_rfl) (fun _ _ _ h => h) (Or.inl ⟨by rfl, ?hy⟩) hS ?_
                    case hy => intro w' hSw; obtain ⟨hq1, hq2, hq3, hq4, hq5, hq6⟩ := HXC.out w' hSw; go_simp; try with_reducible rfl
                    simp only [List.getElem_toArray, List.getElem_cons_succ, List.getElem_cons_zero, Act.put, List.setIfInBounds_toArray, List.set_cons_zero, List.set_cons_succ]
                    change wpAnyH _ _ _ _ _ 18 #[true, true, true, true, true, true, true, true, true, true, false, false, false, false, false, false, false, false, false, false, false, false, false, false, false, false, false, false] _ _
                    refine wpAnyH_take (i := 10) (v := ?_) rfl (by kernel_rfl) (by kernel_rfl) (by kernel_rfl) (fun _ _ _ h => h) (Or.inl ⟨by rfl, ?hy⟩) hS ?_
                    case hy => intro w' hSw; obtain ⟨hq1, hq2, hq3, hq4, hq5, hq6⟩ := HXC.out w' hSw; go_simp; try with_reducible rfl
                    simp only [List.getElem_toArray, List.getElem_cons_succ, List.getElem_cons_zero, Act.put, List.setIfInBounds_toArray, List.set_cons_zero, List.set_cons_succ]
                    change wpAnyH _ _ _ _ _ 17 #[true, true, true, true, true, true, true, true, true, true, true, false, false, false, false, false, false, false, false, false, false, false, false, false, false, false, false, false] _ _
                    refine wpAnyH_take (i := 11) (v := ?_) rfl (by kernel_rfl) (by kernel_rfl) (by kernel_rfl) (fun _ _ _ h => h) (Or.inl ⟨by rfl, ?hy⟩) hS ?_
                    case hy => intro w' hSw; obtain ⟨hq1, hq2, hq3, hq4, hq5, hq6⟩ := HXC.out w' hSw; go_simp; try with_reducible rfl
                    simp only [List.getElem_toArray, List.getElem_cons_succ, List.getElem_cons_zero, Act.put, List.setIfInBounds_toArray, List.set_cons_zero, List.set_cons_succ]
                    change wpAnyH _ _ _ _ _ 16 #[true, true, true, true, true, true, true, true, true, true, true, true, false, false, false, false, false, false, false, false, false, false, false, false, false, false, false, false] _ _
                    refine wpAnyH_take (i := 12) (v := ?_) rfl (by kernel_rfl) (by kernel_rfl) (by kernel_rfl) (fun _ _ _ h => h) (Or.inl ⟨by rfl, ?hy⟩) hS ?_
                    case hy => intro w' hSw; obtain ⟨hq1, hq2, hq3, hq4, hq5, hq6⟩ := HXC.out w' hSw; go_simp; try with_reducible rfl
                    simp only [List.getElem_toArray, List.getElem_cons_succ, List.getElem_cons_zero, Act.put, List.setIfInBounds_toArray, List.set_cons_zero, List.set_cons_succ]
                    change wpAnyH _ _ _ _ _ 15 #[true, true, true, true, true, true, true, true, true, true, true, true, true, false, false, false, false, false, false, false, false, false, false, false, false, false, false, false] _ _
                    refine wpAnyH_take (i := 13) (v := ?_) rfl (by kernel_rfl) (by kernel_rfl) (by kernel_rfl) (fun _ _ _ h => h) (Or.inl ⟨by rfl, ?hy⟩) hS ?_
                    case hy => intro w' hSw; obtain ⟨hq1, hq2, hq3, hq4, hq5, hq6⟩ := HXC.out w' hSw; go_simp; try with_reducible rfl
                    simp only [List.getElem_toArray, List.getElem_cons_succ, List.getElem_cons_zero, Act.put, List.setIfInBounds_toArray, List.set_cons_zero, List.set_cons_succ]
                    change wpAnyH _ _ _ _ _ 14 #[true, true, true, true, true, true, true, true, true, true, true, true, true, true, false, false, false, false, false, false, false, false, false, false, false, false, false, false] _ _
                    refine wpAnyH_take (i := 14) (v := ?_) rfl (by kernel_rfl) (by kernel_rfl) (by kernel_rfl) (fun _ _ _ h => h) (Or.inl ⟨by rfl, ?hy⟩) hS ?_
                    case hy => intro w' hSw; obtain ⟨hq1, hq2, hq3, hq4, hq5, hq6⟩ := HXC.out w' hSw; go_simp; try with_reducible rfl
                    simp only [List.getElem_toArray, List.getElem_cons_succ, List.getElem_cons_zero, Act.put, List.setIfInBounds_toArray, List.set_cons_zero, List.set_cons_succ]
                    change wpAnyH _ _ _ _ _ 13 #[true, true, true, true, true, true, true, true, true, true, true, true, true, true, true, false, false, false, false, false, false, false, false, false, false, false, false, false] _ _
                    refine wpAnyH_take (i := 15) (v := ?_) rfl (by kernel_rfl) (by kernel_rfl) (by kernel_rfl) (fun _ _ _ h => h) (Or.inl ⟨by rfl, ?hy⟩) hS ?_
                    case hy => intro w' hSw; obtain ⟨hq1, hq2, hq3, hq4, hq5, hq6⟩ := HXC.out w' hSw; go_simp; try with_reducible rfl
                    simp only [List.getElem_toArray, List.getElem_cons_succ, List.getElem_cons_zero, Act.put, List.setIfInBounds_toArray, List.set_cons_zero, List.set_cons_succ]
                    change wpAnyH _ _ _ _ _ 12 #[true, true, true, true, true, true, true, true, true, true, true, true, true, true, true, true, false, false, false, false, false, false, false, false, false, false, false, false] _ _
                    refine wpAnyH_take (i := 16) rfl (by kernel_rfl) (by kernel_rfl) (by kernel_rfl) (fun _ _ _ h => h) (Or.inr ⟨by rfl, rfl⟩) hS ?_
                    simp only [List.getElem_toArray, List.getElem_cons_succ, List.getElem_cons_zero, Act.put, List.setIfInBounds_toArray, List.set_cons_zero, List.set_cons_succ]
                    change wpAnyH _ _ _ _ _ 11 #[true, true, true, true, true, true, true, true, true, true, true, true, true, true, true, true, true, false, false, false, false, false, false, false, false, false, false, false] _ _
                    refine wpAnyH_take (i := 17) rfl (by kernel_rfl) (by kernel_rfl) (by kernel_rfl) (fun _ _ _ h => h) (Or.inr ⟨by rfl, rfl⟩) hS ?_
                    simp only [List.getElem_toArray, List.getElem_cons_succ, List.getElem_cons_zero, Act.put, List.setIfInBounds_toArray, List.set_cons_zero, List.set_cons_succ]
                    change wpAnyH _ _ _ _ _ 10 #[true, true, true, true, true, true, true, true, true, true, true, true, true, true, true, true, true, true, false, false, false, false, false, false, false, false, false, false] _ _
                    refine wpAnyH_take (i := 18) rfl (by kernel_rfl) (by kernel_rfl) (by kernel_rfl) (fun _ _ _ h => h) (Or.inr ⟨by rfl, rfl⟩) hS ?_
                    simp only [List.getElem_toArray, List.getElem_cons_succ, List.getElem_cons_zero, Act.put, List.setIfInBounds_toArray, List.set_cons_zero, List.set_cons_succ]
                    change wpAnyH _ _ _ _ _ 9 #[true, true, true, true, true, true, true, true, true, true, true, true, true, true, true, true, true, true, true, false, false, false, false, false, false, false, false, false] _ _
                    refine wpAnyH_take (i := 19) rfl (by kernel_rfl) (by kernel_rfl) (by kernel_rfl) (fun _ _ _ h => h) (Or.inr ⟨by rfl, rfl⟩) hS ?_
                    simp only [List.getElem_toArray, List.getElem_cons_succ, List.getElem_cons_zero, Act.put, List.setIfInBounds_toArray, List.set_cons_zero, List.set_cons_succ]
                    change wpAnyH _ _ _ _ _ 8 #[true, true, true, true, true, true, true, true, true, true, true, true, true, true, true, true, true, true, true, true, false, false, false, false, false, false, false, false] _ _
                    refine wpAnyH_take (i := 20) rfl (by kernel_rfl) (by kernel_rfl) (by kernel_rfl) (fun _ _ _ h => h) (Or.inr ⟨by rfl, rfl⟩) hS ?_
                    simp only [List.getElem_toArray, List.getElem_cons_succ, List.getElem_cons_zero, Act.put, List.setIfInBounds_toArray, List.set_cons_zero, List.set_cons_succ]
                    change wpAnyH _ _ _ _ _ 7 #[true, true, true, true, true, true, true, true, true, true, true, true, true, true, true, true, true, true, true, true, true, false, false, false, false, false, false, false] _ _
                    refine wpAnyH_take (i := 21) rfl (by kernel_rfl) (by kernel_rfl) (by kernel_rfl) (fun _ _ _ h => h) (Or.inr ⟨by rfl, rfl⟩) hS ?_
                    simp only [List.getElem_toArray, List.getElem_cons_succ, List.getElem_cons_zero, Act.put, List.setIfInBounds_toArray, List.set_cons_zero, List.set_cons_succ]
                    change wpAnyH _ _ _ _ _ 6 #[true, true, true, true, true, true, true, true, true, true, true, true, true, true, true, true, true, true, true, true, true, true, false, false, false, false, false, false] _ _
                    refine wpAnyH_take (i := 22) rfl (by kernel_rfl) (by kernel_rfl) (by kernel_rfl) (fun _ _ _ h => h) (Or.inr ⟨by rfl, rfl⟩) hS ?_
                    simp only [List.getElem_toArray, List.getElem_cons_succ, List.getElem_cons_zero, Act.put, List.setIfInBounds_toArray, List.set_cons_zero, List.set_cons_succ]
                    change wpAnyH _ _ _ _ _ 5 #[true, true, true, true, true, true, true, true, true, true, true, true, true, true, true, true, true, true, true, true, true, true, true, false, false, false, false, false] _ _
                    refine wpAnyH_take (i := 23) rfl (by kernel_rfl) (by kernel_rfl) (by kernel_rfl) (fun _ _ _ h => h) (Or.inr ⟨by rfl, rfl⟩) hS ?_
                    simp only [List.getElem_toArray, List.getElem_cons_succ, List.getElem_cons_zero, Act.put, List.setIfInBounds_toArray, List.set_cons_zero, List.set_cons_succ]
                    change wpAnyH _ _ _ _ _ 4 #[true, true, true, true, true, true, true, true, true, true, true, true, true, true, true, true, true, true, true, true, true, true, true, true, false, false, false, false] _ _
                    refine wpAnyH_take (i := 24) rfl (by kernel_rfl) (by kernel_rfl) (by kernel_rfl) (fun _ _ _ h => h) (Or.inr ⟨by rfl, rfl⟩) hS ?_
                    simp only [List.getElem_toArray, List.getElem_cons_succ, List.getElem_cons_zero, Act.put, List.setIfInBounds_toArray, List.set_cons_zero, List.set_cons_succ]
                    change wpAnyH _ _ _ _ _ 3 #[true, true, true, true, true, true, true, true, true, true, true, true, true, true, true, true, true, true, true, true, true, true, true, true, true, false, false, false] _ _
                    refine wpAnyH_take (i := 25) (v := ?_) rfl (by kernel_rfl) (by kernel_rfl) (by kernel_rfl) (fun _ _ _ h => h) (Or.inl ⟨by rfl, ?hy⟩) hS ?_
                    case hy => intro w' hSw; obtain ⟨hq1, hq2, hq3, hq4, hq5, hq6⟩ := HXC.out w' hSw; go_simp; try with_reducible rfl
                    simp only [List.getElem_toArray, List.getElem_cons_succ, List.getElem_cons_zero, Act.put, List.setIfInBounds_toArray, List.set_cons_zero, List.set_cons_succ]
                    change wpAnyH _ _ _ _ _ 2 #[true, true, true, true, true, true, true, true, true, true, true, true, true, true, true, true, true, true, true, true, true, true, true, true, true, true, false, false] _ _
                    refine wpAnyH_take (i := 26) (v := ?_) rfl (by kernel_rfl) (by kernel_rfl) (by kernel_rfl) (fun _ _ _ h => h) (Or.inl ⟨by rfl, ?hy⟩) hS ?_
                    case hy => intro w' hSw; obtain ⟨hq1, hq2, hq3, hq4, hq5, hq6⟩ := HXC.out w' hSw; go_simp; try with_reducible rfl
                    simp only [List.getElem_toArray, List.getElem_cons_succ, List.getElem_cons_zero, Act.put, List.setIfInBounds_toArray, List.set_cons_zero, List.set_cons_succ]
                    change wpAnyH _ _ _ _ _ 1 #[true, true, true, true, true, true, true, true, true, true, true, true, true, true, true, true, true, true, true, true, true, true, true, true, true, true, true, false] _ _
                    refine wpAnyH_take (i := 27) (v := ?_) rfl (by kernel_rfl) (by kernel_rfl) (by kernel_rfl) (fun _ _ _ h => h) (Or.inl ⟨by rfl, ?hy⟩) hS ?_
                    case hy => intro w' hSw; obtain ⟨hq1, hq2, hq3, hq4, hq5, hq6⟩ := HXC.out w' hSw; go_simp; try with_reducible rfl
                    simp only [List.getElem_toArray, List.getElem_cons_succ, List.getElem_cons_zero, Act.put, List.setIfInBounds_toArray, List.set_cons_zero, List.set_cons_succ]
                    change wpAnyH _ _ _ _ _ 0 #[true, true, true, true, true, true, true, true, true, true, true, true, true, true, true, true, true, true, true, true, true, true, true, true, true, true, true, true] _ _
                    refine wpAnyH_done (by kernel_rfl) ?_ _
                    have hend : Below W7.heap.size W7 _ := hS
                    have HEN : Hid (Below w8.heap.size w8 _) := HBV.out.trans (hend.mono HBV.out.size)
                    go_wp2_with fail
                    go_roundw
                    case rel =>
                      exact ⟨j + 1, by have := HJI.out; omega, by have := HJI.out; have := H20.out; go_num, ⟨false, rfl, ⟨fun h => (by cases h), fun h => (by rcases (tj_step N F i j).1 h with h1 | ⟨h1, _⟩ <;> first | exact absurd h1 HTN.out | exact absurd h1 HNN.out)⟩⟩, HEN.out⟩
                    case measure => simp [intOf]; have := HJI.out; have := H20.out; omega
                · have hde : ((ep' : Int) == (ep : Int)) = false := by simp; omega
                  have HNN : Hid (¬ N j = N i) := fun h => he (by rw [HEP'.out, h]; exact HEP.out.symm)
                  clear he
                  refine wp_region_held_drew (S := fun w' => Below W7.heap.size W7 w') (by kernel_rfl) (Below.refl _ _).drew ?_
                  intro hS
                  generalize W7.drew = WD at hS ⊢
                  change wpAnyH _ _ _ _ _ 28 #[false, false, false, false, false, false, false, false, false, false, false, false, false, false, false, false, false, false, false, false, false, false, false, false, false, false, false, false] _ _
                  refine wpAnyH_take (i := 0) (v := ?_) rfl (by kernel_rfl) (by kernel_rfl) (by kernel_rfl) (fun _ _ _ h => h) (Or.inl ⟨by rfl, ?hy⟩) hS ?_
                  case hy => intro w' hSw; obtain ⟨hq1, hq2, hq3, hq4, hq5, hq6⟩ := HXC.out w' hSw; go_simp; try with_reducible rfl
                  simp only [List.getElem_toArray, List.getElem_cons_succ, List.getElem_cons_zero, Act.put, List.setIfInBounds_toArray, List.set_cons_zero, List.set_cons_succ]
                  change wpAnyH _ _ _ _ _ 27 #[true, false, false, false, false, false, false, false, false, false, false, false, false, false, false, false, false, false, false, false, false, false, false, false, false, false, false, false] _ _
                  refine wpAnyH_take (i := 1) (v := ?_) rfl (by kernel_rfl) (by kernel_rfl) (by kernel_rfl) (fun _ _ _ h => h) (Or.inl ⟨by rfl, ?hy⟩) hS ?_
                  case hy => intro w' hSw; obtain ⟨hq1, hq2, hq3, hq4, hq5, hq6⟩ := HXC.out w' hSw; go_simp; try with_reducible rfl
                  simp only [List.getElem_toArray, List.getElem_cons_succ, List.getElem_cons_zero, Act.put, List.setIfInBounds_toArray, List.set_cons_zero, List.set_cons_succ]
                  change wpAnyH _ _ _ _ _ 26 #[true, true, false, false, false, false, false, false, false, false, false, false, false, false, false, false, false, false, false, false, false, false, false, false, false, false, false, false] _ _
                  refine wpAnyH_take (i := 2) (v := ?_) rfl (by kernel_rfl) (by kernel_rfl) (by kernel_rfl) (fun _ _ _ h => h) (Or.inl ⟨by rfl, ?hy⟩) hS ?_
                  case hy => intro w' hSw; obtain ⟨hq1, hq2, hq3, hq4, hq5, hq6⟩ := HXC.out w' hSw; go_simp; try with_reducible rfl
                  simp only [List.getElem_toArray, List.getElem_cons_succ, List.getElem_cons_zero, Act.put, List.setIfInBounds_toArray, List.set_cons_zero, List.set_cons_succ]
                  change wpAnyH _ _ _ _ _ 25 #[true, true, true, false, false, false, false, false, false, false, false, false, false, false, false, false, false, false, false, false, false, false, false, false, false, false, false, false] _ _
                  refine wpAnyH_take (i := 3) (v := ?_) rfl (by kernel_rfl) (by kernel_rfl) (by kernel_rfl) (fun _ _ _ h => h) (Or.inl ⟨by rfl, ?hy⟩) hS ?_
                  case hy => intro w' hSw; obtain ⟨hq1, hq2, hq3, hq4, hq5, hq6⟩ := HXC.out w' hSw; go_simp; try with_reducible rfl
                  simp only [List.getElem_toArray, List.getElem_cons_succ, List.getElem_cons_zero, Act.put, List.setIfInBounds_toArray, List.set_cons_zero, List.set_cons_succ]
                  change wpAnyH _ _ _ _ _ 24 #[true, true, true, true, false, false, false, false, false, false, false, false, false, false, false, false, false, false, false, false, false, false, false, false, false, false, false, false] _ _
                  refine wpAnyH_take (i := 4) (v := ?_) rfl (by kernel_rfl) (by kernel_rfl) (by kernel_rfl) (fun _ _ _ h => h) (Or.inl ⟨by rfl, ?hy⟩) hS ?_
                  case hy => intro w' hSw; obtain ⟨hq1, hq2, hq3, hq4, hq5, hq6⟩ := HXC.out w' hSw; go_simp; try with_reducible rfl
                  simp only [List.getElem_toArray, List.getElem_cons_succ, List.getElem_cons_zero, Act.put, List.setIfInBounds_toArray, List.set_cons_zero, List.set_cons_succ]
                  change wpAnyH _ _ _ _ _ 23 #[true, true, true, true, true, false, false, false, false, false, false, false, false, false, false, false, false, false, false, false, false, false, false, false, false, false, false, false] _ _
                  refine wpAnyH_take (i := 5) (v := ?_) rfl (by kernel_rfl) (by kernel_rfl) (by kernel_rfl) (fun _ _ _ h => h) (Or.inl ⟨by rfl, ?hy⟩) hS ?_
                  case hy => intro w' hSw; obtain ⟨hq1, hq2, hq3, hq4, hq5, hq6⟩ := HXC.out w' hSw; go_simp; try with_reducible rfl
                  simp only [List.getElem_toArray, List.getElem_cons_succ, List.getElem_cons_zero, Act.put, List.setIfInBounds_toArray, List.set_cons_zero, List.set_cons_succ]
                  change wpAnyH _ _ _ _ _ 22 #[true, true, true, true, true, true, false, false, false, false, false, false, false, false, false, false, false, false, false, false, false, false, false, false, false, false, false, false] _ _
                  refine wpAnyH_take (i := 6) (v := ?_) rfl (by kernel_rfl) (by kernel_rfl) (by kernel_rfl) (fun _ _ _ h => h) (Or.inl ⟨by rfl, ?hy⟩) hS ?_
                  case hy => intro w' hSw; obtain ⟨hq1, hq2, hq3, hq4, hq5, hq6⟩ := HXC.out w' hSw; go_simp; try with_reducible rfl
                  simp only [List.getElem_toArray, List.getElem_cons_succ, List.getElem_cons_zero, Act.put, List.setIfInBounds_toArray, List.set_cons_zero, List.set_cons_succ]
                  change wpAnyH _ _ _ _ _ 21 #[true, true, true, true, true, true, true, false, false, false, false, false, false, false, false, false, false, false, false, false, false, false, false, false, false, false, false, false] _ _
                  refine wpAnyH_take (i := 7) (v := ?_) rfl (by kernel_rfl) (by kernel_rfl) (by kernel_rfl) (fun _ _ _ h => h) (Or.inl ⟨by rfl, ?hy⟩) hS ?_
                  case hy => intro w' hSw; obtain ⟨hq1, hq2, hq3, hq4, hq5, hq6⟩ := HXC.out w' hSw; go_simp; try with_reducible rfl
                  simp only [List.getElem_toArray, List.getElem_cons_succ, List.getElem_cons_zero, Act.put, List.setIfInBounds_toArray, List.set_cons_zero, List.set_cons_succ]
                  change wpAnyH _ _ _ _ _ 20 #[true, true, true, true, true, true, true, true, false, false, false, false, false, false, false, false, false, false, false, false, false, false, false, false, false, false, false, false] _ _
                  refine wpAnyH_take (i := 8) rfl (by kernel_rfl) (by kernel_rfl) (by kernel_rfl) (fun _ _ _ h => h) (Or.inr ⟨by rfl, rfl⟩) hS ?_
                  simp only [List.getElem_toArray, List.getElem_cons_succ, List.getElem_cons_zero, Act.put, List.setIfInBounds_toArray, List.set_cons_zero, List.set_cons_succ]
                  change wpAnyH _ _ _ _ _ 19 #[true, true, true, true, true, true, true, true, true, false, false, false, false, false, false, false, false, false, false, false, false, false, false, false, false, false, false, false] _ _
                  refine wpAnyH_take (i := 9) rfl (by kernel_rfl) (by kernel_rfl) (by kernel_rfl) (fun _ _ _ h => h) (Or.inr ⟨by rfl, rfl⟩) hS ?_
                  simp only [List.getElem_toArray, List.getElem_cons_succ, List.getElem_cons_zero, Act.put, List.setIfInBounds_toArray, List.set_cons_zero, List.set_cons_succ]
                  change wpAnyH _ _ _ _ _ 18 #[true, true, true, true, true, true, true, true, true, true, false, false, false, false, false, false, false, false, false, false, false, false, false, false, false, false, false, false] _ _
                  refine wpAnyH_take (i := 10) rfl (by kernel_rfl) (by kernel_rfl) (by kernel_rfl) (fun _ _ _ h => h) (Or.inr ⟨by rfl, rfl⟩) hS ?_
                  simp only [List.getElem_toArray, List.getElem_cons_succ, List.getElem_cons_zero, Act.put, List.setIfInBounds_toArray, List.set_cons_zero, List.set_cons_succ]
                  change wpAnyH _ _ _ _ _ 17 #[true, true, true, true, true, true, true, true, true, true, true, false, false, false, false, false, false, false, false, false, false, false, false, false, false, false, false, false] _ _
                  refine wpAnyH_take (i := 11) rfl (by kernel_rfl) (by kernel_rfl) (by kernel_rfl) (fun _ _ _ h => h) (Or.inr ⟨by rfl, rfl⟩) hS ?_
                  simp only [List.getElem_toArray, List.getElem_cons_succ, List.getElem_cons_zero, Act.put, List.setIfInBounds_toArray, List.set_cons_zero, List.set_cons_succ]
                  change wpAnyH _ _ _ _ _ 16 #[true, true, true, true, true, true, true, true, true, true, true, true, false, false, false, false, false, false, false, false, false, false, false, false, false, false, false, false] _ _
                  refine wpAnyH_take (i := 12) rfl (by kernel_rfl) (by kernel_rfl) (by kernel_rfl) (fun _ _ _ h => h) (Or.inr ⟨by rfl, rfl⟩) hS ?_
                  simp only [List.getElem_toArray, List.getElem_cons_succ, List.getElem_cons_zero, Act.put, List.setIfInBounds_toArray, List.set_cons_zero, List.set_cons_succ]
                  change wpAnyH _ _ _ _ _ 15 #[true, true, true, true, true, true, true, true, true, true, true, true, true, false, false, false, false, false, false, false, false, false, false, false, false, false, false, false] _ _
                  refine wpAnyH_take (i := 13) rfl (by kernel_rfl) (by kernel_rfl) (by kernel_rfl) (fun _ _ _ h => h) (Or.inr ⟨by rfl, rfl⟩) hS ?_
                  simp only [List.getElem_toArray, List.getElem_cons_succ, List.getElem_cons_zero, Act.put, List.setIfInBounds_toArray, List.set_cons_zero, List.set_cons_succ]
                  change wpAnyH _ _ _ _ _ 14 #[true, true, true, true, true, true, true, true, true, true, true, true, true, true, false, false, false, false, false, false, false, false, false, false, false, false, false, false] _ _
                  refine wpAnyH_take (i := 14) (v := ?_) rfl (by kernel_rfl) (by kernel_rfl) (by kernel_rfl) (fun _ _ _ h => h) (Or.inl ⟨by rfl, ?hy⟩) hS ?_
                  case hy => intro w' hSw; obtain ⟨hq1, hq2, hq3, hq4, hq5, hq6⟩ := HXC.out w' hSw; go_simp; try with_reducible rfl
                  simp only [List.getElem_toArray, List.getElem_cons_succ, List.getElem_cons_zero, Act.put, List.setIfInBounds_toArray, List.set_cons_zero, List.set_cons_succ]
                  change wpAnyH _ _ _ _ _ 13 #[true, true, true, true, true, true, true, true, true, true, true, true, true, true, true, false, false, false, false, false, false, false, false, false, false, false, false, false] _ _
                  refine wpAnyH_take (i := 15) (v := ?_) rfl (by kernel_rfl) (by kernel_rfl) (by kernel_rfl) (fun _ _ _ h => h) (Or.inl ⟨by rfl, ?hy⟩) hS ?_
                  case hy => intro w' hSw; obtain ⟨hq1, hq2, hq3, hq4, hq5, hq6⟩ := HXC.out w' hSw; go_simp; try with_reducible rfl
                  simp only [List.getElem_toArray, List.getElem_cons_succ, List.getElem_cons_zero, Act.put, List.setIfInBounds_toArray, List.set_cons_zero, List.set_cons_succ]
                  change wpAnyH _ _ _ _ _ 12 #[true, true, true, true, true, true, true, true, true, true, true, true, true, true, true, true, false, false, false, false, false, false, false, false, false, false, false, false] _ _
                  refine wpAnyH_take (i := 16) rfl (by kernel_rfl) (by kernel_rfl) (by kernel_rfl) (fun _ _ _ h => h) (Or.inr ⟨by rfl, rfl⟩) hS ?_
                  simp only [List.getElem_toArray, List.getElem_cons_succ, List.getElem_cons_zero, Act.put, List.setIfInBounds_toArray, List.set_cons_zero, List.set_cons_succ]
                  change wpAnyH _ _ _ _ _ 11 #[true, true, true, true, true, true, true, true, true, true, true, true, true, true, true, true, true, false, false, false, false, false, false, false, false, false, false, false] _ _
                  refine wpAnyH_take (i := 17) rfl (by kernel_rfl) (by kernel_rfl) (by kernel_rfl) (fun _ _ _ h => h) (Or.inr ⟨by rfl, rfl⟩) hS ?_
                  simp only [List.getElem_toArray, List.getElem_cons_succ, List.getElem_cons_zero, Act.put, List.setIfInBounds_toArray, List.set_cons_zero, List.set_cons_succ]
                  change wpAnyH _ _ _ _ _ 10 #[true, true, true, true, true, true, true, true, true, true, true, true, true, true, true, true, true, true, false, false, false, false, false, false, false, false, false, false] _ _
                  refine wpAnyH_take (i := 18) rfl (by kernel_rfl) (by kernel_rfl) (by kernel_rfl) (fun _ _ _ h => h) (Or.inr ⟨by rfl, rfl⟩) hS ?_
                  simp only [List.getElem_toArray, List.getElem_cons_succ, List.getElem_cons_zero, Act.put, List.setIfInBounds_toArray, List.set_cons_zero, List.set_cons_succ]
                  change wpAnyH _ _ _ _ _ 9 #[true, true, true, true, true, true, true, true, true, true, true, true, true, true, true, true, true, true, true, false, false, false, false, false, false, false, false, false] _ _
                  refine wpAnyH_take (i := 19) rfl (by kernel_rfl) (by kernel_rfl) (by kernel_rfl) (fun _ _ _ h => h) (Or.inr ⟨by rfl, rfl⟩) hS ?_
                  simp only [List.getElem_toArray, List.getElem_cons_succ, List.getElem_cons_zero, Act.put, List.setIfInBounds_toArray, List.set_cons_zero, List.set_cons_succ]
                  change wpAnyH _ _ _ _ _ 8 #[true, true, true, true, true, true, true, true, true, true, true, true, true, true, true, true, true, true, true, true, false, false, false, false, false, false, false, false] _ _
                  refine wpAnyH_take (i := 20) rfl (by kernel_rfl) (by kernel_rfl) (by kernel_rfl) (fun _ _ _ h => h) (Or.inr ⟨by rfl, rfl⟩) hS ?_
                  simp only [List.getElem_toArray, List.getElem_cons_succ, List.getElem_cons_zero, Act.put, List.setIfInBounds_toArray, List.set_cons_zero, List.set_cons_succ]
                  change wpAnyH _ _ _ _ _ 7 #[true, true, true, true, true, true, true, true, true, true, true, true, true, true, true, true, true, true, true, true, true, false, false, false, false, false, false, false] _ _
                  refine wpAnyH_take (i := 21) rfl (by kernel_rfl) (by kernel_rfl) (by kernel_rfl) (fun _ _ _ h => h) (Or.inr ⟨by rfl, rfl⟩) hS ?_
                  simp only [List.getElem_toArray, List.getElem_cons_succ, List.getElem_cons_zero, Act.put, List.setIfInBounds_toArray, List.set_cons_zero, List.set_cons_succ]
                  change wpAnyH _ _ _ _ _ 6 #[true, true, true, true, true, true, true, true, true, true, true, true, true, true, true, true, true, true, true, true, true, true, false, false, false, false, false, false] _ _
                  refine wpAnyH_take (i := 22) rfl (by kernel_rfl) (by kernel_rfl) (by kernel_rfl) (fun _ _ _ h => h) (Or.inr ⟨by rfl, rfl⟩) hS ?_
                  simp only [List.getElem_toArray, List.getElem_cons_succ, List.getElem_cons_zero, Act.put, List.setIfInBounds_toArray, List.set_cons_zero, List.set_cons_succ]
                  change wpAnyH _ _ _ _ _ 5 #[true, true, true, true, true, true, true, true, true, true, true, true, true, true, true, true, true, true, true, true, true, true, true, false, false, false, false, false] _ _
                  refine wpAnyH_take (i := 23) rfl (by kernel_rfl) (by kernel_rfl) (by kernel_rfl) (fun _ _ _ h => h) (Or.inr ⟨by rfl, rfl⟩) hS ?_
                  simp only [List.getElem_toArray, List.getElem_cons_succ, List.getElem_cons_zero, Act.put, List.setIfInBounds_toArray, List.set_cons_zero, List.set_cons_succ]
                  change wpAnyH _ _ _ _ _ 4 #[true, true, true, true, true, true, true, true, true, true, true, true, true, true, true, true, true, true, true, true, true, true, true, true, false, false, false, false] _ _
                  refine wpAnyH_take (i := 24) rfl (by kernel_rfl) (by kernel_rfl) (by kernel_rfl) (fun _ _ _ h => h) (Or.inr ⟨by rfl, rfl⟩) hS ?_
                  simp only [List.getElem_toArray, List.getElem_cons_succ, List.getElem_cons_zero, Act.put, List.setIfInBounds_toArray, List.set_cons_zero, List.set_cons_succ]
                  change wpAnyH _ _ _ _ _ 3 #[true, true, true, true, true, true, true, true, true, true, true, true, true, true, true, true, true, true, true, true, true, true, true, true, true, false, false, false] _ _
                  refine wpAnyH_take (i := 25) (v := ?_) rfl (by kernel_rfl) (by kernel_rfl) (by kernel_rfl) (fun _ _ _ h => h) (Or.inl ⟨by rfl, ?hy⟩) hS ?_
                  case hy => intro w' hSw; obtain ⟨hq1, hq2, hq3, hq4, hq5, hq6⟩ := HXC.out w' hSw; go_simp; try with_reducible rfl
                  simp only [List.getElem_toArray, List.getElem_cons_succ, List.getElem_cons_zero, Act.put, List.setIfInBounds_toArray, List.set_cons_zero, List.set_cons_succ]
                  change wpAnyH _ _ _ _ _ 2 #[true, true, true, true, true, true, true, true, true, true, true, true, true, true, true, true, true, true, true, true, true, true, true, true, true, true, false, false] _ _
                  refine wpAnyH_take (i := 26) (v := ?_) rfl (by kernel_rfl) (by kernel_rfl) (by kernel_rfl) (fun _ _ _ h => h) (Or.inl ⟨by rfl, ?hy⟩) hS ?_
                  case hy => intro w' hSw; obtain ⟨hq1, hq2, hq3, hq4, hq5, hq6⟩ := HXC.out w' hSw; go_simp; try with_reducible rfl
                  simp only [List.getElem_toArray, List.getElem_cons_succ, List.getElem_cons_zero, Act.put, List.setIfInBounds_toArray, List.set_cons_zero, List.set_cons_succ]
                  change wpAnyH _ _ _ _ _ 1 #[true, true, true, true, true, true, true, true, true, true, true, true, true, true, true, true, true, true, true, true, true, true, true, true, true, true, true, false] _ _
                  refine wpAnyH_take (i := 27) (v := ?_) rfl (by kernel_rfl) (by kernel_rfl) (by kernel_rfl) (fun _ _ _ h => h) (Or.inl ⟨by rfl, ?hy⟩) hS ?_
                  case hy => intro w' hSw; obtain ⟨hq1, hq2, hq3, hq4, hq5, hq6⟩ := HXC.out w' hSw; go_simp; try with_reducible rfl
                  simp only [List.getElem_toArray, List.getElem_cons_succ, List.getElem_cons_zero, Act.put, List.setIfInBounds_toArray, List.set_cons_zero, List.set_cons_succ]
                  change wpAnyH _ _ _ _ _ 0 #[true, true, true, true, true, true, true, true, true, true, true, true, true, true, true, true, true, true, true, true, true, true, true, true, true, true, true, true] _ _
                  refine wpAnyH_done (by kernel_rfl) ?_ _
                  have hend : Below W7.heap.size W7 _ := hS
                  have HEN : Hid (Below w8.heap.size w8 _) := HBV.out.trans (hend.mono HBV.out.size)
                  go_wp2_with fail
                  go_roundw
                  case rel =>
                    exact ⟨j + 1, by have := HJI.out; omega, by have := HJI.out; have := H20.out; go_num, ⟨false, rfl, ⟨fun h => (by cases h), fun h => (by rcases (tj_step N F i j).1 h with h1 | ⟨h1, _⟩ <;> first | exact absurd h1 HTN.out | exact absurd h1 HNN.out)⟩⟩, HEN.out⟩
                  case measure => simp [intOf]; have := HJI.out; have := H20.out; omega
            · have hji2 : j = i := by omega
              have hdj : decide ((j : Int) < (i : Int)) = false := by simp; omega
              have HJ2 := Lib.hid hji2
              have ei : IntKind.i64.wrap ((i : Int) + 1) = (i : Int) + 1 := by have := H20.out; exact IntWalk.i64_in _ (by omega)
              clear hj hji2
              go_wp2
              go_roundw
              case rel =>
                refine ⟨i + 1, by have := HLT.out; omega, by have := H20.out; omega, by go_num, ⟨tc, rfl, ?_⟩, ⟨M', T', HS8.out.up hbi.out (Nat.le_refl _), HK8.out⟩, Nat.le_trans HZ8.out hbi.out.size, HB8.out.trans (hbi.out.mono HB8.out.size)⟩
                have h1 := htc.out
                rw [HJ2.out] at h1
                exact h1.trans (tj_end N F i)
              case measure => simp [intOf]; have := H20.out; omega
      · have d20 : decide ((i : Int) ≥ 20) = true := by simp; omega
        clear h20 hi20
        go_wp2_with (first
          | (refine wpList_load_mid rfl 81 (.tmp 20) rfl g (o + i * 4) rfl _ _ (HR.out _ hbel.out) Try.underlying81 rfl (by rw [info81]; simp [opA]) ?_)
          | (refine wpList_store_row rfl 81 (.tmp 8) (.tmp 21) rfl wr.heap.size (opA kd ep bk pa pl pc) rfl rfl 81 _ (heap_new' _ _) (by rw [info81]; rfl) (by rfl) (opA_one _ _ _ _ _ _) ?_; generalize hW5 : World.setRow _ _ _ = W5; have HO5 : Hid (W5.heap[wr.heap.size]? = some (.cells (opA kd ep bk pa pl pc) 81 (0, 0))) := (by rw [← hW5]; exact setRow_heap _ _ _ _ _ _ (heap_new' _ _)); have HB5 : Hid (Below wr.heap.size wr W5) := (by rw [← hW5]; exact below_setRow ((Below.refl _ _).alloc (Nat.le_refl _) _) (Nat.le_refl _) _); clear hW5; have HSTZ : Hid (∃ M T, Slr W5 W0.heap.size s m k M T ∧ Kn N F i M T) := (by obtain ⟨M, T, h1, h2⟩ := hst.out; exact ⟨M, T, h1.up HB5.out (Nat.le_refl _), h2⟩); have HBZ : Hid (Below w.heap.size w W5) := hbel.out.trans (HB5.out.mono hbel.out.size); have HTB := htb)
          | fail)
        obtain ⟨M, T, hSz, hKn⟩ := HSTZ.out
        have heqt : (T.isSome == tb) = true := by
          have h1 := kn_told hKn
          have h2 := HTB.out
          cases tb <;> cases hT : T.isSome <;> simp_all
        go_wp2_with fail
        refine (stwice_c W5 hSz).mono ?_
        rintro r w9 ⟨rfl, hb9⟩
        have HB9 : Hid (Below w.heap.size w w9) := HBZ.out.trans (hb9.mono HBZ.out.size)
        obtain ⟨nt, hnt⟩ : ∃ nt : Nat × Nat, nt = T.getD (0, 0) := ⟨_, rfl⟩
        rw [← hnt]
        obtain ⟨ts, hts⟩ : ∃ ts : Bool, ts = T.isSome := ⟨_, rfl⟩
        rw [← hts] at heqt ⊢
        clear hnt hts hSz hKn hb9
        go_wp2_with (first
          | (refine wpList_store_row rfl 85 (.tmp 11) (.tmp 77) rfl w9.heap.size #[.int .u64 ((nt.1 : Nat) : Int), .int .i64 ((nt.2 : Nat) : Int)] rfl rfl 85 _ (heap_new' _ _) (by rw [two85]; rfl) (by rfl) (by simp [Value.oneCell']) ?_; generalize hW10 : World.setRow _ _ _ = W10; have HB10 : Hid (Below w.heap.size w W10) := (by rw [← hW10]; exact below_setRow (HB9.out.alloc HB9.out.size _) HB9.out.size _); clear hW10)
          | fail)
        refine (awake10_c W10).mono ?_
        rintro r w11 ⟨rfl, hb11⟩
        have HB11 : Hid (Below w.heap.size w w11) := HB10.out.trans (hb11.mono HB10.out.size)
        clear hb11
        go_wp2
        go_ret
        exact ⟨rfl, HB11.out⟩
    · have hd : decide ((i : Int) < (len : Int)) = false := by simp; omega
      obtain ⟨M, T, hSz, hKn⟩ := hst.out
      have heqt : (T.isSome == tb) = true := by
        have h1 := kn_told hKn
        have h2 := htb.out
        cases tb <;> cases hT : T.isSome <;> simp_all
      go_wp2_with fail
      refine (stwice_c wr hSz).mono ?_
      rintro r w9 ⟨rfl, hb9⟩
      have HB9 : Hid (Below w.heap.size w w9) := hbel.out.trans (hb9.mono hbel.out.size)
      obtain ⟨nt, hnt⟩ : ∃ nt : Nat × Nat, nt = T.getD (0, 0) := ⟨_, rfl⟩
      rw [← hnt]
      obtain ⟨ts, hts⟩ : ∃ ts : Bool, ts = T.isSome := ⟨_, rfl⟩
      rw [← hts] at heqt ⊢
      clear hnt hts hSz hKn hb9
      go_wp2_with (first
        | (refine wpList_store_row rfl 85 (.tmp 11) (.tmp 77) rfl w9.heap.size #[.int .u64 ((nt.1 : Nat) : Int), .int .i64 ((nt.2 : Nat) : Int)] rfl rfl 85 _ (heap_new' _ _) (by rw [two85]; rfl) (by rfl) (by simp [Value.oneCell']) ?_; generalize hW10 : World.setRow _ _ _ = W10; have HB10 : Hid (Below w.heap.size w W10) := (by rw [← hW10]; exact below_setRow (HB9.out.alloc HB9.out.size _) HB9.out.size _); clear hW10)
        | fail)
      refine (awake10_c W10).mono ?_
      rintro r w11 ⟨rfl, hb11⟩
      have HB11 : Hid (Below w.heap.size w w11) := HB10.out.trans (hb11.mono HB10.out.size)
      clear hb11
      go_wp2
      go_ret
      exact ⟨rfl, HB11.out⟩
end Go.Proofs.Ytnmjkdmhfogeiaa
