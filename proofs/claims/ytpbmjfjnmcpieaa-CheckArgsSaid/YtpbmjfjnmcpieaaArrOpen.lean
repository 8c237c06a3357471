/- An array of bytes as a parameter: what the reader reads of it. Any program. -/
import Derived.Test.YtpbmjfjnmcpieaaArrEq
import Derived.OpenShut
import Derived.ProofKit
set_option linter.unusedVariables false
namespace Go.Proofs.Ytpbmjfjnmcpieaa
open Go Go.RowKit Go.ChangeShapes Go.WideShapes
/-- a slice of ints, as it comes in: zs: all that its capacity holds -/
def IsRow (k : IntKind) (w : World) (a : Option Addr) (len cap : Nat) (zs : List Int) : Prop :=
  (a = none ∧ len = 0 ∧ cap = 0 ∧ zs = []) ∨
  ∃ p : Addr, a = some p ∧ len ≤ cap ∧ cap ≤ maxLen ∧ zs.length = cap ∧ (∀ i, i < zs.length → w.cell? (p.add i) = some (.int k (zs.getD i 0))) ∧ (∀ n ∈ zs, (Lit.int k n).wf = true)
/-- bytes that come in -/
def RowIn (w : World) (v : Value) (l : List Nat) : Prop :=
  (∀ x ∈ l, x < 256) ∧ ((v = .slice none 0 0 ∧ l = []) ∨
  ∃ g o cap sp, v = .slice (some ⟨g, o, sp⟩) l.length cap ∧ l.length ≤ cap ∧ cap ≤ maxLen ∧ (0 < l.length → sp = none ∧ g < w.heap.size) ∧ ∀ j, j < l.length → w.cell? ⟨g, o + j, none⟩ = some (.int .u8 ((l.getD j 0 : Nat) : Int)))
theorem rowIn {w : World} {a : Option Addr} {len cap : Nat} {zs : List Int} (h : IsRow .u8 w a len cap zs) : ∃ l, l.length = len ∧ RowIn w (.slice a len cap) l := by
  rcases h with ⟨rfl, rfl, rfl, _⟩ | ⟨⟨g, o, sp⟩, rfl, hl, hm, hz, hc, hw⟩
  · exact ⟨[], rfl, by simp, .inl ⟨rfl, rfl⟩⟩
  · have hlen : ((zs.take len).map Int.toNat).length = len := by simp; omega
    have hwf : ∀ i, i < zs.length → 0 ≤ zs.getD i 0 ∧ zs.getD i 0 < 256 := fun i hi => by
      have := hw _ (List.getElem_mem (l := zs) (h := hi))
      rw [List.getD_eq_getElem?_getD, List.getElem?_eq_getElem hi]
      simp [Lit.wf, IntKind.min, IntKind.max, IntKind.signed, IntKind.bits] at this
      simp; omega
    have hget : ∀ j, j < len → ((((zs.take len).map Int.toNat).getD j 0 : Nat) : Int) = zs.getD j 0 := fun j hj => by
      have h1 := hwf j (by omega)
      rw [List.getD_eq_getElem?_getD, List.getElem?_map, List.getElem?_take_of_lt hj, List.getElem?_eq_getElem (by omega)]
      rw [List.getD_eq_getElem?_getD, List.getElem?_eq_getElem (by omega)] at h1
      rw [List.getD_eq_getElem?_getD, List.getElem?_eq_getElem (by omega)]
      simp at h1 ⊢
      omega
    have hcell : ∀ j, j < len → w.cell? ⟨g, o + j, none⟩ = some (.int .u8 (zs.getD j 0)) := fun j hj => by
      have := hc j (by omega)
      by_cases h0 : j = 0
      · subst h0
        simp only [Addr.add, if_true] at this
        have hs : sp = none := by
          unfold World.cell? at this
          split at this
          · cases sp with
            | none => rfl
            | some x => simp at this
          · cases this
        subst hs
        exact this
      · simp only [Addr.add, if_neg h0] at this
        exact this
    refine ⟨(zs.take len).map Int.toNat, hlen, fun x hx => ?_, .inr ⟨g, o, cap, sp, by rw [hlen], by rw [hlen]; exact hl, hm, fun h0 => ?_, fun j hj => ?_⟩⟩
    · simp only [List.mem_map] at hx
      obtain ⟨y, hy, rfl⟩ := hx
      have := hw y (List.mem_of_mem_take hy)
      simp [Lit.wf, IntKind.min, IntKind.max, IntKind.signed, IntKind.bits] at this
      omega
    · rw [hlen] at h0
      have h1 := hc 0 (by omega)
      simp only [Addr.add, if_true] at h1
      unfold World.cell? at h1
      split at h1
      · rename_i hh
        refine ⟨?_, lt_of_block hh⟩
        cases sp with
        | none => rfl
        | some x => simp at h1
      · cases h1
    · rw [hlen] at hj
      rw [hget j hj]
      exact hcell j hj
theorem open_bytes_array {H : Type} {enc : TypeId × Value → H} {P : Program} {W W' : World} {base b0 : Nat} {spare : Nat → Bool} {held : Bool} {r : Reach} {t e : TypeId} {n : Nat} {v : Value} {d : DataW H} {ps : List MemPlace}
    (ht : P.underlying t = some (.array n e)) (he : P.underlying e = some (.int .u8)) (hce : P.cellsOf e = 1) (hct : P.cellsOf t = n) (hval : Value.okWide P W' r b0 t v) (hd : DataW.Trod enc P W base spare held t v d ps) :
    ∃ l : List Nat, v = .agg (bA l) ∧ l.length = n ∧ ∀ x ∈ l, x < 256 := by
  have hv : ∃ cs, v = .agg cs := by
    simp only [Value.okWide, ht] at hval
    obtain ⟨cs, h, _⟩ := hval
    exact ⟨cs, h⟩
  obtain ⟨cs, rfl⟩ := hv
  obtain ⟨fuel, hf⟩ := hd
  simp only [Value.cells] at hf
  obtain ⟨xs, m, _, _, hl, hxl, hel⟩ := DataW.trod_array ht hf
  rw [hct] at hl
  have hs : cs.size = n := by simpa using hl
  have key : ∀ i, i < n → ∃ z : Nat, z < 256 ∧ cs[i]? = some (.int .u8 (z : Int)) := by
    intro i hi
    have h1 := hel i hi
    rw [hce, Nat.mul_one, List.getElem?_eq_getElem (by omega)] at h1
    obtain ⟨z, h2, _, hw⟩ := DataW.trod_int he h1
    rw [List.take_one] at h2
    have h3 : cs[i]? = some (.int .u8 z) := by simpa using h2
    have hb : 0 ≤ z ∧ z < 256 := by
      simp [Lit.wf, IntKind.min, IntKind.max, IntKind.signed, IntKind.bits] at hw
      omega
    exact ⟨z.toNat, by omega, by rw [h3, Int.toNat_of_nonneg hb.1]⟩
  have hex : ∃ f : Nat → Nat, ∀ i, i < n → f i < 256 ∧ cs[i]? = some (.int .u8 ((f i : Nat) : Int)) := by
    refine ⟨fun i => if h : i < n then (key i h).choose else 0, fun i hi => ?_⟩
    simp only [hi, dif_pos]
    exact (key i hi).choose_spec
  obtain ⟨f, hf2⟩ := hex
  refine ⟨(List.range n).map f, ?_, by simp, fun x hx => ?_⟩
  · congr 1
    apply Array.ext_getElem?
    intro i
    by_cases hi : i < n
    · rw [(hf2 i hi).2, bA_get _ _ (by simpa using hi)]
      simp [hi]
    · rw [Array.getElem?_eq_none (by omega), Array.getElem?_eq_none (by rw [bA_size]; simpa using hi)]
  · simp at hx
    obtain ⟨i, hi, rfl⟩ := hx
    exact (hf2 i hi).1
end Go.Proofs.Ytpbmjfjnmcpieaa
