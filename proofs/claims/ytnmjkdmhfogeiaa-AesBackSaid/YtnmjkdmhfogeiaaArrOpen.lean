/- An array of bytes as a parameter: what the reader reads of it. Any program. -/
import Derived.Test.YtnmjkdmhfogeiaaArrEq
import Derived.OpenShut
import Derived.ProofKit
set_option linter.unusedVariables false
namespace Go.Proofs.Ytnmjkdmhfogeiaa
open Go Go.RowKit Go.ChangeShapes Go.WideShapes
theorem open_bytes_array {H : Type} {enc : TypeId × Value → H} {P : Program} {W W' : World} {base b0 : Nat} {spare : Nat → Bool} {held : Bool} {r : Reach} {t e : TypeId} {n : Nat} {v : Value} {d : DataW H} {ps : List MemPlace}
    (ht : P.underlying t = some (.array n e)) (he : P.underlying e = some (.int .u8)) (hce : P.cellsOf e = 1) (hct : P.cellsOf t = n) (hval : Value.okWide P W' r b0 t v) (hd : DataW.Trod enc P W base spare held t v d ps) :
    ∃ l : List Nat, v = .agg (bA l) ∧ l.length = n ∧ ∀ x ∈ l, x < 256 := by
  have hv : ∃ cs, v = .agg cs := by
    simp only [Value.okWide, ht] at hval
    obtain ⟨cs, h, _⟩ := hval
    exact ⟨cs, h⟩
  obtain ⟨cs, rfl⟩ := hv
  obtain ⟨fuel, hf⟩ := hd
  simp only [Value.cells] at hf
  obtain ⟨xs, m, _, _, hl, hxl, hel⟩ := DataW.trod_array ht hf
  rw [hct] at hl
  have hs : cs.size = n := by simpa using hl
  have key : ∀ i, i < n → ∃ z : Nat, z < 256 ∧ cs[i]? = some (.int .u8 (z : Int)) := by
    intro i hi
    have h1 := hel i hi
    rw [hce, Nat.mul_one, List.getElem?_eq_getElem (by omega)] at h1
    obtain ⟨z, h2, _, hw⟩ := DataW.trod_int he h1
    rw [List.take_one] at h2
    have h3 : cs[i]? = some (.int .u8 z) := by simpa using h2
    have hb : 0 ≤ z ∧ z < 256 := by
      simp [Lit.wf, IntKind.min, IntKind.max, IntKind.signed, IntKind.bits] at hw
      omega
    exact ⟨z.toNat, by omega, by rw [h3, Int.toNat_of_nonneg hb.1]⟩
  have hex : ∃ f : Nat → Nat, ∀ i, i < n → f i < 256 ∧ cs[i]? = some (.int .u8 ((f i : Nat) : Int)) := by
    refine ⟨fun i => if h : i < n then (key i h).choose else 0, fun i hi => ?_⟩
    simp only [hi, dif_pos]
    exact (key i hi).choose_spec
  obtain ⟨f, hf2⟩ := hex
  refine ⟨(List.range n).map f, ?_, by simp, fun x hx => ?_⟩
  · congr 1
    apply Array.ext_getElem?
    intro i
    by_cases hi : i < n
    · rw [(hf2 i hi).2, bA_get _ _ (by simpa using hi)]
      simp [hi]
    · rw [Array.getElem?_eq_none (by omega), Array.getElem?_eq_none (by rw [bA_size]; simpa using hi)]
  · simp at hx
    obtain ⟨i, hi, rfl⟩ := hx
    exact (hf2 i hi).1
end Go.Proofs.Ytnmjkdmhfogeiaa
