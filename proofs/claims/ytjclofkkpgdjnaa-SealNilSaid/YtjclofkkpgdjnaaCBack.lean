/- The walk of the law CtrBack. Printed by gen_cback.py. -/
import Derived.Test.YtjclofkkpgdjnaaApp
set_option linter.unusedVariables false
set_option linter.unusedSimpArgs false
namespace Go.Proofs.Ytjclofkkpgdjnaa
open Go Go.RowKit GfM
theorem run_eqs (l m : List Nat) (hl : ∀ x ∈ l, x < 256) (hm : ∀ x ∈ m, x < 256) (E : Operand → Value) (x y : Operand) (t : TypeId) (o : Oper) (ho : o.op = .binOp .eql 9 x y t) (hx : E x = strV l) (hy : E y = strV m) (w : World) :
    (execOp E o).run Try.prog w = .ok (.value (.bool (decide (l = m)))) w := by
  have key : (l.map UInt8.ofNat == m.map UInt8.ofNat) = decide (l = m) := by
    by_cases h : l = m
    · subst h; simp
    · have hne : l.map UInt8.ofNat ≠ m.map UInt8.ofNat := fun h' => h (strV_inj hl hm h')
      simp [h, hne]
  unfold execOp
  simp only [ho, hx, hy]
  unfold strV
  go_simp
theorem run_eqs1 (l : List Nat) (hl : ∀ x ∈ l, x < 256) (E : Operand → Value) (x y : Operand) (t : TypeId) (o : Oper) (ho : o.op = .binOp .eql 9 x y t) (hx : E x = strV l) (hy : E y = strV l) (w : World) :
    (execOp E o).run Try.prog w = .ok (.value (.bool true)) w := by
  rw [run_eqs l l hl hl E x y t o ho hx hy w]; simp
theorem new_as16 (b g : Nat) (k : List Nat) (hk : k.length = 16) (hkb : ∀ x ∈ k, x < 256) (w : World) (hB : IsBox w b) (hg : w.heap[g]? = some (.cells (bA k) 88 (0, 0))) :
    Calls Try.prog 47 #[.pointer (some ⟨b, 0, none⟩), .slice (some ⟨g, 0, none⟩) 16 16] w fun e w' => ∃ c g' n cp, e = .returned (.tuple #[.pointer (some ⟨c, 0, none⟩), .int .i64 0]) ∧ Cip w' c b g' n cp (roundsK k) (wordsK k) ∧ Below w.heap.size w w' := by
  have h := new_c b g 0 16 k (Or.inl hk) hkb (by omega) w hB (lt_of_block hg) (fun j hj => by rw [Nat.zero_add, cells_at hg j]; exact bA_get k j hj)
  rw [hk] at h
  exact h.mono fun e w' ⟨c, g', n, cp, h1, h2, _, _, h3⟩ => ⟨c, g', n, cp, h1, h2, h3⟩
/-- the bytes of a slice that comes in, cut to m -/
theorem bytesAt_in {w : World} {a : Option Addr} {len cap : Nat} {zs : List Int} (h : IsRow .u8 w a len cap zs) (m : Nat) : ∃ l, l.length = min len m ∧ BytesAt w a cap l := by
  obtain ⟨l, hl, hR⟩ := rowIn h
  refine ⟨l.take m, by rw [List.length_take, hl]; omega, fun x hx => hR.1 x (List.mem_of_mem_take hx), fun h0 => ?_⟩
  have h0' : 0 < l.length := by rw [List.length_take] at h0; omega
  rcases hR.2 with ⟨h1, h2⟩ | ⟨g, o, cap', sp, h1, h2, h3, h4, h5⟩
  · rw [h2] at h0'; simp at h0'
  · obtain ⟨rfl, hg⟩ := h4 h0'
    cases h1
    refine ⟨g, o, rfl, by rw [List.length_take]; omega, hg, fun j hj => ?_⟩
    rw [List.length_take] at hj
    rw [h5 j (by omega), List.getD_eq_getElem?_getD, List.getD_eq_getElem?_getD, List.getElem?_take_of_lt (by omega)]
theorem row_cap {w : World} {a : Option Addr} {len cap : Nat} {zs : List Int} {k : IntKind} (hrow : IsRow k w a len cap zs) : len ≤ cap ∧ cap ≤ 9223372036854775807 := by
  rcases hrow with ⟨rfl, rfl, rfl, _⟩ | ⟨_, _, h1, h2, _⟩
  · exact ⟨Nat.le_refl _, Nat.zero_le _⟩
  · exact ⟨h1, h2⟩
end Go.Proofs.Ytjclofkkpgdjnaa
