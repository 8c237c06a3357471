/- The reference's cipher of a key. Printed by gen_encw.py. -/
import Derived.Test.YtnmjkdmhfogeiaaRefN
import Derived.Test.YtnmjkdmhfogeiaaAesZ
import Derived.Test.YtnmjkdmhfogeiaaCtrC
set_option linter.unusedVariables false
set_option linter.unusedSimpArgs false
namespace Go.Proofs.Ytnmjkdmhfogeiaa
open Go Go.RowKit GfM
theorem rnew_key (key : List Nat) (hkl : key.length = 16 ∨ key.length = 32) (hkb : ∀ x ∈ key, x < 256) (gk cap : Nat) (hcap : key.length ≤ cap) (w : World) (hg : gk < w.heap.size) (hk : ∀ j, j < key.length → w.cell? ⟨gk, j, none⟩ = some (.int .u8 ((key.getD j 0 : Nat) : Int))) :
    Calls Try.prog 47 #[.slice (some ⟨gk, 0, none⟩) key.length cap] w fun e w' => ∃ c g cp, e = .returned (.pointer (some ⟨c, 0, none⟩)) ∧ RCip w' c g (4 * (key.length / 4 + 7)) cp (roundsK key) (wordsK key) ∧ Below w.heap.size w w' :=
  rnew_c (key.length / 4) gk 0 key.length cap (by omega) key (by omega) (by omega) hkb hcap w hg (fun j hj => by rw [Nat.zero_add]; exact hk j (by omega))
theorem renc_key {c g nw cap : Nat} {key p : List Nat} (hkl : key.length = 16 ∨ key.length = 32) (hp : By p) (w : World) (hC : RCip w c g nw cap (roundsK key) (wordsK key)) :
    Calls Try.prog 48 #[.pointer (some ⟨c, 0, none⟩), .agg (bA p)] w fun e w' => e = .returned (.agg (bA (encK key p))) ∧ Below w.heap.size w w' :=
  renc_c c g nw cap (roundsK key) (wordsK key) p hp (by unfold roundsK; omega) (by rw [wordsK_len key hkl]; exact Nat.le_refl _) (by unfold roundsK; omega) w hC
theorem run_eqa (X : List Nat) (hX : X.length = 16) (E : Operand → Value) (x y : Operand) (t : TypeId) (o : Oper) (ho : o.op = .binOp .eql 44 x y t) (hx : E x = .agg (bA X)) (hy : E y = .agg (bA X)) (w : World) :
    (execOp E o).run Try.prog w = .ok (.value (.bool true)) w := by
  have h : ∀ w, (binOp .eql 44 (.agg (bA X)) (.agg (bA X))).run Try.prog w = .ok (.bool true) w := fun w => by rw [eq16 X X hX hX w]; simp
  unfold execOp
  simp only [ho, hx, hy]
  go_simp
theorem encK_len' (key l : List Nat) : (encK key l).length = 16 := by simp [encK, encL, keyL]
theorem by_of {p : List Nat} (hp : p.length = 16) (hpb : ∀ x ∈ p, x < 256) : By p := ⟨hp, fun j hj => by rw [List.getD_eq_getElem?_getD, List.getElem?_eq_getElem (by rw [hp]; exact hj)]; exact hpb _ (List.getElem_mem _)⟩
end Go.Proofs.Ytnmjkdmhfogeiaa
