/- What was encrypted is decrypted as it was, and the other way round. -/
import Derived.Test.YtjclofkkpgdjnaaAesW
import Derived.Test.YtjclofkkpgdjnaaAesR
set_option linter.unusedVariables false
namespace Go.Proofs.Ytjclofkkpgdjnaa
open Go Go.RowKit GfM
theorem decS_enc (W l : List Nat) (r : Nat) (hl : By l) (hW : ∀ x ∈ W, x < 256) (h1 : 1 ≤ r) (hr : 16 * r + 16 ≤ W.length) : ∀ i, i + 1 ≤ r → decS W r (encL W r l) i = encS W l (r - 1 - i)
  | 0, _ => by
    have hX := encS_by W l hl hW (r - 1) (by omega)
    have hS := stp_sub.okay _ hX
    have hF := stp_shift.okay _ hS
    show sunsubL (unshiftL (keyL (keyL (shiftL (ssubL (encS W l (r - 1)))) W r) W r)) = _
    rw [key_key _ W r hF.1, unshift_shift _ hS.1, unsub_sub _ hX]; rfl
  | i + 1, h => by
    obtain ⟨j, hj⟩ : ∃ j, r - 1 - i = j + 1 := ⟨r - 2 - i, by omega⟩
    have hX := encS_by W l hl hW j (by omega)
    have hS := stp_sub.okay _ hX
    have hF := stp_shift.okay _ hS
    have hM := stp_mix.okay _ hF
    rw [decS_succ, decS_enc W l r hl hW h1 hr i (by omega), hj, show r - 1 - (i + 1) = j by omega, encS_succ, key_key _ W _ hM.1, unmix_mix _ hF, unshift_shift _ hS.1, unsub_sub _ hX]
theorem dec_enc (W l : List Nat) (r : Nat) (hl : By l) (hW : ∀ x ∈ W, x < 256) (h1 : 1 ≤ r) (hr : 16 * r + 16 ≤ W.length) : decL W r (encL W r l) = l := by
  unfold decL
  rw [decS_enc W l r hl hW h1 hr (r - 1) (by omega), show r - 1 - (r - 1) = 0 by omega]
  exact key_key l W 0 hl.1
def decK (key l : List Nat) : List Nat := decL (wordsK key) (roundsK key) l
theorem encK_by {key l : List Nat} (hkl : key.length = 16 ∨ key.length = 32) (hl : By l) (hW : ∀ x ∈ wordsK key, x < 256) : By (encK key l) := by
  have h16 := wordsK_len key hkl
  unfold encK encL
  exact key_by _ _ _ (stp_shift.okay _ (stp_sub.okay _ (encS_by _ l hl hW _ (by omega)))) hW (by omega)
theorem decK_encK {key l : List Nat} (hkl : key.length = 16 ∨ key.length = 32) (hl : By l) (hW : ∀ x ∈ wordsK key, x < 256) : decK key (encK key l) = l :=
  dec_enc _ l _ hl hW (by unfold roundsK; omega) (by rw [wordsK_len key hkl]; exact Nat.le_refl _)
end Go.Proofs.Ytjclofkkpgdjnaa
