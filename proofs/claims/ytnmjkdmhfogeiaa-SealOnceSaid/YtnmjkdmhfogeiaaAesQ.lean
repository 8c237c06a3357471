/- What was encrypted is decrypted as it was, and the other way round. -/
import Derived.Test.YtnmjkdmhfogeiaaAesW
import Derived.Test.YtnmjkdmhfogeiaaAesR
set_option linter.unusedVariables false
namespace Go.Proofs.Ytnmjkdmhfogeiaa
open Go Go.RowKit GfM
theorem decS_enc (W l : List Nat) (r : Nat) (hl : By l) (hW : ∀ x ∈ W, x < 256) (h1 : 1 ≤ r) (hr : 16 * r + 16 ≤ W.length) : ∀ i, i + 1 ≤ r → decS W r (encL W r l) i = encS W l (r - 1 - i)
  | 0, _ => by
    have hX := encS_by W l hl hW (r - 1) (by omega)
    have hS := stp_sub.okay _ hX
    have hF := stp_shift.okay _ hS
    show sunsubL (unshiftL (keyL (keyL (shiftL (ssubL (encS W l (r - 1)))) W r) W r)) = _
    rw [key_key _ W r hF.1, unshift_shift _ hS.1, unsub_sub _ hX]; rfl
  | i + 1, h => by
    obtain ⟨j, hj⟩ : ∃ j, r - 1 - i = j + 1 := ⟨r - 2 - i, by omega⟩
    have hX := encS_by W l hl hW j (by omega)
    have hS := stp_sub.okay _ hX
    have hF := stp_shift.okay _ hS
    have hM := stp_mix.okay _ hF
    rw [decS_succ, decS_enc W l r hl hW h1 hr i (by omega), hj, show r - 1 - (i + 1) = j by omega, encS_succ, key_key _ W _ hM.1, unmix_mix _ hF, unshift_shift _ hS.1, unsub_sub _ hX]
theorem dec_enc (W l : List Nat) (r : Nat) (hl : By l) (hW : ∀ x ∈ W, x < 256) (h1 : 1 ≤ r) (hr : 16 * r + 16 ≤ W.length) : decL W r (encL W r l) = l := by
  unfold decL
  rw [decS_enc W l r hl hW h1 hr (r - 1) (by omega), show r - 1 - (r - 1) = 0 by omega]
  exact key_key l W 0 hl.1
theorem encS_dec (W l : List Nat) (r : Nat) (hl : By l) (hW : ∀ x ∈ W, x < 256) (h1 : 1 ≤ r) (hr : 16 * r + 16 ≤ W.length) : ∀ i, i + 1 ≤ r → encS W (decL W r l) i = decS W r l (r - 1 - i)
  | 0, _ => key_key _ W 0 (decS_by W l r hl hW hr (r - 1)).1
  | i + 1, h => by
    obtain ⟨j, hj⟩ : ∃ j, r - 1 - i = j + 1 := ⟨r - 2 - i, by omega⟩
    have hX := decS_by W l r hl hW hr j
    have hK := key_by _ W (r - 1 - j) hX hW (by omega)
    have hM := stp_unmix.okay _ hK
    have hF := stp_unshift.okay _ hM
    rw [encS_succ, encS_dec W l r hl hW h1 hr i (by omega), hj, show r - 1 - (i + 1) = j by omega, decS_succ, sub_unsub _ hF, shift_unshift _ hM.1, mix_unmix _ hK, show r - 1 - j = i + 1 by omega, key_key _ W _ hX.1]
theorem enc_dec (W l : List Nat) (r : Nat) (hl : By l) (hW : ∀ x ∈ W, x < 256) (h1 : 1 ≤ r) (hr : 16 * r + 16 ≤ W.length) : encL W r (decL W r l) = l := by
  have hK := key_by l W r hl hW hr
  have hF := stp_unshift.okay _ hK
  unfold encL
  rw [encS_dec W l r hl hW h1 hr (r - 1) (by omega), show r - 1 - (r - 1) = 0 by omega]
  show keyL (shiftL (ssubL (sunsubL (unshiftL (keyL l W r))))) W r = l
  rw [sub_unsub _ hF, shift_unshift _ hK.1, key_key _ W r hl.1]
def decK (key l : List Nat) : List Nat := decL (wordsK key) (roundsK key) l
theorem dec_c {c b g n cap : Nat} {key l : List Nat} (hkl : key.length = 16 ∨ key.length = 32) (hl : By l) (w : World) (hC : Cip w c b g n cap (roundsK key) (wordsK key)) :
    Calls Try.prog 52 #[.pointer (some ⟨c, 0, none⟩), .agg (bA l)] w fun e w' => e = .returned (.agg (bA (decK key l))) ∧ Below w.heap.size w w' :=
  decrypt_c c b g n cap _ _ l hl (by unfold roundsK; omega) (by rw [wordsK_len key hkl]; exact Nat.le_refl _) (by unfold roundsK; omega) w hC
theorem encK_by {key l : List Nat} (hkl : key.length = 16 ∨ key.length = 32) (hl : By l) (hW : ∀ x ∈ wordsK key, x < 256) : By (encK key l) := by
  have h16 := wordsK_len key hkl
  unfold encK encL
  exact key_by _ _ _ (stp_shift.okay _ (stp_sub.okay _ (encS_by _ l hl hW _ (by omega)))) hW (by omega)
theorem decK_by {key l : List Nat} (hkl : key.length = 16 ∨ key.length = 32) (hl : By l) (hW : ∀ x ∈ wordsK key, x < 256) : By (decK key l) := by
  have h16 := wordsK_len key hkl
  unfold decK decL
  exact key_by _ _ _ (decS_by _ l _ hl hW (by omega) _) hW (by omega)
theorem decK_encK {key l : List Nat} (hkl : key.length = 16 ∨ key.length = 32) (hl : By l) (hW : ∀ x ∈ wordsK key, x < 256) : decK key (encK key l) = l :=
  dec_enc _ l _ hl hW (by unfold roundsK; omega) (by rw [wordsK_len key hkl]; exact Nat.le_refl _)
theorem encK_decK {key l : List Nat} (hkl : key.length = 16 ∨ key.length = 32) (hl : By l) (hW : ∀ x ∈ wordsK key, x < 256) : encK key (decK key l) = l :=
  enc_dec _ l _ hl hW (by unfold roundsK; omega) (by rw [wordsK_len key hkl]; exact Nat.le_refl _)
end Go.Proofs.Ytnmjkdmhfogeiaa
