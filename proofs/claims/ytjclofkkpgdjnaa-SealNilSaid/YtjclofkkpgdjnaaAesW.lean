/- aes.New at either length; the law's awake. -/
import Derived.Test.YtjclofkkpgdjnaaAesP
set_option linter.unusedVariables false
set_option linter.unusedSimpArgs false
namespace Go.Proofs.Ytjclofkkpgdjnaa
open Go Go.RowKit GfM
/-- the words' bytes of a key -/
def wordsK (key : List Nat) : List Nat := sched (key.length / 4) key (3 * (key.length / 4) + 28)
def roundsK (key : List Nat) : Nat := key.length / 4 + 6
theorem wordsK_len (key : List Nat) (h : key.length = 16 ∨ key.length = 32) : (wordsK key).length = 16 * roundsK key + 16 := by
  unfold wordsK roundsK
  rcases h with h | h <;> rw [h] <;> rw [sched_len _ key (by rw [h])]
theorem new_c (b gk o cap : Nat) (key : List Nat) (hkl : key.length = 16 ∨ key.length = 32) (hkb : ∀ x ∈ key, x < 256) (hcap : key.length ≤ cap) (w : World) (hB : IsBox w b) (hg : gk < w.heap.size)
    (hk : ∀ j, j < key.length → w.cell? ⟨gk, o + j, none⟩ = some (.int .u8 ((key.getD j 0 : Nat) : Int))) :
    Calls Try.prog 47 #[.pointer (some ⟨b, 0, none⟩), .slice (some ⟨gk, o, none⟩) key.length cap] w fun e w' =>
      ∃ c g n cp, e = .returned (.tuple #[.pointer (some ⟨c, 0, none⟩), .int .i64 0]) ∧ Cip w' c b g n cp (roundsK key) (wordsK key) ∧ w.heap.size ≤ c ∧ w.heap.size ≤ g ∧ Below w.heap.size w w' := by
  rcases hkl with h | h
  · have hw : wordsK key = sched 4 key 40 := by unfold wordsK; rw [h]
    have hr : roundsK key = 10 := by unfold roundsK; rw [h]
    rw [hw, hr, h]
    rw [h] at hcap hk
    exact (new4_c b gk o cap key h hkb hcap w hB hg hk).mono fun e w' ⟨c, g, cp, h1, h2, h3⟩ => ⟨c, g, _, cp, h1, h2, h3⟩
  · have hw : wordsK key = sched 8 key 52 := by unfold wordsK; rw [h]
    have hr : roundsK key = 14 := by unfold roundsK; rw [h]
    rw [hw, hr, h]
    rw [h] at hcap hk
    exact (new8_c b gk o cap key h hkb hcap w hB hg hk).mono fun e w' ⟨c, g, cp, h1, h2, h3⟩ => ⟨c, g, _, cp, h1, h2, h3⟩
/-- encrypted by a key -/
def encK (key l : List Nat) : List Nat := encL (wordsK key) (roundsK key) l
theorem enc_c {c b g n cap : Nat} {key l : List Nat} (hkl : key.length = 16 ∨ key.length = 32) (hl : By l) (w : World) (hC : Cip w c b g n cap (roundsK key) (wordsK key)) :
    Calls Try.prog 54 #[.pointer (some ⟨c, 0, none⟩), .agg (bA l)] w fun e w' => e = .returned (.agg (bA (encK key l))) ∧ Below w.heap.size w w' :=
  encrypt_c c b g n cap _ _ l hl (by unfold roundsK; omega) (by rw [wordsK_len key hkl]; exact Nat.le_refl _) (by unfold roundsK; omega) w hC
theorem ex05 : (encK (List.range 16) ((List.range 16).map fun i => 17 * i)).getD 0 0 = 105 ∧ (encK (List.range 16) ((List.range 16).map fun i => 17 * i)).getD 1 0 = 196 ∧ (encK (List.range 16) ((List.range 16).map fun i => 17 * i)).getD 15 0 = 90 := by decide +kernel
end Go.Proofs.Ytjclofkkpgdjnaa
