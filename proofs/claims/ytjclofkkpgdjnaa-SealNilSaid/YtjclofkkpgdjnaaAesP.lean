/- Plain laws of the cipher: each step back. -/
import Derived.Test.YtjclofkkpgdjnaaAesK
set_option linter.unusedVariables false
set_option linter.unusedSimpArgs false
namespace Go.Proofs.Ytjclofkkpgdjnaa
open Go Go.RowKit GfM
theorem ext16 {l m : List Nat} (hl : l.length = 16) (hm : m.length = 16) (h : ∀ j, j < 16 → l.getD j 0 = m.getD j 0) : l = m := by
  apply List.ext_getElem (by rw [hl, hm])
  intro j h1 h2
  have := h j (by omega)
  simpa [List.getD_eq_getElem?_getD, h1, h2] using this
theorem get_map16 (g : Nat → Nat) (j : Nat) (hj : j < 16) : ((List.range 16).map g).getD j 0 = g j := by simp [hj]
theorem key_key (l W : List Nat) (r : Nat) (hl : l.length = 16) : keyL (keyL l W r) W r = l := by
  refine ext16 (by simp [keyL]) hl fun j hj => ?_
  unfold keyL
  rw [get_map16 _ j hj, get_map16 _ j hj, Nat.xor_assoc, Nat.xor_self, Nat.xor_zero]
theorem unsub_sub (l : List Nat) (hl : By l) : sunsubL (ssubL l) = l := by
  refine ext16 (by simp [sunsubL]) hl.1 fun j hj => ?_
  unfold sunsubL ssubL
  rw [get_map16 _ j hj, get_map16 _ j hj, bkx_sbx _ (hl.2 j hj)]
theorem sub_unsub (l : List Nat) (hl : By l) : ssubL (sunsubL l) = l := by
  refine ext16 (by simp [ssubL]) hl.1 fun j hj => ?_
  unfold sunsubL ssubL
  rw [get_map16 _ j hj, get_map16 _ j hj, sbx_bkx _ (hl.2 j hj)]
theorem unshift_shift (l : List Nat) (hl : l.length = 16) : unshiftL (shiftL l) = l := by
  refine ext16 (by simp [unshiftL]) hl fun j hj => ?_
  unfold unshiftL shiftL
  rw [get_map16 _ j hj, get_map16 _ _ (by unfold gis; omega)]
  congr 1
  unfold sig gis; omega
theorem shift_unshift (l : List Nat) (hl : l.length = 16) : shiftL (unshiftL l) = l := by
  refine ext16 (by simp [shiftL]) hl fun j hj => ?_
  unfold unshiftL shiftL
  rw [get_map16 _ j hj, get_map16 _ _ (by unfold sig; omega)]
  congr 1
  unfold sig gis; omega
theorem col_cols (G : (Nat → Nat) → Nat → Nat) (l : List Nat) (q : Nat) (hq : q < 4) (t : Nat) (ht : t < 4) : colOf (colsL G l) q t = G (colOf l q) t := by
  unfold colOf colsL
  rw [get_map16 _ _ (by omega)]
  unfold colsF
  rw [show (4 * q + t) / 4 = q by omega, show (4 * q + t) % 4 = t by omega]
  rfl
theorem unmix_mix (l : List Nat) (hl : By l) : sunmixL (smixL l) = l := by
  refine ext16 (by simp [sunmixL, colsL]) hl.1 fun j hj => ?_
  have h := (PM_any (colOf l (j / 4)) (fun t ht => hl.2 _ (by omega)) (j % 4) (by omega)).1
  have e : (sunmixL (smixL l)).getD j 0 = plainN (colOf (smixL l) (j / 4)) (j % 4) := get_map16 _ j hj
  refine e.trans ((plainN_congr (c := colOf (smixL l) (j / 4)) (d := mixN (colOf l (j / 4))) (fun t ht => col_cols mixN l (j / 4) (by omega) t ht) (j % 4) (by omega)).trans (h.trans ?_))
  unfold colOf; congr 1; omega
theorem mix_unmix (l : List Nat) (hl : By l) : smixL (sunmixL l) = l := by
  refine ext16 (by simp [smixL, colsL]) hl.1 fun j hj => ?_
  have h := (PM_any (colOf l (j / 4)) (fun t ht => hl.2 _ (by omega)) (j % 4) (by omega)).2
  have e : (smixL (sunmixL l)).getD j 0 = mixN (colOf (sunmixL l) (j / 4)) (j % 4) := get_map16 _ j hj
  refine e.trans ((mixN_congr (c := colOf (sunmixL l) (j / 4)) (d := plainN (colOf l (j / 4))) (fun t ht => col_cols plainN l (j / 4) (by omega) t ht) (j % 4) (by omega)).trans (h.trans ?_))
  unfold colOf; congr 1; omega
theorem key_inj {a b W : List Nat} {r : Nat} (ha : a.length = 16) (hb : b.length = 16) (h : keyL a W r = keyL b W r) : a = b := by
  rw [← key_key a W r ha, h, key_key b W r hb]
theorem sub_inj {a b : List Nat} (ha : By a) (hb : By b) (h : ssubL a = ssubL b) : a = b := by rw [← unsub_sub a ha, h, unsub_sub b hb]
theorem shift_inj {a b : List Nat} (ha : a.length = 16) (hb : b.length = 16) (h : shiftL a = shiftL b) : a = b := by rw [← unshift_shift a ha, h, unshift_shift b hb]
theorem mix_inj {a b : List Nat} (ha : By a) (hb : By b) (h : smixL a = smixL b) : a = b := by rw [← unmix_mix a ha, h, unmix_mix b hb]
theorem encS_inj (W l m : List Nat) (hl : By l) (hm : By m) (hW : ∀ x ∈ W, x < 256) : ∀ i, 16 * i + 16 ≤ W.length → encS W l i = encS W m i → l = m
  | 0, _, h => key_inj hl.1 hm.1 h
  | i + 1, hi, h => by
    have al := encS_by W l hl hW i (by omega)
    have am := encS_by W m hm hW i (by omega)
    have bl := stp_sub.okay _ al
    have bm := stp_sub.okay _ am
    have cl := stp_shift.okay _ bl
    have cm := stp_shift.okay _ bm
    exact encS_inj W l m hl hm hW i (by omega) (sub_inj al am (shift_inj bl.1 bm.1 (mix_inj cl cm (key_inj (stp_mix.okay _ cl).1 (stp_mix.okay _ cm).1 h))))
theorem enc_inj (W l m : List Nat) (r : Nat) (hl : By l) (hm : By m) (hW : ∀ x ∈ W, x < 256) (h1 : 1 ≤ r) (hr : 16 * r + 16 ≤ W.length) (h : encL W r l = encL W r m) : l = m := by
  have al := encS_by W l hl hW (r - 1) (by omega)
  have am := encS_by W m hm hW (r - 1) (by omega)
  have bl := stp_sub.okay _ al
  have bm := stp_sub.okay _ am
  exact encS_inj W l m hl hm hW (r - 1) (by omega) (sub_inj al am (shift_inj bl.1 bm.1 (key_inj (stp_shift.okay _ bl).1 (stp_shift.okay _ bm).1 h)))
end Go.Proofs.Ytjclofkkpgdjnaa
