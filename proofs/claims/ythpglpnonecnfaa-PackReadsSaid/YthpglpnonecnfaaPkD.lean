/- pack.sealed, Bytes; the law's awake. -/
import Derived.Test.YthpglpnonecnfaaPkC
set_option linter.unusedVariables false
set_option linter.unusedSimpArgs false
namespace Go.Proofs.Ythpglpnonecnfaa
open Go Go.RowKit Sha
theorem bytesAt_block_t {w : World} {q : Nat} {l : List Nat} {t : TypeId} {z : Nat × Nat} (hb : ∀ x ∈ l, x < 256) (h : w.heap[q]? = some (.cells (bA l) t z)) : BytesAt w (some ⟨q, 0, none⟩) l.length l :=
  ⟨hb, fun _ => ⟨q, 0, rfl, Nat.le_refl _, lt_of_block h, fun j hj => by rw [Nat.zero_add, cells_at h j]; exact bA_get l j hj⟩⟩
theorem sum_lt (m : List Nat) : ∀ x ∈ sumN m, x < 256 := by
  intro x hx
  unfold sumN at hx
  simp only [St.out, outW, List.mem_append, List.mem_cons, List.not_mem_nil, or_false] at hx
  omega
set_option maxRecDepth 100000 in
set_option maxHeartbeats 4000000 in
theorem sealed_c (B : Nat) (v : Value) (l : List Nat) (hl : ∀ x ∈ l, x < 256) (hlen : l.length ≤ 900000) (w : World) (hBw : B ≤ w.heap.size) (hown : w.ownsRow B 5 1 v l.length (bA l).toList) :
    Calls Try.prog 30 #[v] w fun e w' => ∃ v', e = .returned v' ∧ w'.ownsRow B 5 1 v' (l ++ sumN l).length (bA (l ++ sumN l)).toList ∧ Below B w w' := by
  obtain ⟨a, cap, rfl, hb, _, hlc, hcm, hnil, hbk⟩ := own_bytes hl hown
  obtain ⟨n, hn⟩ : ∃ n, n = l.length := ⟨_, rfl⟩
  rw [← hn] at hown hlc hbk ⊢
  have HN := Lib.hid hn
  have HOWN := Lib.hid hown
  have HB := Lib.hid hb
  have HNIL := Lib.hid hnil
  have HBK := Lib.hid hbk
  have HLEN : Hid (n ≤ 900000) := by show _ ≤ _; rw [hn]; exact hlen
  have HBW := Lib.hid hBw
  have HSL := Lib.hid (sum_len l)
  clear hn hown hb hnil hbk hl hlen hlc hcm hBw
  go_enter Try.func30, Try.ntmps30
  go_wp2_with fail
  refine (make_c w).mono ?_
  rintro e w1 ⟨rfl, ht1, hb1⟩
  have HT1 := Lib.hid ht1
  have HBE1 := Lib.hid hb1
  have HOWN1 := Lib.hid (own_up HOWN.out hb1)
  clear ht1 hb1
  go_wp2_with fail
  have HW2 : Hid (Below w1.heap.size w1 (w1.alloc (.cells #[.slice a n cap] 27))) := (Below.refl _ _).alloc (Nat.le_refl _) _
  have hps : (w1.alloc (.cells #[.slice a n cap] 27)).cell? ⟨w1.heap.size, 0 + 0, none⟩ = some (.slice a l.length cap) := by
    rw [cells_at (heap_new' _ _) (0 + 0), ← HN.out]; rfl
  have hcat : catP [(a, cap, l)] = l := by simp [catP]
  refine (tsum_c w.heap.size w1.heap.size 0 1 [(a, cap, l)] _ ((HW2.out.block _ (lt_of_block HT1.out)).trans HT1.out) (by simp) ?_ (by simp) (by rw [hcat, ← HN.out]; exact HLEN.out)).mono ?_
  · intro k s hs
    have hk : k = 0 := by have := (List.getElem?_eq_some_iff.1 hs).1; simpa using this
    subst hk
    simp at hs
    subst hs
    refine ⟨hps, (HB.out.up HBE1.out (Nat.le_refl _)).up HW2.out (Nat.le_refl _), HNIL.out, fun g o h => ?_⟩
    have := (HBK.out g o none h).2.2.2.2
    have h2 := HBE1.out.size
    simp; omega
  rw [hcat]
  rintro e w3 ⟨rfl, hb3⟩
  have HBE3 : Hid (Below w.heap.size w w3) := HBE1.out.trans ((HW2.out.trans (hb3.mono (by simp))).mono HBE1.out.size)
  have HOWN3 := Lib.hid (own_up HOWN.out HBE3.out)
  clear hb3 hps hcat HW2 HT1 HOWN1 HBE1
  have HZ4 : Hid ((w3.alloc (.cells #[.int .u8 0, .int .u8 0, .int .u8 0, .int .u8 0, .int .u8 0, .int .u8 0, .int .u8 0, .int .u8 0, .int .u8 0, .int .u8 0, .int .u8 0, .int .u8 0, .int .u8 0, .int .u8 0, .int .u8 0, .int .u8 0, .int .u8 0, .int .u8 0, .int .u8 0, .int .u8 0, .int .u8 0, .int .u8 0, .int .u8 0, .int .u8 0, .int .u8 0, .int .u8 0, .int .u8 0, .int .u8 0, .int .u8 0, .int .u8 0, .int .u8 0, .int .u8 0] 77)).heap[w3.heap.size]? = some (.cells #[.int .u8 0, .int .u8 0, .int .u8 0, .int .u8 0, .int .u8 0, .int .u8 0, .int .u8 0, .int .u8 0, .int .u8 0, .int .u8 0, .int .u8 0, .int .u8 0, .int .u8 0, .int .u8 0, .int .u8 0, .int .u8 0, .int .u8 0, .int .u8 0, .int .u8 0, .int .u8 0, .int .u8 0, .int .u8 0, .int .u8 0, .int .u8 0, .int .u8 0, .int .u8 0, .int .u8 0, .int .u8 0, .int .u8 0, .int .u8 0, .int .u8 0, .int .u8 0] 77 (0, 0))) := heap_new' _ _
  go_wp2_with (first
    | (refine wpList_store_row rfl 77 (.tmp 4) (.tmp 10) rfl w3.heap.size (bA (sumN l)) rfl rfl 77 _ HZ4.out (by rw [info32, bA_size, HSL.out]) (by rw [bA_size, HSL.out]; rfl) (bA_one _) ?_; generalize hW5 : World.setRow _ _ _ = w5; have HS5 : Hid (w5.heap[w3.heap.size]? = some (.cells (bA (sumN l)) 77 (0, 0))) := (by rw [← hW5]; exact setRow_heap _ _ _ _ _ _ HZ4.out); have HB5 : Hid (Below w3.heap.size w3 w5) := (by rw [← hW5]; exact below_setRow ((Below.refl _ _).alloc (Nat.le_refl _) _) (Nat.le_refl _) _); clear hW5; have HOWN5 := Lib.hid (own_up HOWN3.out HB5.out); have HD5 : Hid (BytesAt w5 (some ⟨w3.heap.size, 0, none⟩) 32 (sumN l)) := (by have h := bytesAt_block_t (sum_lt l) HS5.out; rw [HSL.out] at h; exact h); have HSZ5 : Hid (B ≤ w5.heap.size) := Nat.le_trans HBW.out (Nat.le_trans HBE3.out.size HB5.out.size))
    | (refine wpList_append_bytes (v := .slice a n cap) (base := B) (n := n) (m := 32) (l := sumN l) rfl (.tmp 11) (.tmp 12) rfl rfl HOWN5.out rfl HSL.out HD5.out (fun h => by cases h) (by have := HLEN.out; omega) HSZ5.out ?_; intro v6 w6 hown6 hgr6; rw [bA_app] at hown6; have HOWN6 := Lib.hid hown6; have HB6 : Hid (Below B w w6) := ((HBE3.out.mono HBW.out).trans (HB5.out.mono (Nat.le_trans HBW.out HBE3.out.size))).grown hgr6 HSZ5.out (fun k h => (HOWN5.out.lt k h).1); clear hown6 hgr6)
    | fail)
  go_ret
  refine ⟨_, rfl, ?_, HB6.out⟩
  have h := HOWN6.out
  rw [List.length_append, HSL.out, ← HN.out]
  exact h
def errB : Bool → Int
  | true => 0
  | false => 1
theorem may_parts {L : List (List Nat)} {R : List Int} (h : mayP L R = true) : L.length ≤ 1024 ∧ mayB L = true ∧ ∀ r ∈ R, 0 ≤ r ∧ r ≤ 1000000 := by
  unfold mayP at h
  simp only [Bool.and_eq_true, decide_eq_true_eq] at h
  refine ⟨h.1.1, h.1.2, fun r hr => ?_⟩
  have h2 := h.2
  unfold mayR at h2
  rw [List.all_eq_true] at h2
  have := h2 r hr
  simp only [decide_eq_true_eq] at this
  have := h.1.1
  omega
set_option maxRecDepth 100000 in
set_option maxHeartbeats 4000000 in
theorem pbytes_c (a : Option Addr) (n cap : Nat) (L : List (List Nat)) (R : List Int) (hn : L.length = n) (hnm : n ≤ 1000000) (hR16 : R.length = 16) (hlen : mayP L R = true → (packBody L R).length ≤ 900000) (w : World) (hR : RowsAt w a L) :
    Calls Try.prog 15 #[.agg (packA (.slice a n cap) R)] w fun e w' =>
      (∃ v, e = .returned (.tuple #[v, .int .i64 (errB (mayP L R))]) ∧ (mayP L R = false → v = .slice none 0 0) ∧ (mayP L R = true → w'.ownsRow w.heap.size 5 1 v (packBytes L R).length (bA (packBytes L R)).toList)) ∧ Below w.heap.size w w' := by
  have hblk := heap_new' w (.cells (packA (.slice a n cap) R) 33)
  have HBE : Hid (Below w.heap.size w (w.alloc (.cells (packA (.slice a n cap) R) 33))) := (Below.refl _ _).alloc (Nat.le_refl _) _
  have HR := Lib.hid hR
  have HN := Lib.hid hn
  have HNM := Lib.hid hnm
  have H16 := Lib.hid hR16
  have HLEN := Lib.hid hlen
  have HBLK := Lib.hid hblk
  have HPS : Hid (∀ R : List Int, R.length = 16 → (packA (.slice a n cap) R).size = 17) := fun R h => by rw [pack_size, h]
  clear hR hn hnm hR16 hlen hblk
  go_enter Try.func15, Try.ntmps15
  go_wp2_with (first
    | (refine wpList_load_row rfl 33 (.tmp 1) rfl w.heap.size rfl _ _ _ _ HBLK.out Try.underlying33 rfl (by rw [pack33, HPS.out R H16.out]) ?_)
    | fail)
  generalize w.alloc (.cells (packA (.slice a n cap) R) 33) = w0 at *
  have HR0 := Lib.hid (HR.out.up HBE.out (Nat.le_refl _))
  refine (may_c a n cap L R HN.out HNM.out H16.out w0 HR0.out).mono ?_
  rintro e w1 ⟨rfl, hb1⟩
  have HB1 : Hid (Below w.heap.size w w1) := HBE.out.trans (hb1.mono HBE.out.size)
  have HR1 := Lib.hid (HR.out.up HB1.out (Nat.le_refl _))
  have HK1 := Lib.hid ((hb1.block _ (lt_of_block HBLK.out)).trans HBLK.out)
  clear hb1 HBLK HR0 HBE
  by_cases hmay : mayP L R = true
  · have HMY := Lib.hid hmay
    rw [hmay]
    obtain ⟨hp1, hp2, hp3⟩ := may_parts hmay
    have HP3 := Lib.hid hp3
    clear hmay hp1 hp2 hp3
    go_wp2_with (first
      | (refine wpList_load_row rfl 33 (.tmp 1) rfl w.heap.size rfl _ _ _ _ HK1.out Try.underlying33 rfl (by rw [pack33, HPS.out R H16.out]) ?_)
      | fail)
    refine (encode_c a n cap L R HN.out HNM.out H16.out HP3.out (HLEN.out HMY.out) w1 HR1.out).mono ?_
    rintro e w2 ⟨v2, rfl, hown2, hb2⟩
    have HO2 := Lib.hid (own_mono hown2 HB1.out.size)
    have HB2 : Hid (Below w.heap.size w w2) := HB1.out.trans (hb2.mono HB1.out.size)
    clear hown2 hb2
    go_wp2_with fail
    refine (sealed_c w.heap.size v2 (packBody L R) (body_lt (rowsAt_lt HR.out)) (HLEN.out HMY.out) w2 HB2.out.size HO2.out).mono ?_
    rintro e w3 ⟨v3, rfl, hown3, hb3⟩
    have HO3 := Lib.hid hown3
    have HB3 : Hid (Below w.heap.size w w3) := HB2.out.trans hb3
    clear hown3 hb3
    go_wp2
    go_ret2
    exact ⟨⟨v3, by rw [HMY.out]; rfl, (fun h => by rw [HMY.out] at h; cases h), fun _ => HO3.out⟩, HB3.out⟩
  · have hmf : mayP L R = false := by simpa using hmay
    have HMF := Lib.hid hmf
    rw [hmf]
    clear hmay hmf
    go_wp2
    go_ret2
    exact ⟨⟨.slice none 0 0, by rw [HMF.out]; rfl, fun _ => rfl, fun h => by rw [HMF.out] at h; cases h⟩, HB1.out⟩
theorem zeros_may : mayP [] (List.replicate 16 0) = true := by decide
theorem zeros_len : (packBytes [] (List.replicate 16 0)).length = 70 := by
  unfold packBytes
  rw [List.length_append, sum_len]
  rfl
theorem zeros_six : (packBytes [] (List.replicate 16 0)).take 6 = [80, 65, 67, 75, 0, 0] := by
  unfold packBytes
  rw [List.take_append_of_le_length (by decide)]
  rfl
theorem packBytes_lt {L : List (List Nat)} {R : List Int} (hL : ∀ l ∈ L, ∀ x ∈ l, x < 256) : ∀ x ∈ packBytes L R, x < 256 := app_lt (body_lt hL) (sum_lt _)
set_option maxRecDepth 100000 in
set_option maxHeartbeats 4000000 in
theorem awake36_c (w : World) : Calls Try.prog 14 #[] w fun e w' => e = .returned (.bool true) ∧ Below w.heap.size w w' := by
  have HP := Lib.hid (fun w => pbytes_c none 0 0 [] (List.replicate 16 0) rfl (by omega) (by simp) (fun _ => by decide) w (fun i l h => by cases h))
  go_enter Try.func14, Try.ntmps14
  go_wp2_with fail
  refine (HP.out w).mono ?_
  rintro e w1 ⟨⟨v, rfl, _, hown⟩, hb⟩
  have hown1 := hown zeros_may
  rw [zeros_may, show errB true = 0 from rfl]
  obtain ⟨a, cap, rfl, hbytes, hl, hlc, hcm, hnil, hg⟩ := own_bytes (packBytes_lt (by simp)) hown1
  rw [zeros_len] at hlc ⊢
  obtain ⟨g, o, rfl, _, hgl, hcell⟩ := hbytes.2 (by rw [zeros_len]; omega)
  have h6 : BytesAt w1 (some ⟨g, o, none⟩) cap [80, 65, 67, 75, 0, 0] := by
    refine ⟨by decide, fun _ => ⟨g, o, rfl, by show 6 ≤ cap; omega, hgl, fun j hj => ?_⟩⟩
    have hj6 : j < 6 := hj
    rw [hcell j (by rw [zeros_len]; omega), ← zeros_six, List.getD_eq_getElem?_getD, List.getD_eq_getElem?_getD, List.getElem?_take_of_lt hj6]
  have hcv : (convert 27 9 (.slice (some ⟨g, o, none⟩) 6 cap)).run Try.prog w1 = .ok (.string ⟨#[80, 65, 67, 75, 0, 0]⟩) w1 := run_conv h6
  have s1 : (6 : Int) ≤ (cap : Int) := by omega
  clear hcell hbytes hown hown1 hl hnil hg h6 hlc hcm
  go_wp2
  go_ret
  exact ⟨rfl, hb⟩
end Go.Proofs.Ythpglpnonecnfaa
