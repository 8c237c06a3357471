/- Texts ChLh, ChLi, put together by pack.py. -/
import Derived.Test.YtpbmjfjnmcpieaaGreatCBg
set_option maxRecDepth 100000
set_option maxHeartbeats 16000000
set_option linter.unusedVariables false
set_option linter.unusedSimpArgs false
namespace Go.Proofs.YtpbmjfjnmcpieaaGreat
open Go Go.RowKit
theorem blocks_free (n : Nat) (t : Int) (hg : geoB n t = true) (g o k cap : Nat) (L : List (List Nat)) (hL : L.length = k) (hk : k = sealedN n) (hcap : k <= cap) (h256 : ∀ l ∈ L, l.length = 256) (x : Nat) (P : List Pg) (hm : metaN n (L.take (1 + mapsN n)) = some (x, zeroR, P)) (hPn : P.length = n) (hz : ∀ p ∈ P, p.kind = 0) (w : World) (hR : RowsAt w (some ⟨g, o, none⟩) L) :
  Calls Tryz.prog 8 #[.agg #[.int .i64 (n : Int), .int .i64 t], .slice (some ⟨g, o, none⟩) k cap] w fun e w' => ∃ fv, e = .returned (.tuple #[fv, .int .i64 0]) /\ w'.ownsRow w.heap.size 67 2 fv (trK (L.drop (1 + mapsN n)) n).length (cellsF (trK (L.drop (1 + mapsN n)) n)) /\ Below w.heap.size w w' := by
 have hp := (geoB_iff n t).1 hg
 have hn64 : n <= 64 := by omega
 have hmn := mapsN_le n hn64
 have hks : k = 1 + mapsN n + n := by rw [hk]; rfl
 have HG : Hid ((w.alloc (.cells #[.int .i64 (n : Int), .int .i64 t] 31)).heap[w.heap.size]? = some (.cells #[.int .i64 (n : Int), .int .i64 t] 31 (0, 0))) := heap_new' _ _
 have HE : Hid (Below w.heap.size w (w.alloc (.cells #[.int .i64 (n : Int), .int .i64 t] 31))) := below_box _ _
 have HC := Lib.hid (fun w => gcheck_c n t w)
 have HS := Lib.hid (fun w => gSealed_c n t w)
 have HA := Lib.hid (fun w => gPageAt_c n 0 t hg (by omega) w)
 have hany : L.any (fun l => !(l.length == 256)) = false := by
  rw [List.any_eq_false]; intro l hl; simp [h256 l hl]
 obtain ⟨fi, hfi⟩ : ∃ fi, fi = 1 + mapsN n := ⟨_, rfl⟩
 rw [show 1 + mapsN n + 0 = fi by omega] at HA
 rw [<- hfi] at hm ⊢
 have HX : Hid (∀ w', Below w.heap.size w w' -> Calls Tryz.prog 20 #[.slice (some ⟨g, o, none⟩) k cap, .func (.func 17) #[] #[]] w' fun e w'' => e = .returned (.bool false) /\ Below w'.heap.size w' w'') := fun w' h => by
  have := cf_long_c (some ⟨g, o, none⟩) k cap L hL (by omega) w' (hR.up h (Nat.le_refl _))
  rw [hany] at this; exact this
 have hsl : ifGeo n t (sealedN (n : Int).toNat) = k := by unfold ifGeo; rw [if_pos hg, Int.toNat_natCast, hk]
 have hge : geoE n t = 0 := by unfold geoE; rw [if_pos hg]
 rw [hsl] at HS
 rw [hge] at HC
 have HGB := Lib.hid hg
 have HL := Lib.hid hL
 have HKS := Lib.hid (show k = fi + n /\ n <= 64 /\ k <= cap /\ fi <= 5 /\ P.length = n from ⟨by omega, hn64, hcap, by omega, hPn⟩)
 have HFI := Lib.hid hfi
 have H256 := Lib.hid h256
 have HM := Lib.hid hm
 have HZ := Lib.hid hz
 have HRW := Lib.hid hR
 have hd : ((k : Int) == (k : Int)) = true := beq_self_eq_true _
 clear hfi hp hn64 hmn hks hany hsl hge hg hL hk hcap h256 hm hPn hz hR
 go_enter Tryz.func8, Tryz.ntmps8
 go_wp2_with (first
  | (refine wpList_load_row rfl 31 (.tmp 2) rfl w.heap.size rfl _ _ _ _ HG.out Tryz.underlying31 rfl (by rw [geo2]; rfl) ?_)
  | fail)
 refine (HC.out _).mono ?_
 rintro e w1 ⟨rfl, hb1⟩
 have HE1 : Hid (Below w.heap.size w w1) := HE.out.trans (hb1.mono HE.out.size)
 have HG1 := Lib.hid ((hb1.block _ (lt_of_block HG.out)).trans HG.out)
 have g0 := (cells_at HG1.out 0).trans (show _ = some (Value.int .i64 (n : Int)) from rfl)
 have g1 := (cells_at HG1.out 1).trans (show _ = some (Value.int .i64 t) from rfl)
 clear hb1
 go_wp2_with fail
 refine (HS.out _).mono ?_
 rintro e w2 ⟨rfl, hb2⟩
 have HE2 : Hid (Below w.heap.size w w2) := HE1.out.trans (hb2.mono HE1.out.size)
 have HG2 := Lib.hid ((hb2.block _ (lt_of_block HG1.out)).trans HG1.out)
 clear hb2 g0 g1
 go_wp2_with fail
 refine (HX.out _ HE2.out).mono ?_
 rintro e w3 ⟨rfl, hb3⟩
 have HE3 : Hid (Below w.heap.size w w3) := HE2.out.trans (hb3.mono HE2.out.size)
 have HG3 := Lib.hid ((hb3.block _ (lt_of_block HG2.out)).trans HG2.out)
 clear hb3
 go_wp2_with (first
  | (refine wpList_load_row rfl 31 (.tmp 2) rfl w.heap.size rfl _ _ _ _ HG3.out Tryz.underlying31 rfl (by rw [geo2]; rfl) ?_)
  | fail)
 refine (HA.out _).mono ?_
 rintro e w4 ⟨rfl, hb4⟩
 have HE4 : Hid (Below w.heap.size w w4) := HE3.out.trans (hb4.mono HE3.out.size)
 have HG4 := Lib.hid ((hb4.block _ (lt_of_block HG3.out)).trans HG3.out)
 have HR4 := Lib.hid (HRW.out.up HE4.out (Nat.le_refl _))
 clear hb4
 go_wp2
 refine regionBP w.heap.size g o k cap n x fi t zeroR P L w4.heap.size w4 HG4.out HGB.out HL.out HFI.out (by have := HKS.out; omega) HKS.out.2.2.1 H256.out HR4.out HM.out (Nat.le_refl _) ?_ ?_
 ·intro vs w5 hv hk
  obtain ⟨a6, c6, v6, o6⟩ := hv 6 (by omega)
  have v7 : vs 7 = .int .i64 0 := hv 7 (by omega)
  obtain ⟨b8, v8, hb8, f8⟩ := hv 8 (by omega)
  rw [v6, v7, v8]
  clear hv v6 v7 v8
  clear HC HS HA HX HG HG1 HG2 HG3 HG4 HE HE1 HE2 HE3 HRW HM hd
  refine wpList_store_row rfl 63 (.tmp 8) (.tmp 36) rfl b8 (mtA x zeroR (.slice a6 n c6)) rfl rfl 63 _ f8 (by rw [meta18, mtA_size]; rfl) (by rw [mtA_size]; rfl) (mtA_one _ _ _ _ _) ?_
  have hM6 : (w5.setRow b8 (mtA x zeroR (.slice a6 n c6))).heap[b8]? = some (.cells (mtA x zeroR (.slice a6 n c6)) 63 (0, 0)) := setRow_heap _ _ _ _ _ _ f8
  have h46 : Below w4.heap.size w4 (w5.setRow b8 (mtA x zeroR (.slice a6 n c6))) := below_setRow hk hb8 _
  have hK6 : ∀ q, q ≠ b8 -> (w5.setRow b8 (mtA x zeroR (.slice a6 n c6))).heap[q]? = w5.heap[q]? := fun q hq => setRow_other _ _ _ _ hq
  generalize w5.setRow b8 (mtA x zeroR (.slice a6 n c6)) = w6 at *
  have ho6 : w6.ownsRow w4.heap.size 100 5 (.slice a6 n c6) n (cellsP P) := own_keep o6 (fun q hq => hK6 q (by
   rintro rfl
   rcases o6.2 with ⟨h9, _⟩ | ⟨g9, cap9, cur9, e1, e2, e3, e4⟩
   ·rw [h9] at hq; cases hq
   ·rw [e1] at hq; cases hq
    rw [e3] at f8; cases f8))
  have HM6 := Lib.hid hM6
  have HP6 := Lib.hid (pgs_of_own ho6)
  have HE6 : Hid (Below w.heap.size w w6) := HE4.out.trans (h46.mono HE4.out.size)
  have HR6 : Hid (RowsAt w6 (some ⟨g, subO o cap fi, none⟩) (L.drop fi)) := (HR4.out.up h46 (Nat.le_refl _)).drop _ (by have h1 := HL.out; have h2 := HKS.out; omega)
  clear hM6 h46 hK6 ho6 o6 f8 hb8 hk HE4 HR4
  go_wp2
  refine regionBL b8 g o k cap n x fi zeroR a6 c6 w6.heap.size w6 HM6.out rfl (by have := HKS.out; omega) HKS.out.2.2.1 (Nat.le_refl _) ?_
  intro vs2 w7 hv2 hk2
  obtain ⟨lk, v10, hlk, f10⟩ := hv2 6 (by omega)
  rw [v10]
  clear hv2 v10
  have hqe : k - fi = n := by have := HKS.out; omega
  rw [hqe] at f10
  have HL7 := Lib.hid f10
  have HB7 : Hid (∀ w', Below lk w7 w' -> Below w6.heap.size w6 w') := fun w' h => Below.trans hk2 (h.mono hlk)
  have HP7 : Hid (∀ w', Below lk w7 w' -> PgsAt w' a6 P) := fun w' h => HP6.out.up (HB7.out w' h) (Nat.le_refl _)
  have HQ7 : Hid (∀ w', Below lk w7 w' -> RowsAt w' (some ⟨g, subO o cap fi, none⟩) (L.drop fi)) := fun w' h => HR6.out.up (HB7.out w' h) (Nat.le_refl _)
  have HE7 : Hid (Below w.heap.size w w7) := HE6.out.trans (hk2.mono HE6.out.size)
  have HLS : Hid (w.heap.size <= lk /\ lk < w7.heap.size) := ⟨by have := HE6.out.size; omega, lt_of_block f10⟩
  clear f10 hk2 hlk HM6 HP6 HE6 HR6 hqe
  go_wp2
  have HF8 : Hid ((w7.alloc (.cells #[.func (.func 23) #[.pointer (some ⟨lk, 0, none⟩)] #[], .func (.func 24) #[.pointer (some ⟨lk, 0, none⟩)] #[], .func (.func 25) #[.pointer (some ⟨lk, 0, none⟩)] #[], .func (.func 26) #[.pointer (some ⟨lk, 0, none⟩)] #[]] 1)).heap[w7.heap.size]? = some (.cells #[.func (.func 23) #[.pointer (some ⟨lk, 0, none⟩)] #[], .func (.func 24) #[.pointer (some ⟨lk, 0, none⟩)] #[], .func (.func 25) #[.pointer (some ⟨lk, 0, none⟩)] #[], .func (.func 26) #[.pointer (some ⟨lk, 0, none⟩)] #[]] 1 (0, 0))) := heap_new' _ _
  have HL8 : Hid (LkAt (w7.alloc (.cells #[.func (.func 23) #[.pointer (some ⟨lk, 0, none⟩)] #[], .func (.func 24) #[.pointer (some ⟨lk, 0, none⟩)] #[], .func (.func 25) #[.pointer (some ⟨lk, 0, none⟩)] #[], .func (.func 26) #[.pointer (some ⟨lk, 0, none⟩)] #[]] 1)) lk x zeroR (.slice a6 n c6) (.slice (some ⟨g, subO o cap fi, none⟩) n (cap - fi)) (.slice none 0 0) (.slice none 0 0)) := (heap_old' _ _ _ HLS.out.2).trans HL7.out
  have HB8 : Hid (Below lk w7 (w7.alloc (.cells #[.func (.func 23) #[.pointer (some ⟨lk, 0, none⟩)] #[], .func (.func 24) #[.pointer (some ⟨lk, 0, none⟩)] #[], .func (.func 25) #[.pointer (some ⟨lk, 0, none⟩)] #[], .func (.func 26) #[.pointer (some ⟨lk, 0, none⟩)] #[]] 1))) := (below_box w7 _).mono (Nat.le_of_lt HLS.out.2)
  have HE8 : Hid (Below w.heap.size w (w7.alloc (.cells #[.func (.func 23) #[.pointer (some ⟨lk, 0, none⟩)] #[], .func (.func 24) #[.pointer (some ⟨lk, 0, none⟩)] #[], .func (.func 25) #[.pointer (some ⟨lk, 0, none⟩)] #[], .func (.func 26) #[.pointer (some ⟨lk, 0, none⟩)] #[]] 1))) := HE7.out.trans ((below_box w7 _).mono HE7.out.size)
  have HW8 : Hid (w.heap.size <= (w7.alloc (.cells #[.func (.func 23) #[.pointer (some ⟨lk, 0, none⟩)] #[], .func (.func 24) #[.pointer (some ⟨lk, 0, none⟩)] #[], .func (.func 25) #[.pointer (some ⟨lk, 0, none⟩)] #[], .func (.func 26) #[.pointer (some ⟨lk, 0, none⟩)] #[]] 1)).heap.size) := HE8.out.size
  generalize (w7.alloc (.cells #[.func (.func 23) #[.pointer (some ⟨lk, 0, none⟩)] #[], .func (.func 24) #[.pointer (some ⟨lk, 0, none⟩)] #[], .func (.func 25) #[.pointer (some ⟨lk, 0, none⟩)] #[], .func (.func 26) #[.pointer (some ⟨lk, 0, none⟩)] #[]] 1)) = w8 at *
  go_loopw [58] (fun vi wr => ∃ j : Nat, j <= 4 /\ vi = .int .i64 (j : Int) /\ ∃ fv F, Hid (F = if j = 0 then [] else trK (L.drop fi) n) /\ Hid (j = 0 -> fv = .slice none 0 0) /\ Hid (LkAt wr lk x zeroR (.slice a6 n c6) (.slice (some ⟨g, subO o cap fi, none⟩) n (cap - fi)) fv (.slice none 0 0)) /\ Hid (wr.ownsRow w8.heap.size 67 2 fv F.length (cellsF F)) /\ Hid (wr.heap[w7.heap.size]? = some (.cells #[.func (.func 23) #[.pointer (some ⟨lk, 0, none⟩)] #[], .func (.func 24) #[.pointer (some ⟨lk, 0, none⟩)] #[], .func (.func 25) #[.pointer (some ⟨lk, 0, none⟩)] #[], .func (.func 26) #[.pointer (some ⟨lk, 0, none⟩)] #[]] 1 (0, 0))) /\ Hid (Below lk w7 wr) /\ Hid (Below w.heap.size w wr) /\ Hid (w8.heap.size <= wr.heap.size)) (fun vi _ => 4 - (intOf vi).toNat)
  case atStart => exact ⟨0, by omega, rfl, _, [], rfl, fun _ => rfl, HL8.out, World.ownsRow_nil _ _ _ _, HF8.out, HB8.out, HE8.out, Nat.le_refl _⟩
  case round =>
   clear HF8 HL8 HB8 HE8 HL7 HE7
   obtain ⟨j, hj4, rfl, fv, F, hF, hnil, hlk, hown, hf, hbel, hbw, hsz⟩ := hrel
   by_cases hlt : j < 4
   ·have hd : decide ((j : Int) < 4) = true := by simp; omega
    have dl : (j : Int) < 4 := by omega
    have dk0 : ¬ (j : Int) < 0 := by omega
    have ek : IntKind.i64.wrap ((j : Int) + 1) = (j : Int) + 1 := IntWalk.i64_in _ (by omega)
    have hc : j = 0 \/ j = 1 \/ j = 2 \/ j = 3 := by omega
    have HLEN : Hid ((L.drop fi).length = n) := by show _ = _; rw [List.length_drop, HL.out]; have := HKS.out; omega
    clear hj4 hlt
    rcases hc with hj | hj | hj | hj
    ·have cc : wr.cell? ⟨w7.heap.size, j, none⟩ = some (.func (.func 23) #[.pointer (some ⟨lk, 0, none⟩)] #[]) := by rw [cells_at hf.out j, hj]; rfl
     have HJ := Lib.hid hj
     have HC := Lib.hid (lbytes_c2 lk x zeroR rfl a6 n c6 (some ⟨g, subO o cap fi, none⟩) (cap - fi) (.slice none 0 0) P HKS.out.2.2.2.2 HKS.out.2.1 HZ.out (L.drop fi) HLEN.out (fun l hl => H256.out l (List.mem_of_mem_drop hl)) wr (by have := hlk.out; rw [hnil.out hj] at this; exact this) (fun w' h => HP7.out w' (hbel.out.trans h)) (fun w' h => HQ7.out w' (hbel.out.trans h)))
     clear hj
     go_wp2_with fail
     refine HC.out.mono ?_
     rintro e w9 ⟨⟨u, rfl⟩, fv9, hl9, ho9, hb9, hs9⟩
     have HF9 := Lib.hid ((hs9 _ (lt_of_block hf.out) (by have := HLS.out; omega)).trans hf.out)
     have HL9 := Lib.hid hl9
     have HO9 := Lib.hid (own_mono ho9 (show w8.heap.size <= wr.heap.size from hsz.out))
     have HB9 : Hid (Below lk w7 w9) := hbel.out.trans hb9
     have HE9 : Hid (Below w.heap.size w w9) := hbw.out.trans (hb9.mono HLS.out.1)
     have HS9 : Hid (w8.heap.size <= w9.heap.size) := Nat.le_trans hsz.out hb9.size
     clear hl9 ho9 hb9 hs9 cc
     go_wp2
     go_roundw
     case rel => exact ⟨j + 1, by have := HJ.out; omega, by go_num, fv9, _, by show _ = _; rw [if_neg (by omega)], fun h => by omega, HL9.out, HO9.out, HF9.out, HB9.out, HE9.out, HS9.out⟩
     case measure => simp [intOf]; have := HJ.out; omega
    ·have cc : wr.cell? ⟨w7.heap.size, j, none⟩ = some (.func (.func 24) #[.pointer (some ⟨lk, 0, none⟩)] #[]) := by rw [cells_at hf.out j, hj]; rfl
     have HJ := Lib.hid hj
     have HC := Lib.hid (lfind_c lk x zeroR rfl a6 n c6 _ fv _ P HKS.out.2.2.2.2 HKS.out.2.1 HZ.out wr hlk.out (HP7.out wr hbel.out))
     clear hj
     go_wp2_with fail
     refine HC.out.mono ?_
     rintro e w9 ⟨⟨u, rfl⟩, hb9⟩
     have HF9 := Lib.hid ((hb9.block _ (lt_of_block hf.out)).trans hf.out)
     have HL9 := Lib.hid ((hb9.block _ (lt_of_block hlk.out)).trans hlk.out)
     have HO9 := Lib.hid (own_up hown.out hb9)
     have HB9 : Hid (Below lk w7 w9) := hbel.out.trans (hb9.mono (Nat.le_of_lt (lt_of_block hlk.out)))
     have HE9 : Hid (Below w.heap.size w w9) := hbw.out.trans (hb9.mono hbw.out.size)
     have HS9 : Hid (w8.heap.size <= w9.heap.size) := Nat.le_trans hsz.out hb9.size
     clear hb9 cc
     go_wp2
     go_roundw
     case rel => exact ⟨j + 1, by have := HJ.out; omega, by go_num, fv, F, by show _ = _; rw [hF.out, if_neg (by have := HJ.out; omega), if_neg (by omega)], fun h => by omega, HL9.out, HO9.out, HF9.out, HB9.out, HE9.out, HS9.out⟩
     case measure => simp [intOf]; have := HJ.out; omega
    ·have cc : wr.cell? ⟨w7.heap.size, j, none⟩ = some (.func (.func 25) #[.pointer (some ⟨lk, 0, none⟩)] #[]) := by rw [cells_at hf.out j, hj]; rfl
     have HJ := Lib.hid hj
     have HC := Lib.hid (lserials_c lk x zeroR rfl _ _ fv wr hlk.out)
     clear hj
     go_wp2_with fail
     refine HC.out.mono ?_
     rintro e w9 ⟨⟨u, rfl⟩, hb9⟩
     have HF9 := Lib.hid ((hb9.block _ (lt_of_block hf.out)).trans hf.out)
     have HL9 := Lib.hid ((hb9.block _ (lt_of_block hlk.out)).trans hlk.out)
     have HO9 := Lib.hid (own_up hown.out hb9)
     have HB9 : Hid (Below lk w7 w9) := hbel.out.trans (hb9.mono (Nat.le_of_lt (lt_of_block hlk.out)))
     have HE9 : Hid (Below w.heap.size w w9) := hbw.out.trans (hb9.mono hbw.out.size)
     have HS9 : Hid (w8.heap.size <= w9.heap.size) := Nat.le_trans hsz.out hb9.size
     clear hb9 cc
     go_wp2
     go_roundw
     case rel => exact ⟨j + 1, by have := HJ.out; omega, by go_num, fv, F, by show _ = _; rw [hF.out, if_neg (by have := HJ.out; omega), if_neg (by omega)], fun h => by omega, HL9.out, HO9.out, HF9.out, HB9.out, HE9.out, HS9.out⟩
     case measure => simp [intOf]; have := HJ.out; omega
    ·have cc : wr.cell? ⟨w7.heap.size, j, none⟩ = some (.func (.func 26) #[.pointer (some ⟨lk, 0, none⟩)] #[]) := by rw [cells_at hf.out j, hj]; rfl
     have HJ := Lib.hid hj
     have HC := Lib.hid (lroots_c lk x _ _ fv _ wr hlk.out)
     clear hj
     go_wp2_with fail
     refine HC.out.mono ?_
     rintro e w9 ⟨⟨u, rfl⟩, hb9⟩
     have HF9 := Lib.hid ((hb9.block _ (lt_of_block hf.out)).trans hf.out)
     have HL9 := Lib.hid ((hb9.block _ (lt_of_block hlk.out)).trans hlk.out)
     have HO9 := Lib.hid (own_up hown.out hb9)
     have HB9 : Hid (Below lk w7 w9) := hbel.out.trans (hb9.mono (Nat.le_of_lt (lt_of_block hlk.out)))
     have HE9 : Hid (Below w.heap.size w w9) := hbw.out.trans (hb9.mono hbw.out.size)
     have HS9 : Hid (w8.heap.size <= w9.heap.size) := Nat.le_trans hsz.out hb9.size
     clear hb9 cc
     go_wp2
     go_roundw
     case rel => exact ⟨j + 1, by have := HJ.out; omega, by go_num, fv, F, by show _ = _; rw [hF.out, if_neg (by have := HJ.out; omega), if_neg (by omega)], fun h => by omega, HL9.out, HO9.out, HF9.out, HB9.out, HE9.out, HS9.out⟩
     case measure => simp [intOf]; have := HJ.out; omega
   ·have hj : j = 4 := by omega
    subst hj
    have hF4 : F = trK (L.drop fi) n := hF.out
    have c9 := (cells_at hlk.out 19).trans (lkA_19 rfl _ _ _ _)
    have hown4 : wr.ownsRow w.heap.size 67 2 fv (trK (L.drop fi) n).length (cellsF (trK (L.drop fi) n)) := by
     rw [<- hF4]; exact own_mono hown.out HW8.out
    have HO4 := Lib.hid hown4
    clear hF4 hown4 hj4 hlt
    go_wp2
    go_ret2
    exact ⟨fv, rfl, HO4.out, hbw.out⟩
 ·intro vs w5 hv hk
  obtain ⟨a6, c6, v6, o6⟩ := hv 6 (by omega) (by omega)
  obtain ⟨a5, c5, v5, o5⟩ := hv 5 (by omega) (by omega)
  obtain ⟨b8, v8, hb8, f8⟩ := hv 8 (by omega) (by omega)
  rw [v6, v5, v8]
  clear hv v6 v5 v8 o5
  clear HC HS HA HX HG HG1 HG2 HG3 HG4 HE HE1 HE2 HE3 HRW HM hd
  refine wpList_store_row rfl 63 (.tmp 8) (.tmp 36) rfl b8 (mtA x zeroR (.slice a6 n c6)) rfl rfl 63 _ f8 (by rw [meta18, mtA_size]; rfl) (by rw [mtA_size]; rfl) (mtA_one _ _ _ _ _) ?_
  have hM6 : (w5.setRow b8 (mtA x zeroR (.slice a6 n c6))).heap[b8]? = some (.cells (mtA x zeroR (.slice a6 n c6)) 63 (0, 0)) := setRow_heap _ _ _ _ _ _ f8
  have h46 : Below w4.heap.size w4 (w5.setRow b8 (mtA x zeroR (.slice a6 n c6))) := below_setRow hk hb8 _
  have hK6 : ∀ q, q ≠ b8 -> (w5.setRow b8 (mtA x zeroR (.slice a6 n c6))).heap[q]? = w5.heap[q]? := fun q hq => setRow_other _ _ _ _ hq
  generalize w5.setRow b8 (mtA x zeroR (.slice a6 n c6)) = w6 at *
  have ho6 : w6.ownsRow w4.heap.size 100 5 (.slice a6 n c6) n (cellsP P) := own_keep o6 (fun q hq => hK6 q (by
   rintro rfl
   rcases o6.2 with ⟨h9, _⟩ | ⟨g9, cap9, cur9, e1, e2, e3, e4⟩
   ·rw [h9] at hq; cases hq
   ·rw [e1] at hq; cases hq
    rw [e3] at f8; cases f8))
  have HM6 := Lib.hid hM6
  have HP6 := Lib.hid (pgs_of_own ho6)
  have HE6 : Hid (Below w.heap.size w w6) := HE4.out.trans (h46.mono HE4.out.size)
  have HR6 : Hid (RowsAt w6 (some ⟨g, subO o cap fi, none⟩) (L.drop fi)) := (HR4.out.up h46 (Nat.le_refl _)).drop _ (by have h1 := HL.out; have h2 := HKS.out; omega)
  clear hM6 h46 hK6 ho6 o6 f8 hb8 hk HE4 HR4
  simp only [opsBP, List.getElem_toArray, List.getElem_cons_succ, List.getElem_cons_zero, List.drop_succ_cons, List.drop_zero]
  go_wp2
  refine regionBL b8 g o k cap n x fi zeroR a6 c6 w6.heap.size w6 HM6.out rfl (by have := HKS.out; omega) HKS.out.2.2.1 (Nat.le_refl _) ?_
  intro vs2 w7 hv2 hk2
  obtain ⟨lk, v10, hlk, f10⟩ := hv2 6 (by omega)
  rw [v10]
  clear hv2 v10
  have hqe : k - fi = n := by have := HKS.out; omega
  rw [hqe] at f10
  have HL7 := Lib.hid f10
  have HB7 : Hid (∀ w', Below lk w7 w' -> Below w6.heap.size w6 w') := fun w' h => Below.trans hk2 (h.mono hlk)
  have HP7 : Hid (∀ w', Below lk w7 w' -> PgsAt w' a6 P) := fun w' h => HP6.out.up (HB7.out w' h) (Nat.le_refl _)
  have HQ7 : Hid (∀ w', Below lk w7 w' -> RowsAt w' (some ⟨g, subO o cap fi, none⟩) (L.drop fi)) := fun w' h => HR6.out.up (HB7.out w' h) (Nat.le_refl _)
  have HE7 : Hid (Below w.heap.size w w7) := HE6.out.trans (hk2.mono HE6.out.size)
  have HLS : Hid (w.heap.size <= lk /\ lk < w7.heap.size) := ⟨by have := HE6.out.size; omega, lt_of_block f10⟩
  clear f10 hk2 hlk HM6 HP6 HE6 HR6 hqe
  go_wp2
  have HF8 : Hid ((w7.alloc (.cells #[.func (.func 23) #[.pointer (some ⟨lk, 0, none⟩)] #[], .func (.func 24) #[.pointer (some ⟨lk, 0, none⟩)] #[], .func (.func 25) #[.pointer (some ⟨lk, 0, none⟩)] #[], .func (.func 26) #[.pointer (some ⟨lk, 0, none⟩)] #[]] 1)).heap[w7.heap.size]? = some (.cells #[.func (.func 23) #[.pointer (some ⟨lk, 0, none⟩)] #[], .func (.func 24) #[.pointer (some ⟨lk, 0, none⟩)] #[], .func (.func 25) #[.pointer (some ⟨lk, 0, none⟩)] #[], .func (.func 26) #[.pointer (some ⟨lk, 0, none⟩)] #[]] 1 (0, 0))) := heap_new' _ _
  have HL8 : Hid (LkAt (w7.alloc (.cells #[.func (.func 23) #[.pointer (some ⟨lk, 0, none⟩)] #[], .func (.func 24) #[.pointer (some ⟨lk, 0, none⟩)] #[], .func (.func 25) #[.pointer (some ⟨lk, 0, none⟩)] #[], .func (.func 26) #[.pointer (some ⟨lk, 0, none⟩)] #[]] 1)) lk x zeroR (.slice a6 n c6) (.slice (some ⟨g, subO o cap fi, none⟩) n (cap - fi)) (.slice none 0 0) (.slice none 0 0)) := (heap_old' _ _ _ HLS.out.2).trans HL7.out
  have HB8 : Hid (Below lk w7 (w7.alloc (.cells #[.func (.func 23) #[.pointer (some ⟨lk, 0, none⟩)] #[], .func (.func 24) #[.pointer (some ⟨lk, 0, none⟩)] #[], .func (.func 25) #[.pointer (some ⟨lk, 0, none⟩)] #[], .func (.func 26) #[.pointer (some ⟨lk, 0, none⟩)] #[]] 1))) := (below_box w7 _).mono (Nat.le_of_lt HLS.out.2)
  have HE8 : Hid (Below w.heap.size w (w7.alloc (.cells #[.func (.func 23) #[.pointer (some ⟨lk, 0, none⟩)] #[], .func (.func 24) #[.pointer (some ⟨lk, 0, none⟩)] #[], .func (.func 25) #[.pointer (some ⟨lk, 0, none⟩)] #[], .func (.func 26) #[.pointer (some ⟨lk, 0, none⟩)] #[]] 1))) := HE7.out.trans ((below_box w7 _).mono HE7.out.size)
  have HW8 : Hid (w.heap.size <= (w7.alloc (.cells #[.func (.func 23) #[.pointer (some ⟨lk, 0, none⟩)] #[], .func (.func 24) #[.pointer (some ⟨lk, 0, none⟩)] #[], .func (.func 25) #[.pointer (some ⟨lk, 0, none⟩)] #[], .func (.func 26) #[.pointer (some ⟨lk, 0, none⟩)] #[]] 1)).heap.size) := HE8.out.size
  generalize (w7.alloc (.cells #[.func (.func 23) #[.pointer (some ⟨lk, 0, none⟩)] #[], .func (.func 24) #[.pointer (some ⟨lk, 0, none⟩)] #[], .func (.func 25) #[.pointer (some ⟨lk, 0, none⟩)] #[], .func (.func 26) #[.pointer (some ⟨lk, 0, none⟩)] #[]] 1)) = w8 at *
  go_loopw [58] (fun vi wr => ∃ j : Nat, j <= 4 /\ vi = .int .i64 (j : Int) /\ ∃ fv F, Hid (F = if j = 0 then [] else trK (L.drop fi) n) /\ Hid (j = 0 -> fv = .slice none 0 0) /\ Hid (LkAt wr lk x zeroR (.slice a6 n c6) (.slice (some ⟨g, subO o cap fi, none⟩) n (cap - fi)) fv (.slice none 0 0)) /\ Hid (wr.ownsRow w8.heap.size 67 2 fv F.length (cellsF F)) /\ Hid (wr.heap[w7.heap.size]? = some (.cells #[.func (.func 23) #[.pointer (some ⟨lk, 0, none⟩)] #[], .func (.func 24) #[.pointer (some ⟨lk, 0, none⟩)] #[], .func (.func 25) #[.pointer (some ⟨lk, 0, none⟩)] #[], .func (.func 26) #[.pointer (some ⟨lk, 0, none⟩)] #[]] 1 (0, 0))) /\ Hid (Below lk w7 wr) /\ Hid (Below w.heap.size w wr) /\ Hid (w8.heap.size <= wr.heap.size)) (fun vi _ => 4 - (intOf vi).toNat)
  case atStart => exact ⟨0, by omega, rfl, _, [], rfl, fun _ => rfl, HL8.out, World.ownsRow_nil _ _ _ _, HF8.out, HB8.out, HE8.out, Nat.le_refl _⟩
  case round =>
   clear HF8 HL8 HB8 HE8 HL7 HE7
   obtain ⟨j, hj4, rfl, fv, F, hF, hnil, hlk, hown, hf, hbel, hbw, hsz⟩ := hrel
   by_cases hlt : j < 4
   ·have hd : decide ((j : Int) < 4) = true := by simp; omega
    have dl : (j : Int) < 4 := by omega
    have dk0 : ¬ (j : Int) < 0 := by omega
    have ek : IntKind.i64.wrap ((j : Int) + 1) = (j : Int) + 1 := IntWalk.i64_in _ (by omega)
    have hc : j = 0 \/ j = 1 \/ j = 2 \/ j = 3 := by omega
    have HLEN : Hid ((L.drop fi).length = n) := by show _ = _; rw [List.length_drop, HL.out]; have := HKS.out; omega
    clear hj4 hlt
    rcases hc with hj | hj | hj | hj
    ·have cc : wr.cell? ⟨w7.heap.size, j, none⟩ = some (.func (.func 23) #[.pointer (some ⟨lk, 0, none⟩)] #[]) := by rw [cells_at hf.out j, hj]; rfl
     have HJ := Lib.hid hj
     have HC := Lib.hid (lbytes_c2 lk x zeroR rfl a6 n c6 (some ⟨g, subO o cap fi, none⟩) (cap - fi) (.slice none 0 0) P HKS.out.2.2.2.2 HKS.out.2.1 HZ.out (L.drop fi) HLEN.out (fun l hl => H256.out l (List.mem_of_mem_drop hl)) wr (by have := hlk.out; rw [hnil.out hj] at this; exact this) (fun w' h => HP7.out w' (hbel.out.trans h)) (fun w' h => HQ7.out w' (hbel.out.trans h)))
     clear hj
     go_wp2_with fail
     refine HC.out.mono ?_
     rintro e w9 ⟨⟨u, rfl⟩, fv9, hl9, ho9, hb9, hs9⟩
     have HF9 := Lib.hid ((hs9 _ (lt_of_block hf.out) (by have := HLS.out; omega)).trans hf.out)
     have HL9 := Lib.hid hl9
     have HO9 := Lib.hid (own_mono ho9 (show w8.heap.size <= wr.heap.size from hsz.out))
     have HB9 : Hid (Below lk w7 w9) := hbel.out.trans hb9
     have HE9 : Hid (Below w.heap.size w w9) := hbw.out.trans (hb9.mono HLS.out.1)
     have HS9 : Hid (w8.heap.size <= w9.heap.size) := Nat.le_trans hsz.out hb9.size
     clear hl9 ho9 hb9 hs9 cc
     go_wp2
     go_roundw
     case rel => exact ⟨j + 1, by have := HJ.out; omega, by go_num, fv9, _, by show _ = _; rw [if_neg (by omega)], fun h => by omega, HL9.out, HO9.out, HF9.out, HB9.out, HE9.out, HS9.out⟩
     case measure => simp [intOf]; have := HJ.out; omega
    ·have cc : wr.cell? ⟨w7.heap.size, j, none⟩ = some (.func (.func 24) #[.pointer (some ⟨lk, 0, none⟩)] #[]) := by rw [cells_at hf.out j, hj]; rfl
     have HJ := Lib.hid hj
     have HC := Lib.hid (lfind_c lk x zeroR rfl a6 n c6 _ fv _ P HKS.out.2.2.2.2 HKS.out.2.1 HZ.out wr hlk.out (HP7.out wr hbel.out))
     clear hj
     go_wp2_with fail
     refine HC.out.mono ?_
     rintro e w9 ⟨⟨u, rfl⟩, hb9⟩
     have HF9 := Lib.hid ((hb9.block _ (lt_of_block hf.out)).trans hf.out)
     have HL9 := Lib.hid ((hb9.block _ (lt_of_block hlk.out)).trans hlk.out)
     have HO9 := Lib.hid (own_up hown.out hb9)
     have HB9 : Hid (Below lk w7 w9) := hbel.out.trans (hb9.mono (Nat.le_of_lt (lt_of_block hlk.out)))
     have HE9 : Hid (Below w.heap.size w w9) := hbw.out.trans (hb9.mono hbw.out.size)
     have HS9 : Hid (w8.heap.size <= w9.heap.size) := Nat.le_trans hsz.out hb9.size
     clear hb9 cc
     go_wp2
     go_roundw
     case rel => exact ⟨j + 1, by have := HJ.out; omega, by go_num, fv, F, by show _ = _; rw [hF.out, if_neg (by have := HJ.out; omega), if_neg (by omega)], fun h => by omega, HL9.out, HO9.out, HF9.out, HB9.out, HE9.out, HS9.out⟩
     case measure => simp [intOf]; have := HJ.out; omega
    ·have cc : wr.cell? ⟨w7.heap.size, j, none⟩ = some (.func (.func 25) #[.pointer (some ⟨lk, 0, none⟩)] #[]) := by rw [cells_at hf.out j, hj]; rfl
     have HJ := Lib.hid hj
     have HC := Lib.hid (lserials_c lk x zeroR rfl _ _ fv wr hlk.out)
     clear hj
     go_wp2_with fail
     refine HC.out.mono ?_
     rintro e w9 ⟨⟨u, rfl⟩, hb9⟩
     have HF9 := Lib.hid ((hb9.block _ (lt_of_block hf.out)).trans hf.out)
     have HL9 := Lib.hid ((hb9.block _ (lt_of_block hlk.out)).trans hlk.out)
     have HO9 := Lib.hid (own_up hown.out hb9)
     have HB9 : Hid (Below lk w7 w9) := hbel.out.trans (hb9.mono (Nat.le_of_lt (lt_of_block hlk.out)))
     have HE9 : Hid (Below w.heap.size w w9) := hbw.out.trans (hb9.mono hbw.out.size)
     have HS9 : Hid (w8.heap.size <= w9.heap.size) := Nat.le_trans hsz.out hb9.size
     clear hb9 cc
     go_wp2
     go_roundw
     case rel => exact ⟨j + 1, by have := HJ.out; omega, by go_num, fv, F, by show _ = _; rw [hF.out, if_neg (by have := HJ.out; omega), if_neg (by omega)], fun h => by omega, HL9.out, HO9.out, HF9.out, HB9.out, HE9.out, HS9.out⟩
     case measure => simp [intOf]; have := HJ.out; omega
    ·have cc : wr.cell? ⟨w7.heap.size, j, none⟩ = some (.func (.func 26) #[.pointer (some ⟨lk, 0, none⟩)] #[]) := by rw [cells_at hf.out j, hj]; rfl
     have HJ := Lib.hid hj
     have HC := Lib.hid (lroots_c lk x _ _ fv _ wr hlk.out)
     clear hj
     go_wp2_with fail
     refine HC.out.mono ?_
     rintro e w9 ⟨⟨u, rfl⟩, hb9⟩
     have HF9 := Lib.hid ((hb9.block _ (lt_of_block hf.out)).trans hf.out)
     have HL9 := Lib.hid ((hb9.block _ (lt_of_block hlk.out)).trans hlk.out)
     have HO9 := Lib.hid (own_up hown.out hb9)
     have HB9 : Hid (Below lk w7 w9) := hbel.out.trans (hb9.mono (Nat.le_of_lt (lt_of_block hlk.out)))
     have HE9 : Hid (Below w.heap.size w w9) := hbw.out.trans (hb9.mono hbw.out.size)
     have HS9 : Hid (w8.heap.size <= w9.heap.size) := Nat.le_trans hsz.out hb9.size
     clear hb9 cc
     go_wp2
     go_roundw
     case rel => exact ⟨j + 1, by have := HJ.out; omega, by go_num, fv, F, by show _ = _; rw [hF.out, if_neg (by have := HJ.out; omega), if_neg (by omega)], fun h => by omega, HL9.out, HO9.out, HF9.out, HB9.out, HE9.out, HS9.out⟩
     case measure => simp [intOf]; have := HJ.out; omega
   ·have hj : j = 4 := by omega
    subst hj
    have hF4 : F = trK (L.drop fi) n := hF.out
    have c9 := (cells_at hlk.out 19).trans (lkA_19 rfl _ _ _ _)
    have hown4 : wr.ownsRow w.heap.size 67 2 fv (trK (L.drop fi) n).length (cellsF (trK (L.drop fi) n)) := by
     rw [<- hF4]; exact own_mono hown.out HW8.out
    have HO4 := Lib.hid hown4
    clear hF4 hown4 hj4 hlt
    go_wp2
    go_ret2
    exact ⟨fv, rfl, HO4.out, hbw.out⟩
def zB : List Nat := List.replicate 256 0
def rowOf (b : Nat) : Value := .slice (some ⟨b, 0, none⟩) 256 256
/-- fresh blank blocks -/
structure Blk (w : World) (B : Nat) (v : Value) (n : Nat) (fs : List Nat) : Prop where
 len : fs.length = n
 nd : fs.Nodup
 blk : ∀ b ∈ fs, B <= b /\ w.heap[b]? = some (.cells (bA zB) 5 (0, 0))
 own : w.ownsRow B 47 1 v n (fs.map rowOf)
theorem Blk.nil (w : World) (B : Nat) : Blk w B (.slice none 0 0) 0 [] := ⟨rfl, List.nodup_nil, (fun b h => by cases h), World.ownsRow_nil _ _ _ _⟩
theorem Blk.up {w w' : World} {B n : Nat} {v : Value} {fs : List Nat} (h : Blk w B v n fs) (hb : Below w.heap.size w w') : Blk w' B v n fs :=
 ⟨h.len, h.nd, fun b hm => ⟨(h.blk b hm).1, (hb.block _ (lt_of_block (h.blk b hm).2)).trans (h.blk b hm).2⟩, own_up h.own hb⟩
theorem Blk.snoc {w w2 : World} {B n b : Nat} {v v' : Value} {fs : List Nat} (h : Blk w B v n fs) (hb : B <= b) (hnew : b ∉ fs) (hz : w.heap[b]? = some (.cells (bA zB) 5 (0, 0))) (hown : w2.ownsRow B 47 1 v' (n + 1) (fs.map rowOf ++ [rowOf b])) (hgr : w.grownBy w2 v.ownBlock) : Blk w2 B v' (n + 1) (fs ++ [b]) := by
 have key : ∀ (q : Nat), w.heap[q]? = some (Obj.cells (bA zB) 5 (0, 0)) -> w2.heap[q]? = some (Obj.cells (bA zB) 5 (0, 0)) := fun q hq => (hgr.block q (lt_of_block hq) (fun e => by
  rcases h.own.2 with ⟨h9, _⟩ | ⟨g9, cap9, cur9, e1, e2, e3, e4⟩
  ·rw [h9] at e; cases e
  ·rw [e1] at e; cases e
   rw [e3] at hq; cases hq)).trans hq
 refine ⟨by rw [List.length_append, h.len]; rfl, ?_, ?_, by rw [List.map_append]; exact hown⟩
 ·rw [List.nodup_append]
  refine ⟨h.nd, by simp, fun a ha c hc => ?_⟩
  have hcb : c = b := by simpa using hc
  intro e
  exact hnew (by rw [<- hcb, <- e]; exact ha)
 ·intro q hq
  rcases List.mem_append.1 hq with h1 | h1
  ·exact ⟨(h.blk q h1).1, key q (h.blk q h1).2⟩
  ·have : q = b := by simpa using h1
   subst this
   exact ⟨hb, key q hz⟩
theorem blank_c (n : Nat) (t : Int) (hn : n <= 64) (w : World) :
  Calls Tryz.prog 4 #[.agg #[.int .i64 (n : Int), .int .i64 t]] w fun e w' => ∃ v fs, e = .returned v /\ Blk w' w.heap.size v (sealedN n) fs /\ Below w.heap.size w w' := by
 have HG : Hid ((w.alloc (.cells #[.int .i64 (n : Int), .int .i64 t] 31)).heap[w.heap.size]? = some (.cells #[.int .i64 (n : Int), .int .i64 t] 31 (0, 0))) := heap_new' _ _
 have HE : Hid (Below w.heap.size w (w.alloc (.cells #[.int .i64 (n : Int), .int .i64 t] 31))) := below_box _ _
 have HSL := Lib.hid (fun w => rgSealed_c n t hn w)
 have hmk : ∀ w : World, (Instr.makeSlice 47 (.int .i64 256) (.int .i64 256)).run Tryz.prog w = .ok (.slice (some ⟨w.heap.size, 0, none⟩) 256 256) (w.alloc (.cells (bA zB) 5)) := fun w => mk_bytes 256 (by omega) w
 have hsm : sealedN n <= 70 := by have := mapsN_le n hn; unfold sealedN; omega
 obtain ⟨m, hm⟩ : ∃ m, m = sealedN n := ⟨_, rfl⟩
 rw [<- hm] at HSL hsm ⊢
 have HSM := Lib.hid hsm
 clear hm hn hsm
 go_enter Tryz.func4, Tryz.ntmps4
 go_wp2
 generalize (w.alloc (.cells #[.int .i64 (n : Int), .int .i64 t] 31)) = w0 at *
 go_loopw [3, 4] (fun v vi wr => ∃ k : Nat, k <= m /\ vi = .int .i64 (k : Int) /\ ∃ fs a c, v = .slice a k c /\ Hid (Blk wr w.heap.size v k fs) /\ Hid (wr.heap[w.heap.size]? = some (.cells #[.int .i64 (n : Int), .int .i64 t] 31 (0, 0))) /\ Hid (Below w.heap.size w wr)) (fun _ vi _ => m - (intOf vi).toNat)
 case atStart => exact ⟨0, by omega, rfl, [], none, 0, rfl, Blk.nil _ _, HG.out, HE.out⟩
 case round =>
  clear HG HE
  obtain ⟨k, hk, rfl, fs, a, c, rfl, hblk, hg, hbel⟩ := hrel
  have HK : Hid (k <= m) := hk
  by_cases hlt : k < m
  ·have hd : decide ((k : Int) < (m : Int)) = true := by simp; omega
   have dl : (k : Int) < (m : Int) := by omega
   have HLT := Lib.hid hlt
   have ek : IntKind.i64.wrap ((k : Int) + 1) = (k : Int) + 1 := by have := HSM.out; exact IntWalk.i64_in _ (by omega)
   clear hk hlt
   go_wp2_with (first
    | (refine wpList_load_row rfl 31 (.tmp 1) rfl w.heap.size rfl _ _ _ _ hg.out Tryz.underlying31 rfl (by rw [geo2]; rfl) ?_)
    | fail)
   refine (HSL.out _).mono ?_
   rintro e w1 ⟨rfl, hb1⟩
   have HB1 := Lib.hid (hblk.out.up hb1)
   have HG1 := Lib.hid ((hb1.block _ (lt_of_block hg.out)).trans hg.out)
   have HE1 : Hid (Below w.heap.size w w1) := hbel.out.trans (hb1.mono hbel.out.size)
   clear hb1 hblk hg hbel
   have hb2 := below_box w1 (.cells (bA zB) 5)
   have hn2 : (w1.alloc (.cells (bA zB) 5)).heap[w1.heap.size]? = some (.cells (bA zB) 5 (0, 0)) := heap_new' _ _
   have hz2 : (w1.alloc (.cells (bA zB) 5)).heap.size = w1.heap.size + 1 := World.size_alloc _ _
   have hb3 := below_box (w1.alloc (.cells (bA zB) 5)) (.cells #[rowOf w1.heap.size] 47)
   have hn3 : ((w1.alloc (.cells (bA zB) 5)).alloc (.cells #[rowOf w1.heap.size] 47)).heap[(w1.alloc (.cells (bA zB) 5)).heap.size]? = some (.cells #[rowOf w1.heap.size] 47 (0, 0)) := heap_new' _ _
   have hbb : Blk (w1.alloc (.cells (bA zB) 5)) w.heap.size (.slice a k c) k fs := HB1.out.up hb2
   have HB3 : Hid (Blk ((w1.alloc (.cells (bA zB) 5)).alloc (.cells #[rowOf w1.heap.size] 47)) w.heap.size (.slice a k c) k fs) := hbb.up hb3
   have HN3 : Hid (((w1.alloc (.cells (bA zB) 5)).alloc (.cells #[rowOf w1.heap.size] 47)).heap[w1.heap.size]? = some (.cells (bA zB) 5 (0, 0))) := (hb3.block _ (lt_of_block hn2)).trans hn2
   have HC3 : Hid (((w1.alloc (.cells (bA zB) 5)).alloc (.cells #[rowOf w1.heap.size] 47)).cell? ⟨w1.heap.size + 1, 0, none⟩ = some (rowOf w1.heap.size)) := by
    rw [hz2] at hn3; exact (cells_at hn3 0).trans rfl
   have HE3 : Hid (Below w.heap.size w ((w1.alloc (.cells (bA zB) 5)).alloc (.cells #[rowOf w1.heap.size] 47))) := HE1.out.trans ((hb2.trans (hb3.mono hb2.size)).mono HE1.out.size)
   have HS3 : Hid (w.heap.size <= ((w1.alloc (.cells (bA zB) 5)).alloc (.cells #[rowOf w1.heap.size] 47)).heap.size) := HE3.out.size
   have HG3 : Hid (((w1.alloc (.cells (bA zB) 5)).alloc (.cells #[rowOf w1.heap.size] 47)).heap[w.heap.size]? = some (.cells #[.int .i64 (n : Int), .int .i64 t] 31 (0, 0))) := by
    have h1 := (hb2.block _ (lt_of_block HG1.out)).trans HG1.out
    exact (hb3.block _ (lt_of_block h1)).trans h1
   have HNI : Hid (w1.heap.size ∉ fs) := fun hm => by have := lt_of_block (HB1.out.blk _ hm).2; omega
   have HS1 : Hid (w.heap.size <= w1.heap.size) := HE1.out.size
   have HGL : Hid (w.heap.size < w1.heap.size) := lt_of_block HG1.out
   have HX : Hid ((Value.slice a k c).ownBlock ≠ some w.heap.size) := fun e => by
    rcases HB1.out.own.2 with ⟨h9, _⟩ | ⟨g9, cap9, cur9, e1, e2, e3, e4⟩
    ·rw [h9] at e; cases e
    ·rw [e1] at e; cases e
     have h9 := e3.symm.trans HG1.out
     cases h9
   clear hb2 hn2 hz2 hb3 hn3 hbb
   go_wp2_with (first
    | (refine wpList_append_row (v := .slice a k c) (base := w.heap.size) (n := k) (xs := fs.map rowOf) (u := rowOf w1.heap.size) rfl (.tmp 11) (.tmp 13) rfl rfl HB3.out.own rfl HC3.out rfl (by have := HSM.out; have := HLT.out; omega) HS3.out ?_; intro v4 w4 hown4 hgr4; obtain ⟨a4, c4, rfl⟩ := own_sliceR hown4; have HB4 : Hid (Blk w4 w.heap.size (.slice a4 (k + 1) c4) (k + 1) (fs ++ [w1.heap.size])) := HB3.out.snoc HS1.out HNI.out HN3.out hown4 hgr4; have HE4 : Hid (Below w.heap.size w w4) := HE3.out.grown hgr4 HS3.out (fun q hq => own_base HB3.out.own q hq); have HG4 : Hid (w4.heap[w.heap.size]? = some (.cells #[.int .i64 (n : Int), .int .i64 t] 31 (0, 0))) := (hgr4.block _ (lt_of_block HG3.out) (fun e => HX.out e.symm)).trans HG3.out; clear hown4 hgr4)
    | fail)
   go_roundw
   case rel => exact ⟨k + 1, by have := HLT.out; omega, by go_num, fs ++ [w1.heap.size], a4, c4, rfl, HB4.out, HG4.out, HE4.out⟩
   case measure => simp [intOf]; have := HLT.out; omega
  ·have hd : decide ((k : Int) < (m : Int)) = false := by simp; omega
   have dl : ¬ (k : Int) < (m : Int) := by omega
   have hkm : k = m := by omega
   subst hkm
   go_wp2_with (first
    | (refine wpList_load_row rfl 31 (.tmp 1) rfl w.heap.size rfl _ _ _ _ hg.out Tryz.underlying31 rfl (by rw [geo2]; rfl) ?_)
    | fail)
   refine (HSL.out _).mono ?_
   rintro e w1 ⟨rfl, hb1⟩
   have HB1 := Lib.hid (hblk.out.up hb1)
   have HE1 : Hid (Below w.heap.size w w1) := hbel.out.trans (hb1.mono hbel.out.size)
   clear hb1 hblk hg hbel
   go_wp2
   go_ret
   exact ⟨_, fs, rfl, HB1.out, HE1.out⟩
end Go.Proofs.YtpbmjfjnmcpieaaGreat
